--%!
/- Contracts: shifted phases, reference and program alike; the laws' marks on phases, their comparison. Own work. -/
import Derived.Test.YtklmoeolehdjeaaJoin
import Derived.Test.YtklmoeolehdjeaaWMark
namespace Go.Proofs.Ytklmoeolehdjeaa
open Go.ChangeShapes Go.WideShapes Go.ChangeAt Go.RowKit
set_option linter.unusedVariables false
set_option maxRecDepth 100000
set_option maxHeartbeats 1000000

noncomputable def shJ (ps : List (ByteArray × Int)) (t : Int) : List (ByteArray × Int) := joinB (rot (tn ps) (remOf t ((tn ps).length : Int)).toNat)
noncomputable def shL (ps : List (ByteArray × Int)) (t : Int) : List (ByteArray × Int) := if okPh ps = true ∧ (shJ ps t).length ≤ 40 then shJ ps t else []
noncomputable def shE (ps : List (ByteArray × Int)) (t : Int) : Int := if okPh ps = true then (if (shJ ps t).length ≤ 40 then 0 else 5) else 1
theorem shL_f {ps : List (ByteArray × Int)} {t : Int} (h : okPh ps = false) : shL ps t = [] := if_neg (fun k => by have := k.1; rw [h] at this; cases this)
theorem shE_f {ps : List (ByteArray × Int)} {t : Int} (h : okPh ps = false) : shE ps t = 1 := if_neg (by rw [h]; decide)
theorem shL_t {ps : List (ByteArray × Int)} {t : Int} (h : okPh ps = true) (k : (shJ ps t).length ≤ 40) : shL ps t = shJ ps t := if_pos ⟨h, k⟩
theorem shE_t {ps : List (ByteArray × Int)} {t : Int} (h : okPh ps = true) (k : (shJ ps t).length ≤ 40) : shE ps t = 0 := by unfold shE; rw [if_pos h, if_pos k]
theorem shL_l {ps : List (ByteArray × Int)} {t : Int} (h : okPh ps = true) (k : ¬ (shJ ps t).length ≤ 40) : shL ps t = [] := if_neg (fun q => k q.2)
theorem shE_l {ps : List (ByteArray × Int)} {t : Int} (h : okPh ps = true) (k : ¬ (shJ ps t).length ≤ 40) : shE ps t = 5 := by unfold shE; rw [if_pos h, if_neg k]
theorem shL_len (ps : List (ByteArray × Int)) (t : Int) : (shL ps t).length ≤ 40 := by
  unfold shL
  split
  · rename_i h; exact h.2
  · simp
theorem retPh {A : Option Addr} {n c n' : Nat} {b b' : Int} (h : n = n') (k : b = b') : Ending.returned (.tuple #[.slice A n c, .int .i64 b]) = .returned (.tuple #[.slice A n' c, .int .i64 b']) := by rw [h, k]
theorem fewJ (n m : Int) (w : World) : Calls Try.prog 71 #[.int .i64 n, .int .i64 m] w fun e w' => e = .returned (.bool (decide (n ≤ m))) ∧ w = w' := by
  go_enter Try.func71, Try.ntmps71
  go_wp2
  go_ret
  exact ⟨rfl, rfl⟩
theorem shiftI (w : World) (g n c : Nat) (ps : List (ByteArray × Int)) (hn : ps.length = n) (hm : n ≤ 1048576) (hf : PhFit ps) (hp : PhAt w g 0 ps) (hg : g < w.heap.size) (t : Int) (ht : -9223372036854775808 ≤ t) (hu : t ≤ 9223372036854775807) :
    Calls Try.prog 38 #[.slice (some ⟨g, 0, none⟩) n c, .int .i64 t] w fun e w' => ∃ A c', e = .returned (.tuple #[.slice A (shL ps t).length c', .int .i64 (shE ps t)]) ∧ LsPh w' w.heap.size A (shL ps t) ∧ Below w.heap.size w w' := by
  have C := hide (validI g n c ps hn hm hf w hp hg)
  have HP := hide hp
  have HN := hide hn
  have HF := hide hf
  cases h : okPh ps
  · have E0 := hide (shL_f (t := t) h)
    have E1 := hide (shE_f (t := t) h)
    clear hp hf hn
    go_enter Try.func38, Try.ntmps38
    go_wp2_with fail
    refine C.out.mono ?_
    rw [h]
    rintro e w1 ⟨rfl, hb1⟩
    clear C h
    go_wp2_with fail
    go_returns
    exact ⟨_, _, retPh (by rw [E0.out]; rfl) E1.out.symm, by rw [E0.out]; exact LsPh.nil _ _ _, hb1⟩
  · have HV := hide h
    obtain ⟨p1, p2, p3, p4⟩ := okPh_parts h
    have HA := hide p1
    have hn40 : n ≤ 40 := by omega
    have p5 := tn_le p1 p4
    have p6 := tn_pos p1 p2
    have r0 : 0 ≤ remOf t ((tn ps).length : Int) := Int.emod_nonneg _ (by omega)
    have r1 : remOf t ((tn ps).length : Int) < ((tn ps).length : Int) := Int.emod_lt_of_pos _ (by omega)
    have hJ : Hid (shJ ps t = joinB (rot (tn ps) (remOf t ((tn ps).length : Int)).toNat)) := hide rfl
    obtain ⟨m, hm2⟩ : ∃ m : Nat, remOf t ((tn ps).length : Int) = (m : Int) := Int.eq_ofNat_of_zero_le r0
    have hml : m < (tn ps).length := by omega
    rw [hm2, Int.toNat_natCast] at hJ
    have HM := hide hm2
    clear hp hf hn p1 r0 r1 hm2
    go_enter Try.func38, Try.ntmps38
    go_wp2_with fail
    refine C.out.mono ?_
    rw [h]
    rintro e w1 ⟨rfl, hb1⟩
    have hg1 := Nat.lt_of_lt_of_le hg hb1.size
    have HP1 := hide (HP.out.below hb1 hg)
    clear C h
    go_wp2_with fail
    refine (tenthsI g n c ps HN.out hn40 HA.out w1 HP1.out hg1).mono ?_
    rintro e w2 ⟨v, rfl, ho, hb2⟩
    obtain ⟨g2, c2, rfl, hc2, hc3, -, hg2, hc⟩ := Owns.form' ho p6
    have hB2 := below_next (w0 := w) hb2 hb1
    have HT2 := hide hc
    have HRL := rot_len (tn ps) m (by omega)
    clear ho hb1 hb2 hc
    go_wp2_with fail
    refine (modI t _ (by omega) (by omega) ht hu _).mono ?_
    rw [HM.out]
    rintro e w' ⟨rfl, rfl⟩
    go_wp2_with fail
    refine (rotI g2 c2 m (tn ps) p6 p5 hml hc2 hc3 _ HT2.out hg2).mono ?_
    rintro e w3 ⟨v, rfl, ho, hb3⟩
    obtain ⟨g3, c3, rfl, hc4, hc5, -, hg3, hc⟩ := Owns.form' ho (by omega)
    have hB3 := below_next (w0 := w) hb3 hB2
    have HT3 := hide hc
    clear ho hb3 hc hB2
    obtain ⟨q, hq⟩ : ∃ q, rot (tn ps) m = q := ⟨_, rfl⟩
    rw [hq] at HT3 HRL hJ ⊢
    have hq6 : q.length ≤ 600 := by omega
    clear HRL hq
    go_wp2_with fail
    refine (joinI g3 c3 q (by omega) _ HT3.out hg3).mono ?_
    rintro e w4 ⟨A4, c4, rfl, hl4, hb4⟩
    have hB4 := below_next (w0 := w) hb4 hB3
    have HL4 := hide (hl4.less hB3.size)
    have hjl := joinB_len q
    rw [← hJ.out] at HL4 hjl ⊢
    clear hl4 hb4 hB3 HT3
    by_cases h40 : (shJ ps t).length ≤ 40
    · have E0 := hide (shL_t HV.out h40)
      have E1 := hide (shE_t HV.out h40)
      have z1 : decide (((shJ ps t).length : Int) ≤ 40) = true := decide_eq_true (by omega)
      go_wp2_with fail
      refine (fewJ _ _ _).mono ?_
      rintro e w' ⟨rfl, rfl⟩
      go_wp2_with fail
      go_returns
      exact ⟨A4, c4, retPh (by rw [E0.out]) E1.out.symm, by rw [E0.out]; exact HL4.out, hB4⟩
    · have E0 := hide (shL_l HV.out h40)
      have E1 := hide (shE_l HV.out h40)
      have z1 : decide (((shJ ps t).length : Int) ≤ 40) = false := decide_eq_false (by omega)
      go_wp2_with fail
      refine (fewJ _ _ _).mono ?_
      rintro e w' ⟨rfl, rfl⟩
      go_wp2_with fail
      go_returns
      exact ⟨_, _, retPh (by rw [E0.out]; rfl) E1.out.symm, by rw [E0.out]; exact LsPh.nil _ _ _, hB4⟩
theorem shiftS (w : World) (g n c : Nat) (ps : List (ByteArray × Int)) (hn : ps.length = n) (hm : n ≤ 1048576) (hf : PhFit ps) (hp : PhAt w g 0 ps) (hg : g < w.heap.size) (t : Int) (ht : -9223372036854775808 ≤ t) (hu : t ≤ 9223372036854775807) :
    Calls Try.prog 37 #[.slice (some ⟨g, 0, none⟩) n c, .int .i64 t] w fun e w' => ∃ A c', e = .returned (.tuple #[.slice A (shL ps t).length c', .int .i64 (shE ps t)]) ∧ LsPh w' w.heap.size A (shL ps t) ∧ Below w.heap.size w w' := by
  have C := hide (l06OkS_b w g n c ps hn hm hf hp hg)
  have HP := hide hp
  have HN := hide hn
  have HF := hide hf
  cases h : okPh ps
  · have E0 := hide (shL_f (t := t) h)
    have E1 := hide (shE_f (t := t) h)
    clear hp hf hn
    go_enter Try.func37, Try.ntmps37
    go_wp2_with fail
    refine C.out.mono ?_
    rw [h]
    rintro e w1 ⟨rfl, hb1⟩
    clear C h
    go_wp2_with fail
    go_returns
    exact ⟨_, _, retPh (by rw [E0.out]; rfl) E1.out.symm, by rw [E0.out]; exact LsPh.nil _ _ _, hb1⟩
  · have HV := hide h
    obtain ⟨p1, p2, p3, p4⟩ := okPh_parts h
    have HA := hide p1
    have hn40 : n ≤ 40 := by omega
    have p5 := tn_le p1 p4
    have p6 := tn_pos p1 p2
    have r0 : 0 ≤ remOf t ((tn ps).length : Int) := Int.emod_nonneg _ (by omega)
    have r1 : remOf t ((tn ps).length : Int) < ((tn ps).length : Int) := Int.emod_lt_of_pos _ (by omega)
    have hJ : Hid (shJ ps t = joinB (rot (tn ps) (remOf t ((tn ps).length : Int)).toNat)) := hide rfl
    obtain ⟨m, hm2⟩ : ∃ m : Nat, remOf t ((tn ps).length : Int) = (m : Int) := Int.eq_ofNat_of_zero_le r0
    have hml : m < (tn ps).length := by omega
    rw [hm2, Int.toNat_natCast] at hJ
    have HM := hide hm2
    clear hp hf hn p1 r0 r1 hm2
    go_enter Try.func37, Try.ntmps37
    go_wp2_with fail
    refine C.out.mono ?_
    rw [h]
    rintro e w1 ⟨rfl, hb1⟩
    have hg1 := Nat.lt_of_lt_of_le hg hb1.size
    have HP1 := hide (HP.out.below hb1 hg)
    clear C h
    go_wp2_with fail
    refine (tenthsS g n c ps HN.out hn40 HA.out w1 HP1.out hg1).mono ?_
    rintro e w2 ⟨v, rfl, ho, hb2⟩
    obtain ⟨g2, c2, rfl, hc2, hc3, -, hg2, hc⟩ := Owns.form' ho p6
    have hB2 := below_next (w0 := w) hb2 hb1
    have HT2 := hide hc
    have HRL := rot_len (tn ps) m (by omega)
    clear ho hb1 hb2 hc
    go_wp2_with fail
    refine (modS t _ (by omega) (by omega) ht hu _).mono ?_
    rw [HM.out]
    rintro e w' ⟨rfl, rfl⟩
    go_wp2_with fail
    refine (joinS g2 c2 m (tn ps) p6 p5 hml _ HT2.out hg2).mono ?_
    rintro e w4 ⟨A4, c4, rfl, hl4, hb4⟩
    have hB4 := below_next (w0 := w) hb4 hB2
    have HL4 := hide (hl4.less hB2.size)
    rw [← hJ.out] at HL4 ⊢
    clear hl4 hb4 hB2 HT2
    by_cases h40 : (shJ ps t).length ≤ 40
    · have E0 := hide (shL_t HV.out h40)
      have E1 := hide (shE_t HV.out h40)
      have z1 : decide ((40 : Int) < ((shJ ps t).length : Int)) = false := decide_eq_false (by omega)
      go_wp2_with fail
      go_returns
      exact ⟨A4, c4, retPh (by rw [E0.out]) E1.out.symm, by rw [E0.out]; exact HL4.out, hB4⟩
    · have E0 := hide (shL_l HV.out h40)
      have E1 := hide (shE_l HV.out h40)
      have z1 : decide ((40 : Int) < ((shJ ps t).length : Int)) = true := decide_eq_true (by omega)
      go_wp2_with fail
      go_returns
      exact ⟨_, _, retPh (by rw [E0.out]; rfl) E1.out.symm, by rw [E0.out]; exact LsPh.nil _ _ _, hB4⟩
end Go.Proofs.Ytklmoeolehdjeaa
