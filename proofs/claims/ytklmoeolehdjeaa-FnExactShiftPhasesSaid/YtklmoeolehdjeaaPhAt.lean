--%!
/- Contracts: the length of a pattern, the light at a time, reference and program alike. Own work. -/
import Derived.Test.YtklmoeolehdjeaaPhTen
namespace Go.Proofs.Ytklmoeolehdjeaa
open Go.ChangeShapes Go.WideShapes Go.ChangeAt Go.RowKit
set_option linter.unusedVariables false
set_option maxRecDepth 100000
set_option maxHeartbeats 2000000

noncomputable def okV (ps : List (ByteArray × Int)) : Int := if okPh ps = true then 0 else 1
noncomputable def lenV (ps : List (ByteArray × Int)) : Int := if okPh ps = true then ((tn ps).length : Int) else 0
theorem okV_t {ps : List (ByteArray × Int)} (h : okPh ps = true) : okV ps = 0 := if_pos h
theorem okV_f {ps : List (ByteArray × Int)} (h : okPh ps = false) : okV ps = 1 := if_neg (by rw [h]; decide)
theorem lenV_t {ps : List (ByteArray × Int)} (h : okPh ps = true) : lenV ps = ((tn ps).length : Int) := if_pos h
theorem lenV_f {ps : List (ByteArray × Int)} (h : okPh ps = false) : lenV ps = 0 := if_neg (by rw [h]; decide)
theorem ret_two {a b c d : Value} (h : a = c) (k : b = d) : Ending.returned (.tuple #[a, b]) = .returned (.tuple #[c, d]) := by rw [h, k]
theorem ret_str {a b : ByteArray} (h : a = b) : Ending.returned (.string a) = .returned (.string b) := by rw [h]
theorem getD_at {l : List UInt8} {i : Nat} (h : i < l.length) : l.getD i 0 = l[i] := by rw [List.getD_eq_getElem?_getD, List.getElem?_eq_getElem h]; rfl
theorem int_eq {k : IntKind} {a b : Int} (h : a = b) : Value.int k a = .int k b := by rw [h]
def remOf (a b : Int) : Int := a % b
theorem modS (a b : Int) (h0 : 1 ≤ b) (h1 : b ≤ 1000000) (ha : -9223372036854775808 ≤ a) (hb : a ≤ 9223372036854775807) (w : World) :
    Calls Try.prog 57 #[.int .i64 a, .int .i64 b] w fun e w' => e = .returned (.int .i64 (remOf a b)) ∧ w = w' := by
  obtain ⟨hb1, hb2⟩ := tmod_bd a b (by omega)
  have H := hide (norm_mod a b (by omega))
  go_enter Try.func57, Try.ntmps57
  go_wp2
  go_ret
  exact ⟨ret_int H.out, rfl⟩
theorem modI (a b : Int) (h0 : 1 ≤ b) (h1 : b ≤ 1000000) (ha : -9223372036854775808 ≤ a) (hb : a ≤ 9223372036854775807) (w : World) :
    Calls Try.prog 58 #[.int .i64 a, .int .i64 b] w fun e w' => e = .returned (.int .i64 (remOf a b)) ∧ w = w' := by
  obtain ⟨hb1, hb2⟩ := tmod_bd a b (by omega)
  have H := hide (norm_mod a b (by omega))
  go_enter Try.func58, Try.ntmps58
  go_wp2
  go_ret
  exact ⟨ret_int H.out, rfl⟩
theorem nameS (b : UInt8) (w : World) :
    Calls Try.prog 56 #[.int .u8 b.toNat] w fun e w' => e = .returned (.string (nameOf b)) ∧ Below w.heap.size w w' := by
  by_cases h : b = 0
  · subst h
    go_enter Try.func56, Try.ntmps56
    go_wp2
    go_ret
    exact ⟨rfl, by go_grown⟩
  · have g : ((b.toNat : Int) == 0) = false := by
      have : b.toNat ≠ 0 := fun e => h (by rw [← UInt8.toNat_inj]; exact e)
      simp; omega
    have H : Hid (nameOf b = ⟨#[b]⟩) := hide (if_neg h)
    have hcv : (convert 59 9 (.slice (some ⟨w.heap.size, 0, none⟩) 1 1)).run Try.prog (w.alloc (.cells #[.int .u8 b.toNat] 5)) = .ok (.string ⟨#[b]⟩) (w.alloc (.cells #[.int .u8 b.toNat] 5)) := by
      refine run_convert_bytes_back _ _ _ 5 ⟨w.heap.size, 0, none⟩ 1 [b] Try.underlying59 Try.underlying5 Try.underlying9 ?_
      intro j hj
      match j, hj with
      | 0, _ => exact cell_of_row _ _ _ _ _ _ (heap_alloc_new w _)
    go_enter Try.func56, Try.ntmps56
    go_wp2
    go_ret
    exact ⟨ret_str H.out.symm, by go_grown⟩
theorem l06OkS_b (w : World) (g n c : Nat) (ps : List (ByteArray × Int)) (hn : ps.length = n) (hm : n ≤ 1048576) (hf : PhFit ps) (hp : PhAt w g 0 ps) (hg : g < w.heap.size) :
    Calls Try.prog 51 #[.slice (some ⟨g, 0, none⟩) n c] w fun e w' => e = .returned (.bool (okPh ps)) ∧ Below w.heap.size w w' :=
  (l06OkS g n c ps hn hm w hp).mono fun e w' ⟨he, hw⟩ => ⟨he, by subst hw; exact Below.refl _ _⟩
theorem tn_le {ps : List (ByteArray × Int)} (h : ps.all elOk = true) (h1 : sm ps ≤ 600) : (tn ps).length ≤ 600 := by have := tn_len h; omega
noncomputable def lightV (ps : List (ByteArray × Int)) (t : Int) : ByteArray := if okPh ps = true then nameOf ((tn ps).getD (remOf t ((tn ps).length : Int)).toNat 0) else ByteArray.empty
theorem lightV_f {ps : List (ByteArray × Int)} {t : Int} (h : okPh ps = false) : lightV ps t = ByteArray.empty := if_neg (by rw [h]; decide)
theorem lightV_t {ps : List (ByteArray × Int)} {t : Int} (h : okPh ps = true) : lightV ps t = nameOf ((tn ps).getD (remOf t ((tn ps).length : Int)).toNat 0) := if_pos h
theorem patLenI_b (w : World) (g n c : Nat) (ps : List (ByteArray × Int)) (hn : ps.length = n) (hm : n ≤ 1048576) (hf : PhFit ps) (hp : PhAt w g 0 ps) (hg : g < w.heap.size) :
    Calls Try.prog 26 #[.slice (some ⟨g, 0, none⟩) n c] w fun e w' => e = .returned (.tuple #[.int .i64 (lenV ps), .int .i64 (okV ps)]) ∧ Below w.heap.size w w' := by
  have C := hide (validI g n c ps hn hm hf w hp hg)
  have HP := hide hp
  have HN := hide hn
  have HF := hide hf
  cases h : okPh ps
  · have E0 := hide (int_eq (k := .i64) (lenV_f h))
    have E1 := hide (int_eq (k := .i64) (okV_f h))
    clear hp hf hn
    go_enter Try.func26, Try.ntmps26
    go_wp2_with fail
    refine C.out.mono ?_
    rw [h]
    rintro e w1 ⟨rfl, hb1⟩
    clear C h
    go_wp2_with fail
    go_returns
    exact ⟨ret_two E0.out.symm E1.out.symm, hb1⟩
  · have E0 := hide (int_eq (k := .i64) (lenV_t h))
    have E1 := hide (int_eq (k := .i64) (okV_t h))
    have HV := hide h
    obtain ⟨p1, p2, p3, p4⟩ := okPh_parts h
    have HA := hide p1
    have hn40 : n ≤ 40 := by omega
    have p5 := tn_le p1 p4
    have p6 := tn_pos p1 p2
    clear hp hf hn p1
    go_enter Try.func26, Try.ntmps26
    go_wp2_with fail
    refine C.out.mono ?_
    rw [h]
    rintro e w1 ⟨rfl, hb1⟩
    have hg1 := Nat.lt_of_lt_of_le hg hb1.size
    have HP1 := hide (HP.out.below hb1 hg)
    clear C h
    go_wp2_with fail
    refine (tenthsI g n c ps HN.out hn40 HA.out w1 HP1.out hg1).mono ?_
    rintro e w2 ⟨v, rfl, ho, hb2⟩
    obtain ⟨g2, c2, rfl, -, -, -⟩ := Owns.form ho p6
    have hB2 := below_next (w0 := w) hb2 hb1
    clear ho hb1 hb2
    go_wp2_with fail
    go_returns
    exact ⟨ret_two E0.out.symm E1.out.symm, hB2⟩
theorem patLenS_b (w : World) (g n c : Nat) (ps : List (ByteArray × Int)) (hn : ps.length = n) (hm : n ≤ 1048576) (hf : PhFit ps) (hp : PhAt w g 0 ps) (hg : g < w.heap.size) :
    Calls Try.prog 25 #[.slice (some ⟨g, 0, none⟩) n c] w fun e w' => e = .returned (.tuple #[.int .i64 (lenV ps), .int .i64 (okV ps)]) ∧ Below w.heap.size w w' := by
  have C := hide (l06OkS_b w g n c ps hn hm hf hp hg)
  have HP := hide hp
  have HN := hide hn
  have HF := hide hf
  cases h : okPh ps
  · have E0 := hide (int_eq (k := .i64) (lenV_f h))
    have E1 := hide (int_eq (k := .i64) (okV_f h))
    clear hp hf hn
    go_enter Try.func25, Try.ntmps25
    go_wp2_with fail
    refine C.out.mono ?_
    rw [h]
    rintro e w1 ⟨rfl, hb1⟩
    clear C h
    go_wp2_with fail
    go_returns
    exact ⟨ret_two E0.out.symm E1.out.symm, hb1⟩
  · have E0 := hide (int_eq (k := .i64) (lenV_t h))
    have E1 := hide (int_eq (k := .i64) (okV_t h))
    have HV := hide h
    obtain ⟨p1, p2, p3, p4⟩ := okPh_parts h
    have HA := hide p1
    have hn40 : n ≤ 40 := by omega
    have p5 := tn_le p1 p4
    have p6 := tn_pos p1 p2
    clear hp hf hn p1
    go_enter Try.func25, Try.ntmps25
    go_wp2_with fail
    refine C.out.mono ?_
    rw [h]
    rintro e w1 ⟨rfl, hb1⟩
    have hg1 := Nat.lt_of_lt_of_le hg hb1.size
    have HP1 := hide (HP.out.below hb1 hg)
    clear C h
    go_wp2_with fail
    refine (tenthsS g n c ps HN.out hn40 HA.out w1 HP1.out hg1).mono ?_
    rintro e w2 ⟨v, rfl, ho, hb2⟩
    obtain ⟨g2, c2, rfl, -, -, -⟩ := Owns.form ho p6
    have hB2 := below_next (w0 := w) hb2 hb1
    clear ho hb1 hb2
    go_wp2_with fail
    go_returns
    exact ⟨ret_two E0.out.symm E1.out.symm, hB2⟩
theorem lightAtI_b (w : World) (g n c : Nat) (ps : List (ByteArray × Int)) (hn : ps.length = n) (hm : n ≤ 1048576) (hf : PhFit ps) (hp : PhAt w g 0 ps) (hg : g < w.heap.size) (t : Int) (ht : -9223372036854775808 ≤ t) (hu : t ≤ 9223372036854775807) :
    Calls Try.prog 28 #[.slice (some ⟨g, 0, none⟩) n c, .int .i64 t] w fun e w' => e = .returned (.tuple #[.string (lightV ps t), .int .i64 (okV ps)]) ∧ Below w.heap.size w w' := by
  have C := hide (validI g n c ps hn hm hf w hp hg)
  have HP := hide hp
  have HN := hide hn
  have HF := hide hf
  cases h : okPh ps
  · have E0 := hide (congrArg Value.string (lightV_f (t := t) h))
    have E1 := hide (int_eq (k := .i64) (okV_f h))
    clear hp hf hn
    go_enter Try.func28, Try.ntmps28
    go_wp2_with fail
    refine C.out.mono ?_
    rw [h]
    rintro e w1 ⟨rfl, hb1⟩
    clear C h
    go_wp2_with fail
    go_returns
    exact ⟨ret_two E0.out.symm E1.out.symm, hb1⟩
  · have E0 := hide (congrArg Value.string (lightV_t (t := t) h))
    have E1 := hide (int_eq (k := .i64) (okV_t h))
    have HV := hide h
    obtain ⟨p1, p2, p3, p4⟩ := okPh_parts h
    have HA := hide p1
    have hn40 : n ≤ 40 := by omega
    have p5 := tn_le p1 p4
    have p6 := tn_pos p1 p2
    clear hp hf hn p1
    go_enter Try.func28, Try.ntmps28
    go_wp2_with fail
    refine C.out.mono ?_
    rw [h]
    rintro e w1 ⟨rfl, hb1⟩
    have hg1 := Nat.lt_of_lt_of_le hg hb1.size
    have HP1 := hide (HP.out.below hb1 hg)
    clear C h
    go_wp2_with fail
    refine (tenthsI g n c ps HN.out hn40 HA.out w1 HP1.out hg1).mono ?_
    rintro e w2 ⟨v, rfl, ho, hb2⟩
    obtain ⟨g2, c2, rfl, -, hg2, hc⟩ := Owns.form ho p6
    have hB2 := below_next (w0 := w) hb2 hb1
    have r0 : 0 ≤ remOf t ((tn ps).length : Int) := Int.emod_nonneg _ (by omega)
    have r1 : remOf t ((tn ps).length : Int) < ((tn ps).length : Int) := Int.emod_lt_of_pos _ (by omega)
    have r2 : (remOf t ((tn ps).length : Int)).toNat < (tn ps).length := by omega
    have hc1 := hc _ r2
    clear ho hb1 hb2 hc
    go_wp2_with fail
    refine (modI t _ (by omega) (by omega) ht hu _).mono ?_
    rintro e w' ⟨rfl, rfl⟩
    unfold strV at hc1
    go_wp2_with fail
    go_returns
    exact ⟨ret_two (E0.out.trans (congrArg (fun b => Value.string (nameOf b)) (getD_at r2))).symm E1.out.symm, hB2⟩
theorem lightAtS_b (w : World) (g n c : Nat) (ps : List (ByteArray × Int)) (hn : ps.length = n) (hm : n ≤ 1048576) (hf : PhFit ps) (hp : PhAt w g 0 ps) (hg : g < w.heap.size) (t : Int) (ht : -9223372036854775808 ≤ t) (hu : t ≤ 9223372036854775807) :
    Calls Try.prog 27 #[.slice (some ⟨g, 0, none⟩) n c, .int .i64 t] w fun e w' => e = .returned (.tuple #[.string (lightV ps t), .int .i64 (okV ps)]) ∧ Below w.heap.size w w' := by
  have C := hide (l06OkS_b w g n c ps hn hm hf hp hg)
  have HP := hide hp
  have HN := hide hn
  have HF := hide hf
  cases h : okPh ps
  · have E0 := hide (congrArg Value.string (lightV_f (t := t) h))
    have E1 := hide (int_eq (k := .i64) (okV_f h))
    clear hp hf hn
    go_enter Try.func27, Try.ntmps27
    go_wp2_with fail
    refine C.out.mono ?_
    rw [h]
    rintro e w1 ⟨rfl, hb1⟩
    clear C h
    go_wp2_with fail
    go_returns
    exact ⟨ret_two E0.out.symm E1.out.symm, hb1⟩
  · have E0 := hide (congrArg Value.string (lightV_t (t := t) h))
    have E1 := hide (int_eq (k := .i64) (okV_t h))
    have HV := hide h
    obtain ⟨p1, p2, p3, p4⟩ := okPh_parts h
    have HA := hide p1
    have hn40 : n ≤ 40 := by omega
    have p5 := tn_le p1 p4
    have p6 := tn_pos p1 p2
    clear hp hf hn p1
    go_enter Try.func27, Try.ntmps27
    go_wp2_with fail
    refine C.out.mono ?_
    rw [h]
    rintro e w1 ⟨rfl, hb1⟩
    have hg1 := Nat.lt_of_lt_of_le hg hb1.size
    have HP1 := hide (HP.out.below hb1 hg)
    clear C h
    go_wp2_with fail
    refine (tenthsS g n c ps HN.out hn40 HA.out w1 HP1.out hg1).mono ?_
    rintro e w2 ⟨v, rfl, ho, hb2⟩
    obtain ⟨g2, c2, rfl, -, hg2, hc⟩ := Owns.form ho p6
    have hB2 := below_next (w0 := w) hb2 hb1
    have r0 : 0 ≤ remOf t ((tn ps).length : Int) := Int.emod_nonneg _ (by omega)
    have r1 : remOf t ((tn ps).length : Int) < ((tn ps).length : Int) := Int.emod_lt_of_pos _ (by omega)
    have r2 : (remOf t ((tn ps).length : Int)).toNat < (tn ps).length := by omega
    have hc1 := hc _ r2
    clear ho hb1 hb2 hc
    go_wp2_with fail
    refine (modS t _ (by omega) (by omega) ht hu _).mono ?_
    rintro e w' ⟨rfl, rfl⟩
    unfold byteV at hc1
    go_wp2_with fail
    refine (nameS _ _).mono ?_
    rintro e w3 ⟨rfl, hb3⟩
    have hB3 := below_next (w0 := w) hb3 hB2
    clear hb3 hB2 hc1
    go_wp2_with fail
    go_returns
    exact ⟨ret_two (E0.out.trans (congrArg (fun b => Value.string (nameOf b)) (getD_at r2))).symm E1.out.symm, hB3⟩
end Go.Proofs.Ytklmoeolehdjeaa
