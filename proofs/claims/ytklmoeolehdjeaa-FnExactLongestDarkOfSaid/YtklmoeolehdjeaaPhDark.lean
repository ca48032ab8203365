--%!
/- Contracts: the longest time without light of a period of phases, reference and program alike. Own work. -/
import Derived.Test.YtklmoeolehdjeaaPhExp
import Derived.Test.YtklmoeolehdjeaaPhCat
namespace Go.Proofs.Ytklmoeolehdjeaa
open Go.ChangeShapes Go.WideShapes Go.ChangeAt Go.RowKit
set_option linter.unusedVariables false
set_option maxRecDepth 100000
set_option maxHeartbeats 2000000

/-- the longest run of dark ones so far, and the run that is on -/
def dk (f : Nat → UInt8) : Nat → Int × Int
  | 0 => (0, 0)
  | t + 1 => let n := if f t = 0 then (dk f t).2 + 1 else 0; (max (dk f t).1 n, n)
theorem dk_bd (f : Nat → UInt8) (t : Nat) : 0 ≤ (dk f t).1 ∧ (dk f t).1 ≤ t ∧ 0 ≤ (dk f t).2 ∧ (dk f t).2 ≤ t := by
  induction t with
  | zero => simp [dk]
  | succ t ih => unfold dk; simp only; split <;> omega
theorem dk_z {f : Nat → UInt8} {t : Nat} (h : f t = 0) : dk f (t + 1) = (max (dk f t).1 ((dk f t).2 + 1), (dk f t).2 + 1) := by
  show (let n := if f t = 0 then (dk f t).2 + 1 else 0; (max (dk f t).1 n, n)) = _
  rw [if_pos h]
theorem dk_n {f : Nat → UInt8} {t : Nat} (h : f t ≠ 0) : dk f (t + 1) = ((dk f t).1, 0) := by
  have := dk_bd f t
  show (let n := if f t = 0 then (dk f t).2 + 1 else 0; (max (dk f t).1 n, n)) = _
  rw [if_neg h]
  simp only [Prod.mk.injEq, and_true]
  omega
theorem dk_congr {f g : Nat → UInt8} {n : Nat} (h : ∀ t, t < n → f t = g t) : dk f n = dk g n := by
  induction n with
  | zero => rfl
  | succ n ih =>
    have e := ih fun t ht => h t (by omega)
    by_cases k : f n = 0
    · rw [dk_z k, dk_z (by rw [← h n (by omega)]; exact k), e]
    · rw [dk_n k, dk_n (by rw [← h n (by omega)]; exact k), e]
def turnF (l : List UInt8) (t : Nat) : UInt8 := l.getD (t % l.length) 0
theorem double_at {l : List UInt8} {t : Nat} (h : t < 2 * l.length) : (l ++ l).getD t 0 = turnF l t := by
  unfold turnF
  by_cases k : t < l.length
  · rw [Nat.mod_eq_of_lt k, List.getD_eq_getElem?_getD, List.getD_eq_getElem?_getD, List.getElem?_append_left k]
  · rw [Nat.mod_eq_sub_mod (by omega), Nat.mod_eq_of_lt (by omega), List.getD_eq_getElem?_getD, List.getD_eq_getElem?_getD, List.getElem?_append_right (by omega)]
def darkL (l : List UInt8) : Int := min (dk (turnF l) (2 * l.length)).1 l.length
noncomputable def darkN (ps : List (ByteArray × Int)) : Int := darkL (once ps)
theorem maxS (a b : Int) (w : World) : Calls Try.prog 65 #[.int .i64 a, .int .i64 b] w fun e w' => e = .returned (.int .i64 (max a b)) ∧ w = w' := by
  by_cases h : b < a
  · have H : Hid (max a b = a) := hide (by omega)
    go_enter Try.func65, Try.ntmps65
    go_wp2
    go_ret
    exact ⟨ret_int H.out.symm, rfl⟩
  · have H : Hid (max a b = b) := hide (by omega)
    go_enter Try.func65, Try.ntmps65
    go_wp2
    go_ret
    exact ⟨ret_int H.out.symm, rfl⟩
theorem minS (a b : Int) (w : World) : Calls Try.prog 66 #[.int .i64 a, .int .i64 b] w fun e w' => e = .returned (.int .i64 (min a b)) ∧ w = w' := by
  by_cases h : a < b
  · have H : Hid (min a b = a) := hide (by omega)
    go_enter Try.func66, Try.ntmps66
    go_wp2
    go_ret
    exact ⟨ret_int H.out.symm, rfl⟩
  · have H : Hid (min a b = b) := hide (by omega)
    go_enter Try.func66, Try.ntmps66
    go_wp2
    go_ret
    exact ⟨ret_int H.out.symm, rfl⟩
theorem darkOfS_b (w : World) (g n c : Nat) (ps : List (ByteArray × Int)) (hn : ps.length = n) (hm : n ≤ 1048576) (hf : PhFit ps) (hp : PhAt w g 0 ps) (hg : g < w.heap.size) :
    Calls Try.prog 35 #[.slice (some ⟨g, 0, none⟩) n c] w fun e w' => e = .returned (.tuple #[.int .i64 (valV darkN ps), .int .i64 (okV ps)]) ∧ Below w.heap.size w w' := by
  have C := hide (l06OkS_b w g n c ps hn hm hf hp hg)
  have HP := hide hp
  have HN := hide hn
  have HF := hide hf
  cases h : okPh ps
  · have E0 := hide (int_eq (k := .i64) (valV_f (f := darkN) h))
    have E1 := hide (int_eq (k := .i64) (okV_f h))
    clear hp hf hn
    go_enter Try.func35, Try.ntmps35
    go_wp2_with fail
    refine C.out.mono ?_
    rw [h]
    rintro e w1 ⟨rfl, hb1⟩
    clear C h
    go_wp2_with fail
    go_returns
    exact ⟨ret_two E0.out.symm E1.out.symm, hb1⟩
  · have E0 := hide (int_eq (k := .i64) (valV_t (f := darkN) h))
    have E1 := hide (int_eq (k := .i64) (okV_t h))
    have HV := hide h
    obtain ⟨p1, p2, p3, p4⟩ := okPh_parts h
    have HA := hide p1
    have hn40 : n ≤ 40 := by omega
    have p5 := tn_le p1 p4
    have p6 := tn_pos p1 p2
    clear hp hf hn p1
    go_enter Try.func35, Try.ntmps35
    go_wp2_with fail
    refine C.out.mono ?_
    rw [h]
    rintro e w1 ⟨rfl, hb1⟩
    have hg1 := Nat.lt_of_lt_of_le hg hb1.size
    have HP1 := hide (HP.out.below hb1 hg)
    clear C h
    go_wp2_with fail
    refine (onceS' p6 p5 g n c ps HN.out hn40 HA.out w1 HP1.out hg1).mono ?_
    rintro e w2 ⟨g2, c2, rfl, -, hl2, ht2, hb2⟩
    have hB2 := below_next (w0 := w) hb2 hb1
    have HT2 := hide ht2
    have l1 : 1 ≤ (once ps).length := by rw [once_len p6]; exact (per_spec p6).pos
    have l2 : (once ps).length ≤ 600 := by rw [once_len p6]; exact Nat.le_trans (per_spec p6).le p5
    clear hb1 hb2 ht2
    obtain ⟨l, hl⟩ : ∃ l, l = once ps := ⟨_, rfl⟩
    rw [← hl] at HT2 l1 l2
    have E0' : Hid (Value.int .i64 (valV darkN ps) = .int .i64 (darkL l)) := hide (E0.out.trans (by unfold darkN; rw [hl]))
    rw [← hl]
    clear E0 hl
    go_wp2_with fail
    go_loop [5, 6, 7] (fun m n i => ∃ t : Nat, t ≤ 2 * l.length ∧ m = .int .i64 (dk (turnF l) t).1 ∧ n = .int .i64 (dk (turnF l) t).2 ∧ i = .int .i64 t) (fun _ _ i => 2 * l.length - (intOf i).toNat)
    case atStart => exact ⟨0, Nat.zero_le _, rfl, rfl, rfl⟩
    case round =>
      obtain ⟨t, ht, rfl, rfl, rfl⟩ := hrel
      have db := dk_bd (turnF l) t
      by_cases hlt : t < 2 * l.length
      · have hm : t % l.length < l.length := Nat.mod_lt _ l1
        have c1 := HT2.out.at_ hm
        unfold byteV at c1
        have s1 : (t : Int).tmod (l.length : Int) = ((t % l.length : Nat) : Int) := by rw [Int.tmod_eq_emod_of_nonneg (by omega), ← Int.natCast_emod]
        have s2 : ((t : Int) % (l.length : Int)) = ((t % l.length : Nat) : Int) := by rw [← Int.natCast_emod]
        have s3 : ¬ l.length = 0 := by omega
        obtain ⟨a, ha⟩ : ∃ a, a = l.getD (t % l.length) 0 := ⟨_, rfl⟩
        rw [← ha] at c1
        have HA : Hid (turnF l t = a) := hide ha.symm
        clear ha
        generalize t % l.length = m at *
        by_cases h0 : a = 0
        · have D := hide (dk_z (HA.out.trans h0))
          clear HA
          subst h0
          go_wp2_with (go_at_call 65; refine (maxS _ _ _).mono ?_; rintro e w' ⟨rfl, rfl⟩)
          go_round
          case rel => exact ⟨t + 1, by omega, by rw [D.out], by rw [D.out], by go_num⟩
          case measure => simp [intOf]; omega
        · have D := hide (dk_n (f := turnF l) (t := t) (by rw [HA.out]; exact h0))
          have n1 := nat_n h0
          have n2 : ((a.toNat : Int) == 0) = false := by simpa using n1
          have n3 : ((a.toNat : Int) != 0) = true := by simpa using n1
          clear h0 HA
          go_wp2_with (go_at_call 65; refine (maxS _ _ _).mono ?_; rintro e w' ⟨rfl, rfl⟩)
          go_round
          case rel => exact ⟨t + 1, by omega, by rw [D.out]; exact int_eq (by simp only; omega), by rw [D.out], by go_num⟩
          case measure => simp [intOf]; omega
      · obtain rfl : t = 2 * l.length := by omega
        go_wp2_with (go_at_call 66; refine (minS _ _ _).mono ?_; rintro e w' ⟨rfl, rfl⟩)
        go_returns
        exact ⟨ret_two E0'.out.symm E1.out.symm, hB2⟩
theorem darkOfI_b (w : World) (g n c : Nat) (ps : List (ByteArray × Int)) (hn : ps.length = n) (hm : n ≤ 1048576) (hf : PhFit ps) (hp : PhAt w g 0 ps) (hg : g < w.heap.size) :
    Calls Try.prog 36 #[.slice (some ⟨g, 0, none⟩) n c] w fun e w' => e = .returned (.tuple #[.int .i64 (valV darkN ps), .int .i64 (okV ps)]) ∧ Below w.heap.size w w' := by
  have C := hide (validI g n c ps hn hm hf w hp hg)
  have HP := hide hp
  have HN := hide hn
  have HF := hide hf
  cases h : okPh ps
  · have E0 := hide (int_eq (k := .i64) (valV_f (f := darkN) h))
    have E1 := hide (int_eq (k := .i64) (okV_f h))
    clear hp hf hn
    go_enter Try.func36, Try.ntmps36
    go_wp2_with fail
    refine C.out.mono ?_
    rw [h]
    rintro e w1 ⟨rfl, hb1⟩
    clear C h
    go_wp2_with fail
    go_returns
    exact ⟨ret_two E0.out.symm E1.out.symm, hb1⟩
  · have E0 := hide (int_eq (k := .i64) (valV_t (f := darkN) h))
    have E1 := hide (int_eq (k := .i64) (okV_t h))
    have HV := hide h
    obtain ⟨p1, p2, p3, p4⟩ := okPh_parts h
    have HA := hide p1
    have hn40 : n ≤ 40 := by omega
    have p5 := tn_le p1 p4
    have p6 := tn_pos p1 p2
    clear hp hf hn p1
    go_enter Try.func36, Try.ntmps36
    go_wp2_with fail
    refine C.out.mono ?_
    rw [h]
    rintro e w1 ⟨rfl, hb1⟩
    have hg1 := Nat.lt_of_lt_of_le hg hb1.size
    have HP1 := hide (HP.out.below hb1 hg)
    clear C h
    go_wp2_with fail
    refine (onePerI' p6 p5 g n c ps HN.out hn40 HA.out w1 HP1.out hg1).mono ?_
    rintro e w2 ⟨g2, c2, rfl, -, hl2, ht2, hb2⟩
    have hB2 := below_next (w0 := w) hb2 hb1
    have HT2 := hide ht2
    have l1 : 1 ≤ (once ps).length := by rw [once_len p6]; exact (per_spec p6).pos
    have l2 : (once ps).length ≤ 600 := by rw [once_len p6]; exact Nat.le_trans (per_spec p6).le p5
    clear hb1 hb2 ht2
    obtain ⟨l, hl⟩ : ∃ l, l = once ps := ⟨_, rfl⟩
    rw [← hl] at HT2 l1 l2
    have E0' : Hid (Value.int .i64 (valV darkN ps) = .int .i64 (darkL l)) := hide (E0.out.trans (by unfold darkN; rw [hl]))
    rw [← hl]
    clear E0 hl
    have hz2 : w2.heap.size < (w2.alloc (.cells #[.slice (some ⟨g2, 0, none⟩) l.length c2, .slice (some ⟨g2, 0, none⟩) l.length c2] 61)).heap.size := by simp
    have k0 : (w2.alloc (.cells #[.slice (some ⟨g2, 0, none⟩) l.length c2, .slice (some ⟨g2, 0, none⟩) l.length c2] 61)).cell? ⟨w2.heap.size, 0, none⟩ = some (.slice (some ⟨g2, 0, none⟩) l.length c2) := cell_of_row _ _ _ _ _ _ (heap_alloc_new w2 _)
    have k1 : (w2.alloc (.cells #[.slice (some ⟨g2, 0, none⟩) l.length c2, .slice (some ⟨g2, 0, none⟩) l.length c2] 61)).cell? ⟨w2.heap.size, 1, none⟩ = some (.slice (some ⟨g2, 0, none⟩) l.length c2) := cell_of_row _ _ _ _ _ _ (heap_alloc_new w2 _)
    have K0 := hide k0
    have K1 := hide k1
    have HT3 : Hid (TAtO (w2.alloc (.cells #[.slice (some ⟨g2, 0, none⟩) l.length c2, .slice (some ⟨g2, 0, none⟩) l.length c2] 61)) g2 0 l strV) := hide (by
      intro k hk
      rw [Nat.zero_add]
      exact (World.cell?_alloc_lt w2 _ ⟨g2, k, none⟩ hl2).trans (HT2.out k hk))
    have hB3 : Below w.heap.size w (w2.alloc (.cells #[.slice (some ⟨g2, 0, none⟩) l.length c2, .slice (some ⟨g2, 0, none⟩) l.length c2] 61)) := hB2.alloc hB2.size _
    have hg3 := Nat.lt_trans hl2 hz2
    clear k0 k1 hB2 HT2
    go_wp2_with fail
    refine (concatI w2.heap.size g2 0 c2 g2 0 c2 _ l l _ hz2 hg3 hg3 l1 (by omega) (by omega) K0.out K1.out HT3.out HT3.out).mono ?_
    rintro e w3 ⟨v3, rfl, ho3, hb3⟩
    obtain ⟨g4, c4, rfl, -, -, -, hl4, ht4⟩ := Owns.form' ho3 (by rw [List.length_append]; omega)
    have hB4 := below_next (w0 := w) hb3 hB3
    obtain ⟨l2, hl2e⟩ : ∃ l2, l2 = l ++ l := ⟨_, rfl⟩
    have hlen : l2.length = 2 * l.length := by rw [hl2e, List.length_append]; omega
    have HL : Hid (∀ t, t < 2 * l.length → turnF l t = l2.getD t 0) := hide fun t ht => by rw [hl2e]; exact (double_at ht).symm
    have HT4 : Hid (TAt w3 g4 l2 strV) := hide (by rw [hl2e]; exact ht4)
    rw [← hl2e]
    have hn1 : l2.length ≤ 2 * l.length := by omega
    have hn2 : 2 * l.length ≤ l2.length := by omega
    have HLen := hide hlen
    clear ho3 hb3 hB3 HT3 K0 K1 hz2 hg3 ht4 hl2e hlen
    go_wp2_with fail
    go_loop [5, 6, 19] (fun m n i => ∃ t : Nat, t ≤ l2.length ∧ m = .int .i64 (dk (turnF l) t).1 ∧ n = .int .i64 (dk (turnF l) t).2 ∧ i = .int .i64 t) (fun _ _ i => l2.length - (intOf i).toNat)
    case atStart => exact ⟨0, Nat.zero_le _, rfl, rfl, rfl⟩
    case round =>
      obtain ⟨t, ht, rfl, rfl, rfl⟩ := hrel
      have db := dk_bd (turnF l) t
      by_cases hlt : t < l2.length
      · have c1 := HT4.out.at_ hlt
        unfold strV at c1
        obtain ⟨a, ha⟩ : ∃ a, a = l2.getD t 0 := ⟨_, rfl⟩
        rw [← ha] at c1
        have HA : Hid (turnF l t = a) := hide ((HL.out t (by omega)).trans ha.symm)
        clear ha
        by_cases h0 : a = 0
        · have D := hide (dk_z (HA.out.trans h0))
          have z1 := isE_0
          clear HA
          subst h0
          go_wp2
          go_round
          case rel => exact ⟨t + 1, by omega, by rw [D.out], by rw [D.out], by go_num⟩
          case measure => simp [intOf]; omega
        · have D := hide (dk_n (f := turnF l) (t := t) (by rw [HA.out]; exact h0))
          have n1 := isE_n h0
          clear h0 HA
          go_wp2
          go_round
          case rel => exact ⟨t + 1, by omega, by rw [D.out]; exact int_eq (by simp only; omega), by rw [D.out], by go_num⟩
          case measure => simp [intOf]; omega
      · have ht2 : t = 2 * l.length := by omega
        have HT5 : Hid (Value.int .i64 (min (dk (turnF l) t).1 l.length) = .int .i64 (darkL l)) := hide (by unfold darkL; rw [ht2])
        clear ht2
        go_wp2
        go_returns
        exact ⟨ret_two (HT5.out.trans E0'.out.symm) E1.out.symm, hB4⟩
end Go.Proofs.Ytklmoeolehdjeaa
