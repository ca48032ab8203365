--%!
/- Characters of lights compared, reference and program alike; the laws' comparison of them. Own work. -/
import Derived.Test.YtklmoeolehdjeaaChar
namespace Go.Proofs.Ytklmoeolehdjeaa
open Go.ChangeShapes Go.WideShapes Go.ChangeAt Go.RowKit
set_option linter.unusedVariables false
set_option maxRecDepth 100000
set_option maxHeartbeats 1000000
theorem sameN (g h n m c d : Nat) (ps qs : List Int) (hn : ps.length = n) (hm : qs.length = m) (hb : n ≤ 1048576) (hb' : m ≤ 1048576) (w : World) (hp : NmAt w g 0 ps) (hq : NmAt w h 0 qs) :
    Calls Try.prog 49 #[.slice (some ⟨g, 0, none⟩) n c, .slice (some ⟨h, 0, none⟩) m d] w fun e w' => e = .returned (.bool (decide (ps = qs))) ∧ ∃ k, w' = w.drewN k := by
  subst hn hm
  have HP := hide hp
  have HQ := hide hq
  clear hp hq
  by_cases he : ps.length = qs.length
  · have HE := hide he
    have h1 : ps.length ≤ qs.length := by omega
    have h2 : qs.length ≤ ps.length := by omega
    have h3 : ((ps.length : Int) != (qs.length : Int)) = false := by simp; omega
    clear he
    go_enter Try.func49, Try.ntmps49
    go_wp2
    go_loopw [5, 13] (fun _ i wr => ∃ k : Nat, k ≤ ps.length ∧ Hid (ps.take k = qs.take k) ∧ i = .int .i64 k ∧ ∃ j, wr = w.drewN j) (fun _ i _ => ps.length - (intOf i).toNat)
    case atStart => exact ⟨0, Nat.zero_le _, hide rfl, rfl, 0, rfl⟩
    case round =>
      obtain ⟨k, hk, hi, rfl, j, rfl⟩ := hrel
      by_cases hlt : k < ps.length
      · have c1 := HP.out k hlt
        have d1 := HQ.out k (by omega)
        rw [Nat.zero_add] at c1 d1
        have hlt2 : k < qs.length := by omega
        by_cases he : ps[k] = qs[k]
        · have hne : (ps[k] != qs[k]) = false := by simp [he]
          have H := hide he
          clear he
          go_wp2_with fail
          go_quiet (fail)
          go_wp2
          go_roundw
          case rel => exact ⟨k + 1, by omega, hide (take_eq_succ hi.out hlt hlt2 H.out), by go_num, _, rfl⟩
          case measure => simp [intOf]; omega
        · have hne : (ps[k] != qs[k]) = true := by simpa using he
          have H := hide (decide_eq_false (ne_of_at hlt hlt2 he))
          clear he
          go_wp2_with fail
          go_quiet (fail)
          go_wp2
          go_ret
          exact ⟨ret_bool H.out.symm, _, by first | rfl | exact World.drewN_drewN _ _ _⟩
      · obtain rfl : k = ps.length := by omega
        have H := hide (decide_eq_true (eq_of_take hi.out HE.out))
        go_wp2
        go_ret
        exact ⟨ret_bool H.out.symm, _, rfl⟩
  · have H := hide (decide_eq_false (ne_of_len he))
    have h3 : ((ps.length : Int) != (qs.length : Int)) = true := by simp; omega
    go_enter Try.func49, Try.ntmps49
    go_wp2
    go_ret
    exact ⟨ret_bool H.out.symm, 0, rfl⟩
theorem sameNS (g h n m c d : Nat) (ps qs : List Int) (hn : ps.length = n) (hm : qs.length = m) (hb : n ≤ 1048576) (hb' : m ≤ 1048576) (w : World) (hp : NmAt w g 0 ps) (hq : NmAt w h 0 qs) :
    Calls Try.prog 73 #[.slice (some ⟨g, 0, none⟩) n c, .slice (some ⟨h, 0, none⟩) m d] w fun e w' => e = .returned (.bool (decide (ps = qs))) ∧ ∃ k, w' = w.drewN k := by
  subst hn hm
  have HP := hide hp
  have HQ := hide hq
  clear hp hq
  by_cases he : ps.length = qs.length
  · have HE := hide he
    have h1 : ps.length ≤ qs.length := by omega
    have h2 : qs.length ≤ ps.length := by omega
    have h3 : ((ps.length : Int) != (qs.length : Int)) = false := by simp; omega
    clear he
    go_enter Try.func73, Try.ntmps73
    go_wp2
    go_loopw [5] (fun i wr => ∃ k : Nat, k ≤ ps.length ∧ Hid (ps.take k = qs.take k) ∧ i = .int .i64 k ∧ ∃ j, wr = w.drewN j) (fun i _ => ps.length - (intOf i).toNat)
    case atStart => exact ⟨0, Nat.zero_le _, hide rfl, rfl, 0, rfl⟩
    case round =>
      obtain ⟨k, hk, hi, rfl, j, rfl⟩ := hrel
      by_cases hlt : k < ps.length
      · have c1 := HP.out k hlt
        have d1 := HQ.out k (by omega)
        rw [Nat.zero_add] at c1 d1
        have hlt2 : k < qs.length := by omega
        by_cases he : ps[k] = qs[k]
        · have hne : (ps[k] != qs[k]) = false := by simp [he]
          have H := hide he
          clear he
          go_wp2_with fail
          go_quiet (fail)
          go_wp2
          go_roundw
          case rel => exact ⟨k + 1, by omega, hide (take_eq_succ hi.out hlt hlt2 H.out), by go_num, _, rfl⟩
          case measure => simp [intOf]; omega
        · have hne : (ps[k] != qs[k]) = true := by simpa using he
          have H := hide (decide_eq_false (ne_of_at hlt hlt2 he))
          clear he
          go_wp2_with fail
          go_quiet (fail)
          go_wp2
          go_ret
          exact ⟨ret_bool H.out.symm, _, by first | rfl | exact World.drewN_drewN _ _ _⟩
      · obtain rfl : k = ps.length := by omega
        have H := hide (decide_eq_true (eq_of_take hi.out HE.out))
        go_wp2
        go_ret
        exact ⟨ret_bool H.out.symm, _, rfl⟩
  · have H := hide (decide_eq_false (ne_of_len he))
    have h3 : ((ps.length : Int) != (qs.length : Int)) = true := by simp; omega
    go_enter Try.func73, Try.ntmps73
    go_wp2
    go_ret
    exact ⟨ret_bool H.out.symm, 0, rfl⟩
theorem below_drewN {B : Nat} {a w : World} (h : Below B a w) (j : Nat) : Below B a (w.drewN j) := h.trans ⟨rfl, rfl, rfl, Nat.le_refl _, fun _ _ => rfl⟩
/-- what two characters are compared to -/
def chB (k0 q0 k1 q1 : Int) (l0 l1 : List Int) (L0 C0 L1 C1 : ByteArray) : Bool := (k0 == k1) && (decide (l0 = l1) && ((L0.toList == L1.toList) && ((C0.toList == C1.toList) && (q0 == q1))))
theorem ch_k {k0 q0 k1 q1 : Int} {l0 l1 : List Int} {L0 C0 L1 C1 : ByteArray} (h : (k0 == k1) = false) : chB k0 q0 k1 q1 l0 l1 L0 C0 L1 C1 = false := by unfold chB; rw [h]; rfl
theorem ch_l {k0 q0 k1 q1 : Int} {l0 l1 : List Int} {L0 C0 L1 C1 : ByteArray} (h : decide (l0 = l1) = false) : chB k0 q0 k1 q1 l0 l1 L0 C0 L1 C1 = false := by unfold chB; rw [h]; simp
theorem ch_L {k0 q0 k1 q1 : Int} {l0 l1 : List Int} {L0 C0 L1 C1 : ByteArray} (h : (L0.toList == L1.toList) = false) : chB k0 q0 k1 q1 l0 l1 L0 C0 L1 C1 = false := by unfold chB; rw [h]; simp
theorem ch_C {k0 q0 k1 q1 : Int} {l0 l1 : List Int} {L0 C0 L1 C1 : ByteArray} (h : (C0.toList == C1.toList) = false) : chB k0 q0 k1 q1 l0 l1 L0 C0 L1 C1 = false := by unfold chB; rw [h]; simp
theorem ch_q {k0 q0 k1 q1 : Int} {l0 l1 : List Int} {L0 C0 L1 C1 : ByteArray} (h : (q0 == q1) = false) : chB k0 q0 k1 q1 l0 l1 L0 C0 L1 C1 = false := by unfold chB; rw [h]; simp
theorem ch_t {k0 q0 k1 q1 : Int} {l0 l1 : List Int} {L0 C0 L1 C1 : ByteArray} (h0 : (k0 == k1) = true) (h1 : decide (l0 = l1) = true) (h2 : (L0.toList == L1.toList) = true) (h3 : (C0.toList == C1.toList) = true) (h4 : (q0 == q1) = true) : chB k0 q0 k1 q1 l0 l1 L0 C0 L1 C1 = true := by unfold chB; rw [h0, h1, h2, h3, h4]; rfl
theorem charI (k0 q0 k1 q1 : Int) (g0 g1 n0 n1 c0 c1 : Nat) (l0 l1 : List Int) (L0 C0 L1 C1 : ByteArray) (hn0 : l0.length = n0) (hn1 : l1.length = n1) (hm0 : n0 ≤ 1048576) (hm1 : n1 ≤ 1048576) (w : World) (hp : NmAt w g0 0 l0) (hq : NmAt w g1 0 l1) (hg0 : g0 < w.heap.size) (hg1 : g1 < w.heap.size) :
    Calls Try.prog 21 #[.agg #[.int .i64 k0, .slice (some ⟨g0, 0, none⟩) n0 c0, .string L0, .string C0, .int .i64 q0], .agg #[.int .i64 k1, .slice (some ⟨g1, 0, none⟩) n1 c1, .string L1, .string C1, .int .i64 q1]] w fun e w' => e = .returned (.bool (chB k0 q0 k1 q1 l0 l1 L0 C0 L1 C1)) ∧ Below w.heap.size w w' := by
  have SM := fun (W : World) (hb : Below w.heap.size w W) => sameN g0 g1 n0 n1 c0 c1 l0 l1 hn0 hn1 hm0 hm1 W (hp.below hb hg0) (hq.below hb hg1)
  clear hp hq hn0 hn1
  obtain ⟨b, hb⟩ : ∃ b, decide (l0 = l1) = b := ⟨_, rfl⟩
  rw [hb] at SM
  have HB := hide hb
  have HSM := hide SM
  clear SM hb
  cases e0 : (k0 == k1)
  · have H := hide (ch_k (q0 := q0) (q1 := q1) (l0 := l0) (l1 := l1) (L0 := L0) (C0 := C0) (L1 := L1) (C1 := C1) e0)
    go_enter Try.func21, Try.ntmps21
    go_wp2_with fail
    go_ret
    exact ⟨ret_bool H.out.symm, by go_grown⟩
  · cases b
    · have H := hide (ch_l (k0 := k0) (k1 := k1) (q0 := q0) (q1 := q1) (L0 := L0) (C0 := C0) (L1 := L1) (C1 := C1) HB.out)
      go_enter Try.func21, Try.ntmps21
      go_wp2_with (go_at_call 49; refine (HSM.out _ (by go_grown)).mono ?_; rintro e w' ⟨rfl, j, rfl⟩)
      go_ret
      exact ⟨ret_bool H.out.symm, below_drewN (by go_grown) _⟩
    · cases e2 : (L0.toList == L1.toList)
      · have H := hide (ch_L (k0 := k0) (k1 := k1) (q0 := q0) (q1 := q1) (l0 := l0) (l1 := l1) (C0 := C0) (C1 := C1) e2)
        go_enter Try.func21, Try.ntmps21
        go_wp2_with (go_at_call 49; refine (HSM.out _ (by go_grown)).mono ?_; rintro e w' ⟨rfl, j, rfl⟩)
        go_ret
        exact ⟨ret_bool H.out.symm, below_drewN (by go_grown) _⟩
      · cases e3 : (C0.toList == C1.toList)
        · have H := hide (ch_C (k0 := k0) (k1 := k1) (q0 := q0) (q1 := q1) (l0 := l0) (l1 := l1) (L0 := L0) (L1 := L1) e3)
          go_enter Try.func21, Try.ntmps21
          go_wp2_with (go_at_call 49; refine (HSM.out _ (by go_grown)).mono ?_; rintro e w' ⟨rfl, j, rfl⟩)
          go_ret
          exact ⟨ret_bool H.out.symm, below_drewN (by go_grown) _⟩
        · cases e4 : (q0 == q1)
          · have H := hide (ch_q (k0 := k0) (k1 := k1) (l0 := l0) (l1 := l1) (L0 := L0) (C0 := C0) (L1 := L1) (C1 := C1) e4)
            go_enter Try.func21, Try.ntmps21
            go_wp2_with (go_at_call 49; refine (HSM.out _ (by go_grown)).mono ?_; rintro e w' ⟨rfl, j, rfl⟩)
            go_ret
            exact ⟨ret_bool H.out.symm, below_drewN (by go_grown) _⟩
          · have H := hide (ch_t e0 HB.out e2 e3 e4)
            go_enter Try.func21, Try.ntmps21
            go_wp2_with (go_at_call 49; refine (HSM.out _ (by go_grown)).mono ?_; rintro e w' ⟨rfl, j, rfl⟩)
            go_ret
            exact ⟨ret_bool H.out.symm, below_drewN (by go_grown) _⟩
/-- a character in a box -/
def BxC (W : World) (p : Nat) (k : Int) (g n c : Nat) (L C : ByteArray) (q : Int) : Prop := p < W.heap.size ∧ W.cell? ⟨p, 0, none⟩ = some (.int .i64 k) ∧ W.cell? ⟨p, 1, none⟩ = some (.slice (some ⟨g, 0, none⟩) n c) ∧ W.cell? ⟨p, 2, none⟩ = some (.string L) ∧ W.cell? ⟨p, 3, none⟩ = some (.string C) ∧ W.cell? ⟨p, 4, none⟩ = some (.int .i64 q)
theorem charP (k0 q0 k1 q1 : Int) (g0 g1 n0 n1 c0 c1 p0 p1 : Nat) (l0 l1 : List Int) (L0 C0 L1 C1 : ByteArray) (hn0 : l0.length = n0) (hn1 : l1.length = n1) (hm0 : n0 ≤ 1048576) (hm1 : n1 ≤ 1048576) (w : World) (hp : NmAt w g0 0 l0) (hq : NmAt w g1 0 l1) (hb0 : BxC w p0 k0 g0 n0 c0 L0 C0 q0) (hb1 : BxC w p1 k1 g1 n1 c1 L1 C1 q1) :
    Calls Try.prog 47 #[.pointer (some ⟨p0, 0, none⟩), .pointer (some ⟨p1, 0, none⟩)] w fun e w' => e = .returned (.bool (chB k0 q0 k1 q1 l0 l1 L0 C0 L1 C1)) ∧ ∃ j, w' = w.drewN j := by
  have SM := fun (j : Nat) => sameNS g0 g1 n0 n1 c0 c1 l0 l1 hn0 hn1 hm0 hm1 (w.drewN j) hp hq
  clear hp hq hn0 hn1
  obtain ⟨b, hb⟩ : ∃ b, decide (l0 = l1) = b := ⟨_, rfl⟩
  rw [hb] at SM
  have HB := hide hb
  have HSM := hide SM
  obtain ⟨-, a0, a1, a2, a3, a4⟩ := hb0
  obtain ⟨-, b0, b1, b2, b3, b4⟩ := hb1
  clear SM hb
  cases e0 : (k0 == k1)
  · have H := hide (ch_k (q0 := q0) (q1 := q1) (l0 := l0) (l1 := l1) (L0 := L0) (C0 := C0) (L1 := L1) (C1 := C1) e0)
    go_enter Try.func47, Try.ntmps47
    go_wp2_with fail
    go_quiet (fail)
    go_wp2_with fail
    go_ret
    exact ⟨ret_bool H.out.symm, _, rfl⟩
  · cases b
    · have H := hide (ch_l (k0 := k0) (k1 := k1) (q0 := q0) (q1 := q1) (L0 := L0) (C0 := C0) (L1 := L1) (C1 := C1) HB.out)
      go_enter Try.func47, Try.ntmps47
      go_wp2_with fail
      go_quiet ((go_at_call 73; exact Calls.quiet_of (HSM.out _)))
      go_wp2_with fail
      go_ret
      exact ⟨ret_bool H.out.symm, _, rfl⟩
    · cases e2 : (L0.toList == L1.toList)
      · have H := hide (ch_L (k0 := k0) (k1 := k1) (q0 := q0) (q1 := q1) (l0 := l0) (l1 := l1) (C0 := C0) (C1 := C1) e2)
        go_enter Try.func47, Try.ntmps47
        go_wp2_with fail
        go_quiet ((go_at_call 73; exact Calls.quiet_of (HSM.out _)))
        go_wp2_with fail
        go_ret
        exact ⟨ret_bool H.out.symm, _, rfl⟩
      · cases e3 : (C0.toList == C1.toList)
        · have H := hide (ch_C (k0 := k0) (k1 := k1) (q0 := q0) (q1 := q1) (l0 := l0) (l1 := l1) (L0 := L0) (L1 := L1) e3)
          go_enter Try.func47, Try.ntmps47
          go_wp2_with fail
          go_quiet ((go_at_call 73; exact Calls.quiet_of (HSM.out _)))
          go_wp2_with fail
          go_ret
          exact ⟨ret_bool H.out.symm, _, rfl⟩
        · cases e4 : (q0 == q1)
          · have H := hide (ch_q (k0 := k0) (k1 := k1) (l0 := l0) (l1 := l1) (L0 := L0) (C0 := C0) (L1 := L1) (C1 := C1) e4)
            go_enter Try.func47, Try.ntmps47
            go_wp2_with fail
            go_quiet ((go_at_call 73; exact Calls.quiet_of (HSM.out _)))
            go_wp2_with fail
            go_ret
            exact ⟨ret_bool H.out.symm, _, rfl⟩
          · have H := hide (ch_t e0 HB.out e2 e3 e4)
            go_enter Try.func47, Try.ntmps47
            go_wp2_with fail
            go_quiet ((go_at_call 73; exact Calls.quiet_of (HSM.out _)))
            go_wp2_with fail
            go_ret
            exact ⟨ret_bool H.out.symm, _, rfl⟩
theorem charS (k0 q0 k1 q1 : Int) (g0 g1 n0 n1 c0 c1 : Nat) (l0 l1 : List Int) (L0 C0 L1 C1 : ByteArray) (hn0 : l0.length = n0) (hn1 : l1.length = n1) (hm0 : n0 ≤ 1048576) (hm1 : n1 ≤ 1048576) (w : World) (hp : NmAt w g0 0 l0) (hq : NmAt w g1 0 l1) (hg0 : g0 < w.heap.size) (hg1 : g1 < w.heap.size) :
    Calls Try.prog 19 #[.agg #[.int .i64 k0, .slice (some ⟨g0, 0, none⟩) n0 c0, .string L0, .string C0, .int .i64 q0], .agg #[.int .i64 k1, .slice (some ⟨g1, 0, none⟩) n1 c1, .string L1, .string C1, .int .i64 q1]] w fun e w' => e = .returned (.bool (chB k0 q0 k1 q1 l0 l1 L0 C0 L1 C1)) ∧ Below w.heap.size w w' := by
  have SM := fun (W : World) (hb : Below w.heap.size w W) p0 p1 h0 h1 => charP k0 q0 k1 q1 g0 g1 n0 n1 c0 c1 p0 p1 l0 l1 L0 C0 L1 C1 hn0 hn1 hm0 hm1 W (hp.below hb hg0) (hq.below hb hg1) h0 h1
  have HSM := hide SM
  clear SM hp hq hn0 hn1
  go_enter Try.func19, Try.ntmps19
  go_wp2_with fail
  refine (HSM.out _ (by go_grown) _ _ ⟨by simp; try omega, by go_simp, by go_simp, by go_simp, by go_simp, by go_simp⟩ ⟨by simp; try omega, by go_simp, by go_simp, by go_simp, by go_simp, by go_simp⟩).mono ?_
  rintro e w' ⟨rfl, j, rfl⟩
  go_wp2_with fail
  go_ret
  exact ⟨rfl, below_drewN (by go_grown) _⟩
theorem eqChar (k q : Int) (g0 g1 n c0 c1 : Nat) (l : List Int) (L C : ByteArray) (hn : l.length = n) (hm : n ≤ 1048576) (w : World) (hp : NmAt w g0 0 l) (hq : NmAt w g1 0 l) (hg0 : g0 < w.heap.size) (hg1 : g1 < w.heap.size) :
    Calls Try.prog 22 #[.agg #[.int .i64 k, .slice (some ⟨g0, 0, none⟩) n c0, .string L, .string C, .int .i64 q], .agg #[.int .i64 k, .slice (some ⟨g1, 0, none⟩) n c1, .string L, .string C, .int .i64 q]] w fun e w' => e = .returned (.bool true) ∧ Below w.heap.size w w' := by
  have SM := fun (W : World) (hb : Below w.heap.size w W) => eqNums g0 g1 n c0 c1 l hn hm W (hp.below hb hg0) (hq.below hb hg1)
  have HSM := hide SM
  clear SM hp hq hn
  have e0 : (k != k) = false := by simp
  have e1 : (q != q) = false := by simp
  have e2 : (L.toList != L.toList) = false := by simp
  have e3 : (C.toList != C.toList) = false := by simp
  go_enter Try.func22, Try.ntmps22
  go_wp2_with (go_at_call 50; refine (HSM.out _ (by go_grown)).mono ?_; rintro e w' ⟨rfl, j, rfl⟩)
  go_ret
  exact ⟨rfl, below_drewN (by go_grown) _⟩
end Go.Proofs.Ytklmoeolehdjeaa
