--%!
/- The walks of the law on points between two points that the seat has: it returns true. -/
import Derived.Test.YtnmihmjgmanllaaBetw
namespace Go.Proofs.Ytnmihmjgmanllaa
open Go.ChangeShapes Go.WideShapes Go.ChangeAt Go.RowKit
set_option linter.unusedVariables false
set_option maxRecDepth 100000
set_option maxHeartbeats 2000000

def btX (a b c d i n : Int) : Int := if c < a ∨ (a = c ∧ d < b) then btw c a (n - i) n else btw a c i n
def btY (a b c d i n : Int) : Int := if c < a ∨ (a = c ∧ d < b) then btw d b (n - i) n else btw b d i n
theorem betwS (a b c d i n : Int) (h : okP a b = true) (k : okP c d = true) (n0 : 1 ≤ n) (n1 : n ≤ 1000000) (i0 : 0 ≤ i) (i1 : i ≤ n) (w : World) :
    Calls Try.prog 50 #[.agg #[.int .i64 a, .int .i64 b], .agg #[.int .i64 c, .int .i64 d], .int .i64 i, .int .i64 n] w fun e w' => e = .returned (.agg #[.int .i64 (btX a b c d i n), .int .i64 (btY a b c d i n)]) ∧ Below w.heap.size w w' := by
  unfold btX btY
  by_cases q0 : c < a
  · rw [if_pos (.inl q0), if_pos (.inl q0)]; exact betwS_gt a b c d i n h k n0 n1 i0 i1 q0 w
  · by_cases q1 : a = c
    · by_cases q2 : d < b
      · rw [if_pos (.inr ⟨q1, q2⟩), if_pos (.inr ⟨q1, q2⟩)]; exact betwS_eqgt a b c d i n h k n0 n1 i0 i1 q1 q2 w
      · rw [if_neg (by omega), if_neg (by omega)]; exact betwS_eqle a b c d i n h k n0 n1 i0 i1 q1 q2 w
    · rw [if_neg (by omega), if_neg (by omega)]; exact betwS_lt a b c d i n h k n0 n1 i0 i1 (by omega) w
theorem betwI (a b c d i n : Int) (h : okP a b = true) (k : okP c d = true) (n0 : 1 ≤ n) (n1 : n ≤ 1000000) (i0 : 0 ≤ i) (i1 : i ≤ n) (w : World) :
    Calls Try.prog 52 #[.agg #[.int .i64 a, .int .i64 b], .agg #[.int .i64 c, .int .i64 d], .int .i64 i, .int .i64 n] w fun e w' => e = .returned (.agg #[.int .i64 (btX a b c d i n), .int .i64 (btY a b c d i n)]) ∧ Below w.heap.size w w' := by
  unfold btX btY
  by_cases q0 : c < a
  · rw [if_pos (.inl q0), if_pos (.inl q0)]; exact betwI_gt a b c d i n h k n0 n1 i0 i1 q0 w
  · by_cases q1 : a = c
    · by_cases q2 : d < b
      · rw [if_pos (.inr ⟨q1, q2⟩), if_pos (.inr ⟨q1, q2⟩)]; exact betwI_eqgt a b c d i n h k n0 n1 i0 i1 q1 q2 w
      · rw [if_neg (by omega), if_neg (by omega)]; exact betwI_eqle a b c d i n h k n0 n1 i0 i1 q1 q2 w
    · rw [if_neg (by omega), if_neg (by omega)]; exact betwI_lt a b c d i n h k n0 n1 i0 i1 (by omega) w
def betwRes (a b c d i n : Int) : Value := if okP a b = true then (if okP c d = true then (if inB n 1 1000000 = true then (if inB i 0 n = true then .tuple #[.agg #[.int .i64 (btX a b c d i n), .int .i64 (btY a b c d i n)], .int .i64 0] else .tuple #[.agg #[.int .i64 0, .int .i64 0], .int .i64 2]) else .tuple #[.agg #[.int .i64 0, .int .i64 0], .int .i64 2]) else .tuple #[.agg #[.int .i64 0, .int .i64 0], .int .i64 1]) else .tuple #[.agg #[.int .i64 0, .int .i64 0], .int .i64 1]
theorem betwRes_k0f {a b c d i n : Int} (k0 : okP a b = false) : betwRes a b c d i n = .tuple #[.agg #[.int .i64 0, .int .i64 0], .int .i64 1] := by unfold betwRes; rw [k0]; rfl
theorem betwRes_k0tk1f {a b c d i n : Int} (k0 : okP a b = true) (k1 : okP c d = false) : betwRes a b c d i n = .tuple #[.agg #[.int .i64 0, .int .i64 0], .int .i64 1] := by unfold betwRes; rw [k0, k1]; rfl
theorem betwRes_k0tk1tk2f {a b c d i n : Int} (k0 : okP a b = true) (k1 : okP c d = true) (k2 : inB n 1 1000000 = false) : betwRes a b c d i n = .tuple #[.agg #[.int .i64 0, .int .i64 0], .int .i64 2] := by unfold betwRes; rw [k0, k1, k2]; rfl
theorem betwRes_k0tk1tk2tk3f {a b c d i n : Int} (k0 : okP a b = true) (k1 : okP c d = true) (k2 : inB n 1 1000000 = true) (k3 : inB i 0 n = false) : betwRes a b c d i n = .tuple #[.agg #[.int .i64 0, .int .i64 0], .int .i64 2] := by unfold betwRes; rw [k0, k1, k2, k3]; rfl
theorem betwRes_k0tk1tk2tk3t {a b c d i n : Int} (k0 : okP a b = true) (k1 : okP c d = true) (k2 : inB n 1 1000000 = true) (k3 : inB i 0 n = true) : betwRes a b c d i n = .tuple #[.agg #[.int .i64 (btX a b c d i n), .int .i64 (btY a b c d i n)], .int .i64 0] := by unfold betwRes; rw [k0, k1, k2, k3]; rfl
theorem betweenS (a b c d i n : Int) (w : World) :
    Calls Try.prog 22 #[.agg #[.int .i64 a, .int .i64 b], .agg #[.int .i64 c, .int .i64 d], .int .i64 i, .int .i64 n] w fun e w' => e = .returned (betwRes a b c d i n) ∧ Below w.heap.size w w' := by
  cases k0 : okP a b
  · have H := hide (betwRes_k0f (a := a) (b := b) (c := c) (d := d) (i := i) (n := n) k0)
    go_enter Try.func22, Try.ntmps22
    go_wp2_with (first | (go_at_call 42; refine (okS _ _ _).mono ?_; rintro e w1 ⟨rfl, hb1⟩; have hB1 := below_next (w0 := w) hb1 (by go_grown); obtain ⟨hc1, hf1⟩ := bcell hb1; have hz1 := hb1.size; (repeat rw [World.size_alloc] at hz1); (try (have lt0 : w.heap.size < w1.heap.size := by omega)); (try (have lt1 : w.heap.size + 1 < w1.heap.size := by omega)); (try (have lt2 : w.heap.size + 2 < w1.heap.size := by omega)); (try (have lt4 := Nat.lt_of_lt_of_le lt4 hz1)); (try (have lt4 := Nat.lt_of_lt_of_le lt3 hz1)); (try (have lt3 := Nat.lt_of_succ_le hz1)); have hy1 := hB1.size; clear hb1) | (go_at_call 49; refine (inS _ _ _ _).mono ?_; rintro e w' ⟨rfl, rfl⟩))
    refine bodyPost_ret (v := .tuple #[.agg #[.int .i64 0, .int .i64 0], .int .i64 1]) (by simp [results, Try.results22, go_sem, *]) rfl ⟨congrArg Ending.returned H.out.symm, by go_grown⟩
  · cases k1 : okP c d
    · have H := hide (betwRes_k0tk1f (a := a) (b := b) (c := c) (d := d) (i := i) (n := n) k0 k1)
      go_enter Try.func22, Try.ntmps22
      go_wp2_with (first | (go_at_call 42; refine (okS _ _ _).mono ?_; rintro e w1 ⟨rfl, hb1⟩; have hB1 := below_next (w0 := w) hb1 (by go_grown); obtain ⟨hc1, hf1⟩ := bcell hb1; have hz1 := hb1.size; (repeat rw [World.size_alloc] at hz1); (try (have lt0 : w.heap.size < w1.heap.size := by omega)); (try (have lt1 : w.heap.size + 1 < w1.heap.size := by omega)); (try (have lt2 : w.heap.size + 2 < w1.heap.size := by omega)); (try (have lt4 := Nat.lt_of_lt_of_le lt4 hz1)); (try (have lt4 := Nat.lt_of_lt_of_le lt3 hz1)); (try (have lt3 := Nat.lt_of_succ_le hz1)); have hy1 := hB1.size; clear hb1) | (go_at_call 49; refine (inS _ _ _ _).mono ?_; rintro e w' ⟨rfl, rfl⟩))
      refine bodyPost_ret (v := .tuple #[.agg #[.int .i64 0, .int .i64 0], .int .i64 1]) (by simp [results, Try.results22, go_sem, *]) rfl ⟨congrArg Ending.returned H.out.symm, by go_grown⟩
    · cases k2 : inB n 1 1000000
      · have H := hide (betwRes_k0tk1tk2f (a := a) (b := b) (c := c) (d := d) (i := i) (n := n) k0 k1 k2)
        go_enter Try.func22, Try.ntmps22
        go_wp2_with (first | (go_at_call 42; refine (okS _ _ _).mono ?_; rintro e w1 ⟨rfl, hb1⟩; have hB1 := below_next (w0 := w) hb1 (by go_grown); obtain ⟨hc1, hf1⟩ := bcell hb1; have hz1 := hb1.size; (repeat rw [World.size_alloc] at hz1); (try (have lt0 : w.heap.size < w1.heap.size := by omega)); (try (have lt1 : w.heap.size + 1 < w1.heap.size := by omega)); (try (have lt2 : w.heap.size + 2 < w1.heap.size := by omega)); (try (have lt4 := Nat.lt_of_lt_of_le lt4 hz1)); (try (have lt4 := Nat.lt_of_lt_of_le lt3 hz1)); (try (have lt3 := Nat.lt_of_succ_le hz1)); have hy1 := hB1.size; clear hb1) | (go_at_call 49; refine (inS _ _ _ _).mono ?_; rintro e w' ⟨rfl, rfl⟩))
        refine bodyPost_ret (v := .tuple #[.agg #[.int .i64 0, .int .i64 0], .int .i64 2]) (by simp [results, Try.results22, go_sem, *]) rfl ⟨congrArg Ending.returned H.out.symm, by go_grown⟩
      · cases k3 : inB i 0 n
        · have H := hide (betwRes_k0tk1tk2tk3f (a := a) (b := b) (c := c) (d := d) (i := i) (n := n) k0 k1 k2 k3)
          go_enter Try.func22, Try.ntmps22
          go_wp2_with (first | (go_at_call 42; refine (okS _ _ _).mono ?_; rintro e w1 ⟨rfl, hb1⟩; have hB1 := below_next (w0 := w) hb1 (by go_grown); obtain ⟨hc1, hf1⟩ := bcell hb1; have hz1 := hb1.size; (repeat rw [World.size_alloc] at hz1); (try (have lt0 : w.heap.size < w1.heap.size := by omega)); (try (have lt1 : w.heap.size + 1 < w1.heap.size := by omega)); (try (have lt2 : w.heap.size + 2 < w1.heap.size := by omega)); (try (have lt4 := Nat.lt_of_lt_of_le lt4 hz1)); (try (have lt4 := Nat.lt_of_lt_of_le lt3 hz1)); (try (have lt3 := Nat.lt_of_succ_le hz1)); have hy1 := hB1.size; clear hb1) | (go_at_call 49; refine (inS _ _ _ _).mono ?_; rintro e w' ⟨rfl, rfl⟩))
          refine bodyPost_ret (v := .tuple #[.agg #[.int .i64 0, .int .i64 0], .int .i64 2]) (by simp [results, Try.results22, go_sem, *]) rfl ⟨congrArg Ending.returned H.out.symm, by go_grown⟩
        · have H := hide (betwRes_k0tk1tk2tk3t (a := a) (b := b) (c := c) (d := d) (i := i) (n := n) k0 k1 k2 k3)
          obtain ⟨n0, n1⟩ := (inB_iff _ _ _).1 k2
          obtain ⟨i0, i1⟩ := (inB_iff _ _ _).1 k3
          go_enter Try.func22, Try.ntmps22
          go_wp2_with (first | (go_at_call 42; refine (okS _ _ _).mono ?_; rintro e w1 ⟨rfl, hb1⟩; have hB1 := below_next (w0 := w) hb1 (by go_grown); obtain ⟨hc1, hf1⟩ := bcell hb1; have hz1 := hb1.size; (repeat rw [World.size_alloc] at hz1); (try (have lt0 : w.heap.size < w1.heap.size := by omega)); (try (have lt1 : w.heap.size + 1 < w1.heap.size := by omega)); (try (have lt2 : w.heap.size + 2 < w1.heap.size := by omega)); (try (have lt4 := Nat.lt_of_lt_of_le lt4 hz1)); (try (have lt4 := Nat.lt_of_lt_of_le lt3 hz1)); (try (have lt3 := Nat.lt_of_succ_le hz1)); have hy1 := hB1.size; clear hb1) | (go_at_call 49; refine (inS _ _ _ _).mono ?_; rintro e w' ⟨rfl, rfl⟩) | (go_at_call 50; refine (betwS _ _ _ _ _ _ k0 k1 n0 n1 i0 i1 _).mono ?_; rintro e w1 ⟨rfl, hb1⟩; have hB1 := below_next (w0 := w) hb1 (by go_grown); obtain ⟨hc1, hf1⟩ := bcell hb1; have hz1 := hb1.size; (repeat rw [World.size_alloc] at hz1); (try (have lt0 : w.heap.size < w1.heap.size := by omega)); (try (have lt1 : w.heap.size + 1 < w1.heap.size := by omega)); (try (have lt2 : w.heap.size + 2 < w1.heap.size := by omega)); (try (have lt4 := Nat.lt_of_lt_of_le lt4 hz1)); (try (have lt4 := Nat.lt_of_lt_of_le lt3 hz1)); (try (have lt3 := Nat.lt_of_succ_le hz1)); have hy1 := hB1.size; clear hb1))
          refine bodyPost_ret (v := .tuple #[.agg #[.int .i64 (btX a b c d i n), .int .i64 (btY a b c d i n)], .int .i64 0]) (by simp [results, Try.results22, go_sem, *]) rfl ⟨congrArg Ending.returned H.out.symm, by go_grown⟩
theorem betweenI (a b c d i n : Int) (w : World) :
    Calls Try.prog 23 #[.agg #[.int .i64 a, .int .i64 b], .agg #[.int .i64 c, .int .i64 d], .int .i64 i, .int .i64 n] w fun e w' => e = .returned (betwRes a b c d i n) ∧ Below w.heap.size w w' := by
  cases k0 : okP a b
  · have H := hide (betwRes_k0f (a := a) (b := b) (c := c) (d := d) (i := i) (n := n) k0)
    have ha : allOk [(a, b), (c, d)] = false := by rw [all2, k0]; rfl
    go_enter Try.func23, Try.ntmps23
    go_wp2_with (first | (go_at_call 44; refine (arePointsI _ 0 2 _ [(a, b), (c, d)] rfl (by omega) _ ?hp ?hg).mono ?_; (case hp => exact ptsAt_new2 (by simp)); (case hg => simp); rintro e w1 ⟨rfl, hb1⟩; have hB1 := below_next (w0 := w) hb1 (by go_grown); obtain ⟨hc1, hf1⟩ := bcell hb1; have hz1 := hb1.size; (repeat rw [World.size_alloc] at hz1); (try (have lt0 : w.heap.size < w1.heap.size := by omega)); (try (have lt1 : w.heap.size + 1 < w1.heap.size := by omega)); (try (have lt2 : w.heap.size + 2 < w1.heap.size := by omega)); (try (have lt4 := Nat.lt_of_lt_of_le lt4 hz1)); (try (have lt4 := Nat.lt_of_lt_of_le lt3 hz1)); (try (have lt3 := Nat.lt_of_succ_le hz1)); have hy1 := hB1.size; clear hb1) | (go_at_call 51; refine (inI _ _ _ _).mono ?_; rintro e w' ⟨rfl, rfl⟩))
    refine bodyPost_ret (v := .tuple #[.agg #[.int .i64 0, .int .i64 0], .int .i64 1]) (by simp [results, Try.results23, go_sem, *]) rfl ⟨congrArg Ending.returned H.out.symm, by go_grown⟩
  · cases k1 : okP c d
    · have H := hide (betwRes_k0tk1f (a := a) (b := b) (c := c) (d := d) (i := i) (n := n) k0 k1)
      have ha : allOk [(a, b), (c, d)] = false := by rw [all2, k0, k1]; rfl
      go_enter Try.func23, Try.ntmps23
      go_wp2_with (first | (go_at_call 44; refine (arePointsI _ 0 2 _ [(a, b), (c, d)] rfl (by omega) _ ?hp ?hg).mono ?_; (case hp => exact ptsAt_new2 (by simp)); (case hg => simp); rintro e w1 ⟨rfl, hb1⟩; have hB1 := below_next (w0 := w) hb1 (by go_grown); obtain ⟨hc1, hf1⟩ := bcell hb1; have hz1 := hb1.size; (repeat rw [World.size_alloc] at hz1); (try (have lt0 : w.heap.size < w1.heap.size := by omega)); (try (have lt1 : w.heap.size + 1 < w1.heap.size := by omega)); (try (have lt2 : w.heap.size + 2 < w1.heap.size := by omega)); (try (have lt4 := Nat.lt_of_lt_of_le lt4 hz1)); (try (have lt4 := Nat.lt_of_lt_of_le lt3 hz1)); (try (have lt3 := Nat.lt_of_succ_le hz1)); have hy1 := hB1.size; clear hb1) | (go_at_call 51; refine (inI _ _ _ _).mono ?_; rintro e w' ⟨rfl, rfl⟩))
      refine bodyPost_ret (v := .tuple #[.agg #[.int .i64 0, .int .i64 0], .int .i64 1]) (by simp [results, Try.results23, go_sem, *]) rfl ⟨congrArg Ending.returned H.out.symm, by go_grown⟩
    · cases k2 : inB n 1 1000000
      · have H := hide (betwRes_k0tk1tk2f (a := a) (b := b) (c := c) (d := d) (i := i) (n := n) k0 k1 k2)
        have ha : allOk [(a, b), (c, d)] = true := by rw [all2, k0, k1]; rfl
        go_enter Try.func23, Try.ntmps23
        go_wp2_with (first | (go_at_call 44; refine (arePointsI _ 0 2 _ [(a, b), (c, d)] rfl (by omega) _ ?hp ?hg).mono ?_; (case hp => exact ptsAt_new2 (by simp)); (case hg => simp); rintro e w1 ⟨rfl, hb1⟩; have hB1 := below_next (w0 := w) hb1 (by go_grown); obtain ⟨hc1, hf1⟩ := bcell hb1; have hz1 := hb1.size; (repeat rw [World.size_alloc] at hz1); (try (have lt0 : w.heap.size < w1.heap.size := by omega)); (try (have lt1 : w.heap.size + 1 < w1.heap.size := by omega)); (try (have lt2 : w.heap.size + 2 < w1.heap.size := by omega)); (try (have lt4 := Nat.lt_of_lt_of_le lt4 hz1)); (try (have lt4 := Nat.lt_of_lt_of_le lt3 hz1)); (try (have lt3 := Nat.lt_of_succ_le hz1)); have hy1 := hB1.size; clear hb1) | (go_at_call 51; refine (inI _ _ _ _).mono ?_; rintro e w' ⟨rfl, rfl⟩))
        refine bodyPost_ret (v := .tuple #[.agg #[.int .i64 0, .int .i64 0], .int .i64 2]) (by simp [results, Try.results23, go_sem, *]) rfl ⟨congrArg Ending.returned H.out.symm, by go_grown⟩
      · cases k3 : inB i 0 n
        · have H := hide (betwRes_k0tk1tk2tk3f (a := a) (b := b) (c := c) (d := d) (i := i) (n := n) k0 k1 k2 k3)
          have ha : allOk [(a, b), (c, d)] = true := by rw [all2, k0, k1]; rfl
          go_enter Try.func23, Try.ntmps23
          go_wp2_with (first | (go_at_call 44; refine (arePointsI _ 0 2 _ [(a, b), (c, d)] rfl (by omega) _ ?hp ?hg).mono ?_; (case hp => exact ptsAt_new2 (by simp)); (case hg => simp); rintro e w1 ⟨rfl, hb1⟩; have hB1 := below_next (w0 := w) hb1 (by go_grown); obtain ⟨hc1, hf1⟩ := bcell hb1; have hz1 := hb1.size; (repeat rw [World.size_alloc] at hz1); (try (have lt0 : w.heap.size < w1.heap.size := by omega)); (try (have lt1 : w.heap.size + 1 < w1.heap.size := by omega)); (try (have lt2 : w.heap.size + 2 < w1.heap.size := by omega)); (try (have lt4 := Nat.lt_of_lt_of_le lt4 hz1)); (try (have lt4 := Nat.lt_of_lt_of_le lt3 hz1)); (try (have lt3 := Nat.lt_of_succ_le hz1)); have hy1 := hB1.size; clear hb1) | (go_at_call 51; refine (inI _ _ _ _).mono ?_; rintro e w' ⟨rfl, rfl⟩))
          refine bodyPost_ret (v := .tuple #[.agg #[.int .i64 0, .int .i64 0], .int .i64 2]) (by simp [results, Try.results23, go_sem, *]) rfl ⟨congrArg Ending.returned H.out.symm, by go_grown⟩
        · have H := hide (betwRes_k0tk1tk2tk3t (a := a) (b := b) (c := c) (d := d) (i := i) (n := n) k0 k1 k2 k3)
          have ha : allOk [(a, b), (c, d)] = true := by rw [all2, k0, k1]; rfl
          obtain ⟨n0, n1⟩ := (inB_iff _ _ _).1 k2
          obtain ⟨i0, i1⟩ := (inB_iff _ _ _).1 k3
          go_enter Try.func23, Try.ntmps23
          go_wp2_with (first | (go_at_call 44; refine (arePointsI _ 0 2 _ [(a, b), (c, d)] rfl (by omega) _ ?hp ?hg).mono ?_; (case hp => exact ptsAt_new2 (by simp)); (case hg => simp); rintro e w1 ⟨rfl, hb1⟩; have hB1 := below_next (w0 := w) hb1 (by go_grown); obtain ⟨hc1, hf1⟩ := bcell hb1; have hz1 := hb1.size; (repeat rw [World.size_alloc] at hz1); (try (have lt0 : w.heap.size < w1.heap.size := by omega)); (try (have lt1 : w.heap.size + 1 < w1.heap.size := by omega)); (try (have lt2 : w.heap.size + 2 < w1.heap.size := by omega)); (try (have lt4 := Nat.lt_of_lt_of_le lt4 hz1)); (try (have lt4 := Nat.lt_of_lt_of_le lt3 hz1)); (try (have lt3 := Nat.lt_of_succ_le hz1)); have hy1 := hB1.size; clear hb1) | (go_at_call 51; refine (inI _ _ _ _).mono ?_; rintro e w' ⟨rfl, rfl⟩) | (go_at_call 52; refine (betwI _ _ _ _ _ _ k0 k1 n0 n1 i0 i1 _).mono ?_; rintro e w1 ⟨rfl, hb1⟩; have hB1 := below_next (w0 := w) hb1 (by go_grown); obtain ⟨hc1, hf1⟩ := bcell hb1; have hz1 := hb1.size; (repeat rw [World.size_alloc] at hz1); (try (have lt0 : w.heap.size < w1.heap.size := by omega)); (try (have lt1 : w.heap.size + 1 < w1.heap.size := by omega)); (try (have lt2 : w.heap.size + 2 < w1.heap.size := by omega)); (try (have lt4 := Nat.lt_of_lt_of_le lt4 hz1)); (try (have lt4 := Nat.lt_of_lt_of_le lt3 hz1)); (try (have lt3 := Nat.lt_of_succ_le hz1)); have hy1 := hB1.size; clear hb1))
          refine bodyPost_ret (v := .tuple #[.agg #[.int .i64 (btX a b c d i n), .int .i64 (btY a b c d i n)], .int .i64 0]) (by simp [results, Try.results23, go_sem, *]) rfl ⟨congrArg Ending.returned H.out.symm, by go_grown⟩
end Go.Proofs.Ytnmihmjgmanllaa
