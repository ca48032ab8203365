--%!
/- The walks of the laws on points that the seat has (sides, distances, ..): each returns true. -/
import Derived.Test.YtnmihmjgmanllaaPts
namespace Go.Proofs.Ytnmihmjgmanllaa
open Go.ChangeShapes Go.WideShapes Go.ChangeAt Go.RowKit
set_option linter.unusedVariables false
set_option maxRecDepth 100000
set_option maxHeartbeats 2000000

theorem apartS (a b c d : Int) (h : okP a b = true) (k : okP c d = true) (w : World) :
    Calls Try.prog 46 #[.agg #[.int .i64 a, .int .i64 b], .agg #[.int .i64 c, .int .i64 d]] w fun e w' => e = .returned (.int .i64 (rt (sqd a b c d))) ∧ Below w.heap.size w w' := by
  obtain ⟨s1, s2⟩ := sqd_bd h k
  go_enter Try.func46, Try.ntmps46
  go_wp2_with (first | (go_at_call 56; refine (squaredS _ _ _ _ h k _).mono ?_; rintro e w1 ⟨rfl, hb1⟩; have hB1 := below_next (w0 := w) hb1 (by go_grown); obtain ⟨hc1, hf1⟩ := bcell hb1; have hz1 := hb1.size; (repeat rw [World.size_alloc] at hz1); (try (have lt0 : w.heap.size < w1.heap.size := by omega)); (try (have lt1 : w.heap.size + 1 < w1.heap.size := by omega)); (try (have lt2 : w.heap.size + 2 < w1.heap.size := by omega)); (try (have lt4 := Nat.lt_of_lt_of_le lt4 hz1)); (try (have lt4 := Nat.lt_of_lt_of_le lt3 hz1)); (try (have lt3 := Nat.lt_of_succ_le hz1)); have hy1 := hB1.size; clear hb1) | (go_at_call 70; refine (rootS _ (by omega) (by omega) _).mono ?_; rintro e w' ⟨rfl, rfl⟩))
  go_ret
  exact ⟨rfl, by go_grown⟩
def distOf (a b c d : Int) : Int := if okP a b = true ∧ okP c d = true then rt (sqd a b c d) else 0
theorem distS (a b c d : Int) (w : World) :
    Calls Try.prog 20 #[.agg #[.int .i64 a, .int .i64 b], .agg #[.int .i64 c, .int .i64 d]] w fun e w' => e = .returned (.int .i64 (distOf a b c d)) ∧ Below w.heap.size w w' := by
  cases k0 : okP a b
  · have H := hide (show distOf a b c d = 0 from if_neg (fun h => by have h' := h.1; rw [k0] at h'; cases h'))
    go_enter Try.func20, Try.ntmps20
    go_wp2_with (first | (go_at_call 42; refine (okS _ _ _).mono ?_; rintro e w1 ⟨rfl, hb1⟩; have hB1 := below_next (w0 := w) hb1 (by go_grown); obtain ⟨hc1, hf1⟩ := bcell hb1; have hz1 := hb1.size; (repeat rw [World.size_alloc] at hz1); (try (have lt0 : w.heap.size < w1.heap.size := by omega)); (try (have lt1 : w.heap.size + 1 < w1.heap.size := by omega)); (try (have lt2 : w.heap.size + 2 < w1.heap.size := by omega)); (try (have lt4 := Nat.lt_of_lt_of_le lt4 hz1)); (try (have lt4 := Nat.lt_of_lt_of_le lt3 hz1)); (try (have lt3 := Nat.lt_of_succ_le hz1)); have hy1 := hB1.size; clear hb1))
    go_ret
    exact ⟨ret_int H.out.symm, by go_grown⟩
  · cases k1 : okP c d
    · have H := hide (show distOf a b c d = 0 from if_neg (fun h => by have h' := h.2; rw [k1] at h'; cases h'))
      go_enter Try.func20, Try.ntmps20
      go_wp2_with (first | (go_at_call 42; refine (okS _ _ _).mono ?_; rintro e w1 ⟨rfl, hb1⟩; have hB1 := below_next (w0 := w) hb1 (by go_grown); obtain ⟨hc1, hf1⟩ := bcell hb1; have hz1 := hb1.size; (repeat rw [World.size_alloc] at hz1); (try (have lt0 : w.heap.size < w1.heap.size := by omega)); (try (have lt1 : w.heap.size + 1 < w1.heap.size := by omega)); (try (have lt2 : w.heap.size + 2 < w1.heap.size := by omega)); (try (have lt4 := Nat.lt_of_lt_of_le lt4 hz1)); (try (have lt4 := Nat.lt_of_lt_of_le lt3 hz1)); (try (have lt3 := Nat.lt_of_succ_le hz1)); have hy1 := hB1.size; clear hb1))
      go_ret
      exact ⟨ret_int H.out.symm, by go_grown⟩
    · have H := hide (show distOf a b c d = rt (sqd a b c d) from if_pos ⟨k0, k1⟩)
      obtain ⟨s1, s2⟩ := sqd_bd k0 k1
      go_enter Try.func20, Try.ntmps20
      go_wp2_with (first | (go_at_call 42; refine (okS _ _ _).mono ?_; rintro e w1 ⟨rfl, hb1⟩; have hB1 := below_next (w0 := w) hb1 (by go_grown); obtain ⟨hc1, hf1⟩ := bcell hb1; have hz1 := hb1.size; (repeat rw [World.size_alloc] at hz1); (try (have lt0 : w.heap.size < w1.heap.size := by omega)); (try (have lt1 : w.heap.size + 1 < w1.heap.size := by omega)); (try (have lt2 : w.heap.size + 2 < w1.heap.size := by omega)); (try (have lt4 := Nat.lt_of_lt_of_le lt4 hz1)); (try (have lt4 := Nat.lt_of_lt_of_le lt3 hz1)); (try (have lt3 := Nat.lt_of_succ_le hz1)); have hy1 := hB1.size; clear hb1) | (go_at_call 46; refine (apartS _ _ _ _ k0 k1 _).mono ?_; rintro e w1 ⟨rfl, hb1⟩; have hB1 := below_next (w0 := w) hb1 (by go_grown); obtain ⟨hc1, hf1⟩ := bcell hb1; have hz1 := hb1.size; (repeat rw [World.size_alloc] at hz1); (try (have lt0 : w.heap.size < w1.heap.size := by omega)); (try (have lt1 : w.heap.size + 1 < w1.heap.size := by omega)); (try (have lt2 : w.heap.size + 2 < w1.heap.size := by omega)); (try (have lt4 := Nat.lt_of_lt_of_le lt4 hz1)); (try (have lt4 := Nat.lt_of_lt_of_le lt3 hz1)); (try (have lt3 := Nat.lt_of_succ_le hz1)); have hy1 := hB1.size; clear hb1))
      all_goals
        go_ret
        exact ⟨ret_int (by first | exact H.out.symm | (rw [H.out]; unfold sgn; (repeat' split) <;> omega)), by go_grown⟩
theorem distI (a b c d : Int) (w : World) :
    Calls Try.prog 21 #[.agg #[.int .i64 a, .int .i64 b], .agg #[.int .i64 c, .int .i64 d]] w fun e w' => e = .returned (.int .i64 (distOf a b c d)) ∧ Below w.heap.size w w' := by
  cases k0 : okP a b
  · have H := hide (show distOf a b c d = 0 from if_neg (fun h => by have h' := h.1; rw [k0] at h'; cases h'))
    have ha : allOk [(a, b), (c, d)] = false := by rw [all2, k0]; rfl
    clear k0
    go_enter Try.func21, Try.ntmps21
    go_wp2_with (first | (go_at_call 44; refine (arePointsI _ 0 2 _ [(a, b), (c, d)] rfl (by omega) _ ?hp ?hg).mono ?_; (case hp => exact ptsAt_new2 (by simp)); (case hg => simp); rintro e w1 ⟨rfl, hb1⟩; have hB1 := below_next (w0 := w) hb1 (by go_grown); obtain ⟨hc1, hf1⟩ := bcell hb1; have hz1 := hb1.size; (repeat rw [World.size_alloc] at hz1); (try (have lt0 : w.heap.size < w1.heap.size := by omega)); (try (have lt1 : w.heap.size + 1 < w1.heap.size := by omega)); (try (have lt2 : w.heap.size + 2 < w1.heap.size := by omega)); (try (have lt4 := Nat.lt_of_lt_of_le lt4 hz1)); (try (have lt4 := Nat.lt_of_lt_of_le lt3 hz1)); (try (have lt3 := Nat.lt_of_succ_le hz1)); have hy1 := hB1.size; clear hb1))
    go_ret
    exact ⟨ret_int H.out.symm, by go_grown⟩
  · cases k1 : okP c d
    · have H := hide (show distOf a b c d = 0 from if_neg (fun h => by have h' := h.2; rw [k1] at h'; cases h'))
      have ha : allOk [(a, b), (c, d)] = false := by rw [all2, k0, k1]; rfl
      clear k0 k1
      go_enter Try.func21, Try.ntmps21
      go_wp2_with (first | (go_at_call 44; refine (arePointsI _ 0 2 _ [(a, b), (c, d)] rfl (by omega) _ ?hp ?hg).mono ?_; (case hp => exact ptsAt_new2 (by simp)); (case hg => simp); rintro e w1 ⟨rfl, hb1⟩; have hB1 := below_next (w0 := w) hb1 (by go_grown); obtain ⟨hc1, hf1⟩ := bcell hb1; have hz1 := hb1.size; (repeat rw [World.size_alloc] at hz1); (try (have lt0 : w.heap.size < w1.heap.size := by omega)); (try (have lt1 : w.heap.size + 1 < w1.heap.size := by omega)); (try (have lt2 : w.heap.size + 2 < w1.heap.size := by omega)); (try (have lt4 := Nat.lt_of_lt_of_le lt4 hz1)); (try (have lt4 := Nat.lt_of_lt_of_le lt3 hz1)); (try (have lt3 := Nat.lt_of_succ_le hz1)); have hy1 := hB1.size; clear hb1))
      go_ret
      exact ⟨ret_int H.out.symm, by go_grown⟩
    · have H := hide (show distOf a b c d = rt (sqd a b c d) from if_pos ⟨k0, k1⟩)
      have ha : allOk [(a, b), (c, d)] = true := by rw [all2, k0, k1]; rfl
      obtain ⟨s1, s2⟩ := sqd_bd k0 k1
      go_enter Try.func21, Try.ntmps21
      go_wp2_with (first | (go_at_call 44; refine (arePointsI _ 0 2 _ [(a, b), (c, d)] rfl (by omega) _ ?hp ?hg).mono ?_; (case hp => exact ptsAt_new2 (by simp)); (case hg => simp); rintro e w1 ⟨rfl, hb1⟩; have hB1 := below_next (w0 := w) hb1 (by go_grown); obtain ⟨hc1, hf1⟩ := bcell hb1; have hz1 := hb1.size; (repeat rw [World.size_alloc] at hz1); (try (have lt0 : w.heap.size < w1.heap.size := by omega)); (try (have lt1 : w.heap.size + 1 < w1.heap.size := by omega)); (try (have lt2 : w.heap.size + 2 < w1.heap.size := by omega)); (try (have lt4 := Nat.lt_of_lt_of_le lt4 hz1)); (try (have lt4 := Nat.lt_of_lt_of_le lt3 hz1)); (try (have lt3 := Nat.lt_of_succ_le hz1)); have hy1 := hB1.size; clear hb1) | (go_at_call 48; refine (squaredI _ _ _ _ k0 k1 _).mono ?_; rintro e w1 ⟨rfl, hb1⟩; have hB1 := below_next (w0 := w) hb1 (by go_grown); obtain ⟨hc1, hf1⟩ := bcell hb1; have hz1 := hb1.size; (repeat rw [World.size_alloc] at hz1); (try (have lt0 : w.heap.size < w1.heap.size := by omega)); (try (have lt1 : w.heap.size + 1 < w1.heap.size := by omega)); (try (have lt2 : w.heap.size + 2 < w1.heap.size := by omega)); (try (have lt4 := Nat.lt_of_lt_of_le lt4 hz1)); (try (have lt4 := Nat.lt_of_lt_of_le lt3 hz1)); (try (have lt3 := Nat.lt_of_succ_le hz1)); have hy1 := hB1.size; clear hb1) | (go_at_call 47; refine (rootI _ (by omega) (by omega) _).mono ?_; rintro e w' ⟨rfl, rfl⟩))
      all_goals
        go_ret
        exact ⟨ret_int (by first | exact H.out.symm | (rw [H.out]; unfold sgn; (repeat' split) <;> omega)), by go_grown⟩
theorem fnExactDistance_walk (a b : Int) (_ : -9223372036854775808 ≤ a) (_ : a ≤ 9223372036854775807) (_ : -9223372036854775808 ≤ b) (_ : b ≤ 9223372036854775807) (c d : Int) (_ : -9223372036854775808 ≤ c) (_ : c ≤ 9223372036854775807) (_ : -9223372036854775808 ≤ d) (_ : d ≤ 9223372036854775807) (w : World) :
    Calls Try.prog 6 #[.agg #[.int .i64 a, .int .i64 b], .agg #[.int .i64 c, .int .i64 d]] w fun e w' => e = .returned (.bool true) ∧ Below w.heap.size w w' := by
  go_enter Try.func6, Try.ntmps6
  go_wp2_with fail
  go_region_held3 (fun w' => Below w.heap.size w w' ∧ w.heap.size + 1 < w'.heap.size ∧ w'.cell? ⟨w.heap.size, 0, none⟩ = some (.int .i64 a) ∧ w'.cell? ⟨w.heap.size, 1, none⟩ = some (.int .i64 b) ∧ w'.cell? ⟨w.heap.size + 1, 0, none⟩ = some (.int .i64 c) ∧ w'.cell? ⟨w.heap.size + 1, 1, none⟩ = some (.int .i64 d)) (first | exact heldD2 (by assumption) | exact held2 (by assumption) (by assumption) | (refine ⟨?_, ?_, ?_, ?_, ?_, ?_⟩ <;> first | (go_simp; done) | (simp; done) | (go_grown; done)) | go_keep) (first | (go_at_call 18; refine (toPt _ _ _).mono ?_; rintro e w1 ⟨rfl, hb1⟩) | (go_at_call 20; refine (distS _ _ _ _ _).mono ?_; rintro e w1 ⟨rfl, hb1⟩))
  go_wp2_with fail
  go_region_held3 (fun w' => Below w.heap.size w w' ∧ w.heap.size + 1 < w'.heap.size ∧ w'.cell? ⟨w.heap.size, 0, none⟩ = some (.int .i64 a) ∧ w'.cell? ⟨w.heap.size, 1, none⟩ = some (.int .i64 b) ∧ w'.cell? ⟨w.heap.size + 1, 0, none⟩ = some (.int .i64 c) ∧ w'.cell? ⟨w.heap.size + 1, 1, none⟩ = some (.int .i64 d)) (first | exact heldD2 (by assumption) | exact held2 (by assumption) (by assumption) | (refine ⟨?_, ?_, ?_, ?_, ?_, ?_⟩ <;> first | (go_simp; done) | (simp; done) | (go_grown; done)) | go_keep) (first | (go_at_call 18; refine (toPt _ _ _).mono ?_; rintro e w1 ⟨rfl, hb1⟩) | (go_at_call 21; refine (distI _ _ _ _ _).mono ?_; rintro e w1 ⟨rfl, hb1⟩))
  go_wp2
  all_goals
    go_ret
    exact ⟨rfl, And.left (by assumption)⟩
def sideOf (a b c d e1 f : Int) : Int := if okP a b = true ∧ okP c d = true ∧ okP e1 f = true then sgn (crs a b c d e1 f) else 0
theorem sideS (a b c d e1 f : Int) (w : World) :
    Calls Try.prog 17 #[.agg #[.int .i64 a, .int .i64 b], .agg #[.int .i64 c, .int .i64 d], .agg #[.int .i64 e1, .int .i64 f]] w fun e w' => e = .returned (.int .i64 (sideOf a b c d e1 f)) ∧ Below w.heap.size w w' := by
  cases k0 : okP a b
  · have H := hide (show sideOf a b c d e1 f = 0 from if_neg (fun h => by have h' := h.1; rw [k0] at h'; cases h'))
    go_enter Try.func17, Try.ntmps17
    go_wp2_with (first | (go_at_call 42; refine (okS _ _ _).mono ?_; rintro e w1 ⟨rfl, hb1⟩; have hB1 := below_next (w0 := w) hb1 (by go_grown); obtain ⟨hc1, hf1⟩ := bcell hb1; have hz1 := hb1.size; (repeat rw [World.size_alloc] at hz1); (try (have lt0 : w.heap.size < w1.heap.size := by omega)); (try (have lt1 : w.heap.size + 1 < w1.heap.size := by omega)); (try (have lt2 : w.heap.size + 2 < w1.heap.size := by omega)); (try (have lt4 := Nat.lt_of_lt_of_le lt4 hz1)); (try (have lt4 := Nat.lt_of_lt_of_le lt3 hz1)); (try (have lt3 := Nat.lt_of_succ_le hz1)); have hy1 := hB1.size; clear hb1))
    go_ret
    exact ⟨ret_int H.out.symm, by go_grown⟩
  · cases k1 : okP c d
    · have H := hide (show sideOf a b c d e1 f = 0 from if_neg (fun h => by have h' := h.2.1; rw [k1] at h'; cases h'))
      go_enter Try.func17, Try.ntmps17
      go_wp2_with (first | (go_at_call 42; refine (okS _ _ _).mono ?_; rintro e w1 ⟨rfl, hb1⟩; have hB1 := below_next (w0 := w) hb1 (by go_grown); obtain ⟨hc1, hf1⟩ := bcell hb1; have hz1 := hb1.size; (repeat rw [World.size_alloc] at hz1); (try (have lt0 : w.heap.size < w1.heap.size := by omega)); (try (have lt1 : w.heap.size + 1 < w1.heap.size := by omega)); (try (have lt2 : w.heap.size + 2 < w1.heap.size := by omega)); (try (have lt4 := Nat.lt_of_lt_of_le lt4 hz1)); (try (have lt4 := Nat.lt_of_lt_of_le lt3 hz1)); (try (have lt3 := Nat.lt_of_succ_le hz1)); have hy1 := hB1.size; clear hb1))
      go_ret
      exact ⟨ret_int H.out.symm, by go_grown⟩
    · cases k2 : okP e1 f
      · have H := hide (show sideOf a b c d e1 f = 0 from if_neg (fun h => by have h' := h.2.2; rw [k2] at h'; cases h'))
        go_enter Try.func17, Try.ntmps17
        go_wp2_with (first | (go_at_call 42; refine (okS _ _ _).mono ?_; rintro e w1 ⟨rfl, hb1⟩; have hB1 := below_next (w0 := w) hb1 (by go_grown); obtain ⟨hc1, hf1⟩ := bcell hb1; have hz1 := hb1.size; (repeat rw [World.size_alloc] at hz1); (try (have lt0 : w.heap.size < w1.heap.size := by omega)); (try (have lt1 : w.heap.size + 1 < w1.heap.size := by omega)); (try (have lt2 : w.heap.size + 2 < w1.heap.size := by omega)); (try (have lt4 := Nat.lt_of_lt_of_le lt4 hz1)); (try (have lt4 := Nat.lt_of_lt_of_le lt3 hz1)); (try (have lt3 := Nat.lt_of_succ_le hz1)); have hy1 := hB1.size; clear hb1))
        go_ret
        exact ⟨ret_int H.out.symm, by go_grown⟩
      · have H := hide (show sideOf a b c d e1 f = sgn (crs a b c d e1 f) from if_pos ⟨k0, k1, k2⟩)
        go_enter Try.func17, Try.ntmps17
        go_wp2_with (first | (go_at_call 42; refine (okS _ _ _).mono ?_; rintro e w1 ⟨rfl, hb1⟩; have hB1 := below_next (w0 := w) hb1 (by go_grown); obtain ⟨hc1, hf1⟩ := bcell hb1; have hz1 := hb1.size; (repeat rw [World.size_alloc] at hz1); (try (have lt0 : w.heap.size < w1.heap.size := by omega)); (try (have lt1 : w.heap.size + 1 < w1.heap.size := by omega)); (try (have lt2 : w.heap.size + 2 < w1.heap.size := by omega)); (try (have lt4 := Nat.lt_of_lt_of_le lt4 hz1)); (try (have lt4 := Nat.lt_of_lt_of_le lt3 hz1)); (try (have lt3 := Nat.lt_of_succ_le hz1)); have hy1 := hB1.size; clear hb1) | (go_at_call 69; refine (crossS _ _ _ _ _ _ k0 k1 k2 _).mono ?_; rintro e w1 ⟨rfl, hb1⟩; have hB1 := below_next (w0 := w) hb1 (by go_grown); obtain ⟨hc1, hf1⟩ := bcell hb1; have hz1 := hb1.size; (repeat rw [World.size_alloc] at hz1); (try (have lt0 : w.heap.size < w1.heap.size := by omega)); (try (have lt1 : w.heap.size + 1 < w1.heap.size := by omega)); (try (have lt2 : w.heap.size + 2 < w1.heap.size := by omega)); (try (have lt4 := Nat.lt_of_lt_of_le lt4 hz1)); (try (have lt4 := Nat.lt_of_lt_of_le lt3 hz1)); (try (have lt3 := Nat.lt_of_succ_le hz1)); have hy1 := hB1.size; clear hb1) | (go_at_call 43; go_in))
        all_goals
          go_ret
          exact ⟨ret_int (by first | exact H.out.symm | (rw [H.out]; unfold sgn; (repeat' split) <;> omega)), by go_grown⟩
theorem sideI (a b c d e1 f : Int) (w : World) :
    Calls Try.prog 19 #[.agg #[.int .i64 a, .int .i64 b], .agg #[.int .i64 c, .int .i64 d], .agg #[.int .i64 e1, .int .i64 f]] w fun e w' => e = .returned (.int .i64 (sideOf a b c d e1 f)) ∧ Below w.heap.size w w' := by
  cases k0 : okP a b
  · have H := hide (show sideOf a b c d e1 f = 0 from if_neg (fun h => by have h' := h.1; rw [k0] at h'; cases h'))
    have ha : allOk [(a, b), (c, d), (e1, f)] = false := by rw [all3, k0]; rfl
    clear k0
    go_enter Try.func19, Try.ntmps19
    go_wp2_with (first | (go_at_call 44; refine (arePointsI _ 0 3 _ [(a, b), (c, d), (e1, f)] rfl (by omega) _ ?hp ?hg).mono ?_; (case hp => exact ptsAt_new3 (by simp)); (case hg => simp); rintro e w1 ⟨rfl, hb1⟩; have hB1 := below_next (w0 := w) hb1 (by go_grown); obtain ⟨hc1, hf1⟩ := bcell hb1; have hz1 := hb1.size; (repeat rw [World.size_alloc] at hz1); (try (have lt0 : w.heap.size < w1.heap.size := by omega)); (try (have lt1 : w.heap.size + 1 < w1.heap.size := by omega)); (try (have lt2 : w.heap.size + 2 < w1.heap.size := by omega)); (try (have lt4 := Nat.lt_of_lt_of_le lt4 hz1)); (try (have lt4 := Nat.lt_of_lt_of_le lt3 hz1)); (try (have lt3 := Nat.lt_of_succ_le hz1)); have hy1 := hB1.size; clear hb1))
    go_ret
    exact ⟨ret_int H.out.symm, by go_grown⟩
  · cases k1 : okP c d
    · have H := hide (show sideOf a b c d e1 f = 0 from if_neg (fun h => by have h' := h.2.1; rw [k1] at h'; cases h'))
      have ha : allOk [(a, b), (c, d), (e1, f)] = false := by rw [all3, k0, k1]; rfl
      clear k0 k1
      go_enter Try.func19, Try.ntmps19
      go_wp2_with (first | (go_at_call 44; refine (arePointsI _ 0 3 _ [(a, b), (c, d), (e1, f)] rfl (by omega) _ ?hp ?hg).mono ?_; (case hp => exact ptsAt_new3 (by simp)); (case hg => simp); rintro e w1 ⟨rfl, hb1⟩; have hB1 := below_next (w0 := w) hb1 (by go_grown); obtain ⟨hc1, hf1⟩ := bcell hb1; have hz1 := hb1.size; (repeat rw [World.size_alloc] at hz1); (try (have lt0 : w.heap.size < w1.heap.size := by omega)); (try (have lt1 : w.heap.size + 1 < w1.heap.size := by omega)); (try (have lt2 : w.heap.size + 2 < w1.heap.size := by omega)); (try (have lt4 := Nat.lt_of_lt_of_le lt4 hz1)); (try (have lt4 := Nat.lt_of_lt_of_le lt3 hz1)); (try (have lt3 := Nat.lt_of_succ_le hz1)); have hy1 := hB1.size; clear hb1))
      go_ret
      exact ⟨ret_int H.out.symm, by go_grown⟩
    · cases k2 : okP e1 f
      · have H := hide (show sideOf a b c d e1 f = 0 from if_neg (fun h => by have h' := h.2.2; rw [k2] at h'; cases h'))
        have ha : allOk [(a, b), (c, d), (e1, f)] = false := by rw [all3, k0, k1, k2]; rfl
        clear k0 k1 k2
        go_enter Try.func19, Try.ntmps19
        go_wp2_with (first | (go_at_call 44; refine (arePointsI _ 0 3 _ [(a, b), (c, d), (e1, f)] rfl (by omega) _ ?hp ?hg).mono ?_; (case hp => exact ptsAt_new3 (by simp)); (case hg => simp); rintro e w1 ⟨rfl, hb1⟩; have hB1 := below_next (w0 := w) hb1 (by go_grown); obtain ⟨hc1, hf1⟩ := bcell hb1; have hz1 := hb1.size; (repeat rw [World.size_alloc] at hz1); (try (have lt0 : w.heap.size < w1.heap.size := by omega)); (try (have lt1 : w.heap.size + 1 < w1.heap.size := by omega)); (try (have lt2 : w.heap.size + 2 < w1.heap.size := by omega)); (try (have lt4 := Nat.lt_of_lt_of_le lt4 hz1)); (try (have lt4 := Nat.lt_of_lt_of_le lt3 hz1)); (try (have lt3 := Nat.lt_of_succ_le hz1)); have hy1 := hB1.size; clear hb1))
        go_ret
        exact ⟨ret_int H.out.symm, by go_grown⟩
      · have H := hide (show sideOf a b c d e1 f = sgn (crs a b c d e1 f) from if_pos ⟨k0, k1, k2⟩)
        have ha : allOk [(a, b), (c, d), (e1, f)] = true := by rw [all3, k0, k1, k2]; rfl
        go_enter Try.func19, Try.ntmps19
        go_wp2_with (first | (go_at_call 44; refine (arePointsI _ 0 3 _ [(a, b), (c, d), (e1, f)] rfl (by omega) _ ?hp ?hg).mono ?_; (case hp => exact ptsAt_new3 (by simp)); (case hg => simp); rintro e w1 ⟨rfl, hb1⟩; have hB1 := below_next (w0 := w) hb1 (by go_grown); obtain ⟨hc1, hf1⟩ := bcell hb1; have hz1 := hb1.size; (repeat rw [World.size_alloc] at hz1); (try (have lt0 : w.heap.size < w1.heap.size := by omega)); (try (have lt1 : w.heap.size + 1 < w1.heap.size := by omega)); (try (have lt2 : w.heap.size + 2 < w1.heap.size := by omega)); (try (have lt4 := Nat.lt_of_lt_of_le lt4 hz1)); (try (have lt4 := Nat.lt_of_lt_of_le lt3 hz1)); (try (have lt3 := Nat.lt_of_succ_le hz1)); have hy1 := hB1.size; clear hb1) | (go_at_call 45; refine (crossI _ _ _ _ _ _ k0 k1 k2 _).mono ?_; rintro e w1 ⟨rfl, hb1⟩; have hB1 := below_next (w0 := w) hb1 (by go_grown); obtain ⟨hc1, hf1⟩ := bcell hb1; have hz1 := hb1.size; (repeat rw [World.size_alloc] at hz1); (try (have lt0 : w.heap.size < w1.heap.size := by omega)); (try (have lt1 : w.heap.size + 1 < w1.heap.size := by omega)); (try (have lt2 : w.heap.size + 2 < w1.heap.size := by omega)); (try (have lt4 := Nat.lt_of_lt_of_le lt4 hz1)); (try (have lt4 := Nat.lt_of_lt_of_le lt3 hz1)); (try (have lt3 := Nat.lt_of_succ_le hz1)); have hy1 := hB1.size; clear hb1))
        all_goals
          go_ret
          exact ⟨ret_int (by first | exact H.out.symm | (rw [H.out]; unfold sgn; (repeat' split) <;> omega)), by go_grown⟩
theorem fnExactSideOf_walk (a b : Int) (_ : -9223372036854775808 ≤ a) (_ : a ≤ 9223372036854775807) (_ : -9223372036854775808 ≤ b) (_ : b ≤ 9223372036854775807) (c d : Int) (_ : -9223372036854775808 ≤ c) (_ : c ≤ 9223372036854775807) (_ : -9223372036854775808 ≤ d) (_ : d ≤ 9223372036854775807) (e1 f : Int) (_ : -9223372036854775808 ≤ e1) (_ : e1 ≤ 9223372036854775807) (_ : -9223372036854775808 ≤ f) (_ : f ≤ 9223372036854775807) (w : World) :
    Calls Try.prog 5 #[.agg #[.int .i64 a, .int .i64 b], .agg #[.int .i64 c, .int .i64 d], .agg #[.int .i64 e1, .int .i64 f]] w fun e w' => e = .returned (.bool true) ∧ Below w.heap.size w w' := by
  go_enter Try.func5, Try.ntmps5
  go_wp2_with fail
  go_region_held3 (fun w' => Below w.heap.size w w' ∧ w.heap.size + 1 + 1 < w'.heap.size ∧ w'.cell? ⟨w.heap.size, 0, none⟩ = some (.int .i64 a) ∧ w'.cell? ⟨w.heap.size, 1, none⟩ = some (.int .i64 b) ∧ w'.cell? ⟨w.heap.size + 1, 0, none⟩ = some (.int .i64 c) ∧ w'.cell? ⟨w.heap.size + 1, 1, none⟩ = some (.int .i64 d) ∧ w'.cell? ⟨w.heap.size + 1 + 1, 0, none⟩ = some (.int .i64 e1) ∧ w'.cell? ⟨w.heap.size + 1 + 1, 1, none⟩ = some (.int .i64 f)) (first | exact heldD3 (by assumption) | exact held3 (by assumption) (by assumption) | (refine ⟨?_, ?_, ?_, ?_, ?_, ?_, ?_, ?_⟩ <;> first | (go_simp; done) | (simp; done) | (go_grown; done)) | go_keep) (first | (go_at_call 18; refine (toPt _ _ _).mono ?_; rintro e w1 ⟨rfl, hb1⟩) | (go_at_call 17; refine (sideS _ _ _ _ _ _ _).mono ?_; rintro e w1 ⟨rfl, hb1⟩))
  go_wp2_with fail
  go_region_held3 (fun w' => Below w.heap.size w w' ∧ w.heap.size + 1 + 1 < w'.heap.size ∧ w'.cell? ⟨w.heap.size, 0, none⟩ = some (.int .i64 a) ∧ w'.cell? ⟨w.heap.size, 1, none⟩ = some (.int .i64 b) ∧ w'.cell? ⟨w.heap.size + 1, 0, none⟩ = some (.int .i64 c) ∧ w'.cell? ⟨w.heap.size + 1, 1, none⟩ = some (.int .i64 d) ∧ w'.cell? ⟨w.heap.size + 1 + 1, 0, none⟩ = some (.int .i64 e1) ∧ w'.cell? ⟨w.heap.size + 1 + 1, 1, none⟩ = some (.int .i64 f)) (first | exact heldD3 (by assumption) | exact held3 (by assumption) (by assumption) | (refine ⟨?_, ?_, ?_, ?_, ?_, ?_, ?_, ?_⟩ <;> first | (go_simp; done) | (simp; done) | (go_grown; done)) | go_keep) (first | (go_at_call 18; refine (toPt _ _ _).mono ?_; rintro e w1 ⟨rfl, hb1⟩) | (go_at_call 19; refine (sideI _ _ _ _ _ _ _).mono ?_; rintro e w1 ⟨rfl, hb1⟩))
  go_wp2
  all_goals
    go_ret
    exact ⟨rfl, And.left (by assumption)⟩
end Go.Proofs.Ytnmihmjgmanllaa
