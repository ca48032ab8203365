--%!
/- The walk of the law on the distance from a segment that the seat has: it returns true. -/
import Derived.Test.YtnmihmjgmanllaaSeg
namespace Go.Proofs.Ytnmihmjgmanllaa
open Go.ChangeShapes Go.WideShapes Go.ChangeAt Go.RowKit
set_option linter.unusedVariables false
set_option maxRecDepth 100000
set_option maxHeartbeats 4000000

noncomputable def gapV (a b c d e1 f : Int) : Int := if dotp a b c d e1 f ≤ 0 then rt (sqd a b e1 f) else if sqd a b c d ≤ dotp a b c d e1 f then rt (sqd c d e1 f) else segR (crs a b c d e1 f * crs a b c d e1 f) (sqd a b c d)
theorem gap_1 {a b c d e1 f : Int} (h : dotp a b c d e1 f ≤ 0) : gapV a b c d e1 f = rt (sqd a b e1 f) := if_pos h
theorem gap_2 {a b c d e1 f : Int} (h : ¬ dotp a b c d e1 f ≤ 0) (k : sqd a b c d ≤ dotp a b c d e1 f) : gapV a b c d e1 f = rt (sqd c d e1 f) := by unfold gapV; rw [if_neg h, if_pos k]
theorem gap_3 {a b c d e1 f : Int} (h : ¬ dotp a b c d e1 f ≤ 0) (k : ¬ sqd a b c d ≤ dotp a b c d e1 f) : gapV a b c d e1 f = segR (crs a b c d e1 f * crs a b c d e1 f) (sqd a b c d) := by unfold gapV; rw [if_neg h, if_neg k]
theorem crs_sq {a b c d e1 f : Int} (h : okP a b = true) (l : okP e1 f = true) : crs a b c d e1 f * crs a b c d e1 f ≤ 80000000000 * sqd a b c d := by
  have e := lagrange (c - a) (d - b) (e1 - a) (f - b)
  have h1 : crs a b c d e1 f = (c - a) * (f - b) - (d - b) * (e1 - a) := rfl
  have h2 : sqd a b c d = (c - a) * (c - a) + (d - b) * (d - b) := by
    unfold sqd
    rw [show a - c = -(c - a) by omega, show b - d = -(d - b) by omega, Int.neg_mul_neg, Int.neg_mul_neg]
  have h3 : sqd a b e1 f = (e1 - a) * (e1 - a) + (f - b) * (f - b) := by
    unfold sqd
    rw [show a - e1 = -(e1 - a) by omega, show b - f = -(f - b) by omega, Int.neg_mul_neg, Int.neg_mul_neg]
  have h4 := sq_nonneg' ((e1 - a) * (c - a) + (f - b) * (d - b))
  have h5 := sqd_bd h l
  have h6 : 0 ≤ sqd a b c d := by rw [h2]; have := sq_nonneg' (c - a); have := sq_nonneg' (d - b); omega
  have h7 := Int.mul_le_mul_of_nonneg_left h5.2 h6
  rw [← h1, ← h2, ← h3] at e
  rw [Int.mul_comm 80000000000]
  omega
theorem dotp_comm (a b c d e1 f : Int) : (c - a) * (e1 - a) + (d - b) * (f - b) = dotp a b c d e1 f := by
  unfold dotp; rw [Int.mul_comm (c - a), Int.mul_comm (d - b)]
theorem gapS1 (a b c d e1 f : Int) (h : okP a b = true) (k : okP c d = true) (l : okP e1 f = true) (q : dotp a b c d e1 f ≤ 0) (w : World) :
    Calls Try.prog 61 #[.agg #[.int .i64 a, .int .i64 b], .agg #[.int .i64 c, .int .i64 d], .agg #[.int .i64 e1, .int .i64 f]] w fun e w' => e = .returned (.int .i64 (gapV a b c d e1 f)) ∧ Below w.heap.size w w' := by
  have hd := dotp_parts h k l
  rw [Int.mul_comm (e1 - a) (c - a), Int.mul_comm (f - b) (d - b)] at hd
  obtain ⟨⟨p1, p2⟩, p3, p4⟩ := hd
  obtain ⟨x0, x1, x2, x3⟩ := okP_bd h
  obtain ⟨y0, y1, y2, y3⟩ := okP_bd k
  obtain ⟨z0, z1, z2, z3⟩ := okP_bd l
  obtain ⟨s1, s2⟩ := sqd_bd h k
  have D := hide (dotp_comm a b c d e1 f)
  have H := hide (gap_1 q)
  have q1 : (c - a) * (e1 - a) + (d - b) * (f - b) ≤ 0 := by have := D.out; omega
  clear q
  go_enter Try.func61, Try.ntmps61
  go_wp2_with (first | (go_at_call 56; refine (squaredS _ _ _ _ h k _).mono ?_; rintro e w1 ⟨rfl, hb1⟩; have hB1 := below_next (w0 := w) hb1 (by go_grown); obtain ⟨hc1, hf1⟩ := bcell hb1; have hz1 := hb1.size; (repeat rw [World.size_alloc] at hz1); (try (have lt0 : w.heap.size < w1.heap.size := by omega)); (try (have lt1 : w.heap.size + 1 < w1.heap.size := by omega)); (try (have lt2 : w.heap.size + 2 < w1.heap.size := by omega)); (try (have lt4 := Nat.lt_of_lt_of_le lt4 hz1)); (try (have lt4 := Nat.lt_of_lt_of_le lt3 hz1)); (try (have lt3 := Nat.lt_of_succ_le hz1)); have hy1 := hB1.size; clear hb1) | (go_at_call 69; refine (crossS _ _ _ _ _ _ h k l _).mono ?_; rintro e w1 ⟨rfl, hb1⟩; have hB1 := below_next (w0 := w) hb1 (by go_grown); obtain ⟨hc1, hf1⟩ := bcell hb1; have hz1 := hb1.size; (repeat rw [World.size_alloc] at hz1); (try (have lt0 : w.heap.size < w1.heap.size := by omega)); (try (have lt1 : w.heap.size + 1 < w1.heap.size := by omega)); (try (have lt2 : w.heap.size + 2 < w1.heap.size := by omega)); (try (have lt4 := Nat.lt_of_lt_of_le lt4 hz1)); (try (have lt4 := Nat.lt_of_lt_of_le lt3 hz1)); (try (have lt3 := Nat.lt_of_succ_le hz1)); have hy1 := hB1.size; clear hb1) | (go_at_call 73; go_in) | (go_at_call 46; refine (apartS _ _ _ _ h l _).mono ?_; rintro e w1 ⟨rfl, hb1⟩; have hB1 := below_next (w0 := w) hb1 (by go_grown); obtain ⟨hc1, hf1⟩ := bcell hb1; have hz1 := hb1.size; (repeat rw [World.size_alloc] at hz1); (try (have lt0 : w.heap.size < w1.heap.size := by omega)); (try (have lt1 : w.heap.size + 1 < w1.heap.size := by omega)); (try (have lt2 : w.heap.size + 2 < w1.heap.size := by omega)); (try (have lt4 := Nat.lt_of_lt_of_le lt4 hz1)); (try (have lt4 := Nat.lt_of_lt_of_le lt3 hz1)); (try (have lt3 := Nat.lt_of_succ_le hz1)); have hy1 := hB1.size; clear hb1))
  go_ret
  exact ⟨ret_int H.out.symm, by go_grown⟩
theorem gapS2 (a b c d e1 f : Int) (h : okP a b = true) (k : okP c d = true) (l : okP e1 f = true) (q : ¬ dotp a b c d e1 f ≤ 0) (r : sqd a b c d ≤ dotp a b c d e1 f) (w : World) :
    Calls Try.prog 61 #[.agg #[.int .i64 a, .int .i64 b], .agg #[.int .i64 c, .int .i64 d], .agg #[.int .i64 e1, .int .i64 f]] w fun e w' => e = .returned (.int .i64 (gapV a b c d e1 f)) ∧ Below w.heap.size w w' := by
  have hd := dotp_parts h k l
  rw [Int.mul_comm (e1 - a) (c - a), Int.mul_comm (f - b) (d - b)] at hd
  obtain ⟨⟨p1, p2⟩, p3, p4⟩ := hd
  obtain ⟨x0, x1, x2, x3⟩ := okP_bd h
  obtain ⟨y0, y1, y2, y3⟩ := okP_bd k
  obtain ⟨z0, z1, z2, z3⟩ := okP_bd l
  obtain ⟨s1, s2⟩ := sqd_bd h k
  have D := hide (dotp_comm a b c d e1 f)
  have H := hide (gap_2 q r)
  have q1 : 0 < (c - a) * (e1 - a) + (d - b) * (f - b) := by have := D.out; omega
  have q2 : sqd a b c d ≤ (c - a) * (e1 - a) + (d - b) * (f - b) := by have := D.out; omega
  clear q
  clear r
  go_enter Try.func61, Try.ntmps61
  go_wp2_with (first | (go_at_call 56; refine (squaredS _ _ _ _ h k _).mono ?_; rintro e w1 ⟨rfl, hb1⟩; have hB1 := below_next (w0 := w) hb1 (by go_grown); obtain ⟨hc1, hf1⟩ := bcell hb1; have hz1 := hb1.size; (repeat rw [World.size_alloc] at hz1); (try (have lt0 : w.heap.size < w1.heap.size := by omega)); (try (have lt1 : w.heap.size + 1 < w1.heap.size := by omega)); (try (have lt2 : w.heap.size + 2 < w1.heap.size := by omega)); (try (have lt4 := Nat.lt_of_lt_of_le lt4 hz1)); (try (have lt4 := Nat.lt_of_lt_of_le lt3 hz1)); (try (have lt3 := Nat.lt_of_succ_le hz1)); have hy1 := hB1.size; clear hb1) | (go_at_call 69; refine (crossS _ _ _ _ _ _ h k l _).mono ?_; rintro e w1 ⟨rfl, hb1⟩; have hB1 := below_next (w0 := w) hb1 (by go_grown); obtain ⟨hc1, hf1⟩ := bcell hb1; have hz1 := hb1.size; (repeat rw [World.size_alloc] at hz1); (try (have lt0 : w.heap.size < w1.heap.size := by omega)); (try (have lt1 : w.heap.size + 1 < w1.heap.size := by omega)); (try (have lt2 : w.heap.size + 2 < w1.heap.size := by omega)); (try (have lt4 := Nat.lt_of_lt_of_le lt4 hz1)); (try (have lt4 := Nat.lt_of_lt_of_le lt3 hz1)); (try (have lt3 := Nat.lt_of_succ_le hz1)); have hy1 := hB1.size; clear hb1) | (go_at_call 73; go_in) | (go_at_call 46; refine (apartS _ _ _ _ k l _).mono ?_; rintro e w1 ⟨rfl, hb1⟩; have hB1 := below_next (w0 := w) hb1 (by go_grown); obtain ⟨hc1, hf1⟩ := bcell hb1; have hz1 := hb1.size; (repeat rw [World.size_alloc] at hz1); (try (have lt0 : w.heap.size < w1.heap.size := by omega)); (try (have lt1 : w.heap.size + 1 < w1.heap.size := by omega)); (try (have lt2 : w.heap.size + 2 < w1.heap.size := by omega)); (try (have lt4 := Nat.lt_of_lt_of_le lt4 hz1)); (try (have lt4 := Nat.lt_of_lt_of_le lt3 hz1)); (try (have lt3 := Nat.lt_of_succ_le hz1)); have hy1 := hB1.size; clear hb1))
  go_ret
  exact ⟨ret_int H.out.symm, by go_grown⟩
theorem gapS3p (a b c d e1 f : Int) (h : okP a b = true) (k : okP c d = true) (l : okP e1 f = true) (q : ¬ dotp a b c d e1 f ≤ 0) (r : ¬ sqd a b c d ≤ dotp a b c d e1 f) (g : 0 < crs a b c d e1 f) (w : World) :
    Calls Try.prog 61 #[.agg #[.int .i64 a, .int .i64 b], .agg #[.int .i64 c, .int .i64 d], .agg #[.int .i64 e1, .int .i64 f]] w fun e w' => e = .returned (.int .i64 (gapV a b c d e1 f)) ∧ Below w.heap.size w w' := by
  have hd := dotp_parts h k l
  rw [Int.mul_comm (e1 - a) (c - a), Int.mul_comm (f - b) (d - b)] at hd
  obtain ⟨⟨p1, p2⟩, p3, p4⟩ := hd
  obtain ⟨x0, x1, x2, x3⟩ := okP_bd h
  obtain ⟨y0, y1, y2, y3⟩ := okP_bd k
  obtain ⟨z0, z1, z2, z3⟩ := okP_bd l
  obtain ⟨s1, s2⟩ := sqd_bd h k
  have D := hide (dotp_comm a b c d e1 f)
  have H := hide (gap_3 q r)
  have q1 : 0 < (c - a) * (e1 - a) + (d - b) * (f - b) := by have := D.out; omega
  have q2 : (c - a) * (e1 - a) + (d - b) * (f - b) < sqd a b c d := by have := D.out; omega
  have hX := crs_sq (c := c) (d := d) h l
  obtain ⟨c1, c2⟩ := crs_bd h k l
  clear q r
  have hX' := hide (show (crs a b c d e1 f) * (crs a b c d e1 f) ≤ 80000000000 * sqd a b c d by exact hX)
  have hE := hide (show (crs a b c d e1 f) * (crs a b c d e1 f) = crs a b c d e1 f * crs a b c d e1 f by rfl)
  clear hX
  go_enter Try.func61, Try.ntmps61
  go_wp2_with (first | (go_at_call 56; refine (squaredS _ _ _ _ h k _).mono ?_; rintro e w1 ⟨rfl, hb1⟩; have hB1 := below_next (w0 := w) hb1 (by go_grown); obtain ⟨hc1, hf1⟩ := bcell hb1; have hz1 := hb1.size; (repeat rw [World.size_alloc] at hz1); (try (have lt0 : w.heap.size < w1.heap.size := by omega)); (try (have lt1 : w.heap.size + 1 < w1.heap.size := by omega)); (try (have lt2 : w.heap.size + 2 < w1.heap.size := by omega)); (try (have lt4 := Nat.lt_of_lt_of_le lt4 hz1)); (try (have lt4 := Nat.lt_of_lt_of_le lt3 hz1)); (try (have lt3 := Nat.lt_of_succ_le hz1)); have hy1 := hB1.size; clear hb1) | (go_at_call 69; refine (crossS _ _ _ _ _ _ h k l _).mono ?_; rintro e w1 ⟨rfl, hb1⟩; have hB1 := below_next (w0 := w) hb1 (by go_grown); obtain ⟨hc1, hf1⟩ := bcell hb1; have hz1 := hb1.size; (repeat rw [World.size_alloc] at hz1); (try (have lt0 : w.heap.size < w1.heap.size := by omega)); (try (have lt1 : w.heap.size + 1 < w1.heap.size := by omega)); (try (have lt2 : w.heap.size + 2 < w1.heap.size := by omega)); (try (have lt4 := Nat.lt_of_lt_of_le lt4 hz1)); (try (have lt4 := Nat.lt_of_lt_of_le lt3 hz1)); (try (have lt3 := Nat.lt_of_succ_le hz1)); have hy1 := hB1.size; clear hb1) | (go_at_call 73; go_in) | (go_at_call 72; refine (farS (crs a b c d e1 f) _ (by omega) (by omega) (by omega) (by omega) hX'.out _).mono ?_; rintro e w' ⟨rfl, rfl⟩))
  go_ret
  exact ⟨ret_int (by rw [H.out]), by go_grown⟩
theorem gapS3n (a b c d e1 f : Int) (h : okP a b = true) (k : okP c d = true) (l : okP e1 f = true) (q : ¬ dotp a b c d e1 f ≤ 0) (r : ¬ sqd a b c d ≤ dotp a b c d e1 f) (g : crs a b c d e1 f ≤ 0) (w : World) :
    Calls Try.prog 61 #[.agg #[.int .i64 a, .int .i64 b], .agg #[.int .i64 c, .int .i64 d], .agg #[.int .i64 e1, .int .i64 f]] w fun e w' => e = .returned (.int .i64 (gapV a b c d e1 f)) ∧ Below w.heap.size w w' := by
  have hd := dotp_parts h k l
  rw [Int.mul_comm (e1 - a) (c - a), Int.mul_comm (f - b) (d - b)] at hd
  obtain ⟨⟨p1, p2⟩, p3, p4⟩ := hd
  obtain ⟨x0, x1, x2, x3⟩ := okP_bd h
  obtain ⟨y0, y1, y2, y3⟩ := okP_bd k
  obtain ⟨z0, z1, z2, z3⟩ := okP_bd l
  obtain ⟨s1, s2⟩ := sqd_bd h k
  have D := hide (dotp_comm a b c d e1 f)
  have H := hide (gap_3 q r)
  have q1 : 0 < (c - a) * (e1 - a) + (d - b) * (f - b) := by have := D.out; omega
  have q2 : (c - a) * (e1 - a) + (d - b) * (f - b) < sqd a b c d := by have := D.out; omega
  have hX := crs_sq (c := c) (d := d) h l
  obtain ⟨c1, c2⟩ := crs_bd h k l
  clear q r
  have hX' := hide (show (-crs a b c d e1 f) * (-crs a b c d e1 f) ≤ 80000000000 * sqd a b c d by rw [Int.neg_mul_neg]; exact hX)
  have hE := hide (show (-crs a b c d e1 f) * (-crs a b c d e1 f) = crs a b c d e1 f * crs a b c d e1 f by rw [Int.neg_mul_neg])
  clear hX
  go_enter Try.func61, Try.ntmps61
  go_wp2_with (first | (go_at_call 56; refine (squaredS _ _ _ _ h k _).mono ?_; rintro e w1 ⟨rfl, hb1⟩; have hB1 := below_next (w0 := w) hb1 (by go_grown); obtain ⟨hc1, hf1⟩ := bcell hb1; have hz1 := hb1.size; (repeat rw [World.size_alloc] at hz1); (try (have lt0 : w.heap.size < w1.heap.size := by omega)); (try (have lt1 : w.heap.size + 1 < w1.heap.size := by omega)); (try (have lt2 : w.heap.size + 2 < w1.heap.size := by omega)); (try (have lt4 := Nat.lt_of_lt_of_le lt4 hz1)); (try (have lt4 := Nat.lt_of_lt_of_le lt3 hz1)); (try (have lt3 := Nat.lt_of_succ_le hz1)); have hy1 := hB1.size; clear hb1) | (go_at_call 69; refine (crossS _ _ _ _ _ _ h k l _).mono ?_; rintro e w1 ⟨rfl, hb1⟩; have hB1 := below_next (w0 := w) hb1 (by go_grown); obtain ⟨hc1, hf1⟩ := bcell hb1; have hz1 := hb1.size; (repeat rw [World.size_alloc] at hz1); (try (have lt0 : w.heap.size < w1.heap.size := by omega)); (try (have lt1 : w.heap.size + 1 < w1.heap.size := by omega)); (try (have lt2 : w.heap.size + 2 < w1.heap.size := by omega)); (try (have lt4 := Nat.lt_of_lt_of_le lt4 hz1)); (try (have lt4 := Nat.lt_of_lt_of_le lt3 hz1)); (try (have lt3 := Nat.lt_of_succ_le hz1)); have hy1 := hB1.size; clear hb1) | (go_at_call 73; go_in) | (go_at_call 72; refine (farS (-crs a b c d e1 f) _ (by omega) (by omega) (by omega) (by omega) hX'.out _).mono ?_; rintro e w' ⟨rfl, rfl⟩))
  go_ret
  exact ⟨ret_int (by rw [H.out, hE.out]), by go_grown⟩
theorem gapS (a b c d e1 f : Int) (h : okP a b = true) (k : okP c d = true) (l : okP e1 f = true) (w : World) :
    Calls Try.prog 61 #[.agg #[.int .i64 a, .int .i64 b], .agg #[.int .i64 c, .int .i64 d], .agg #[.int .i64 e1, .int .i64 f]] w fun e w' => e = .returned (.int .i64 (gapV a b c d e1 f)) ∧ Below w.heap.size w w' := by
  by_cases q : dotp a b c d e1 f ≤ 0
  · exact gapS1 _ _ _ _ _ _ h k l q w
  · by_cases r : sqd a b c d ≤ dotp a b c d e1 f
    · exact gapS2 _ _ _ _ _ _ h k l q r w
    · by_cases g : 0 < crs a b c d e1 f
      · exact gapS3p _ _ _ _ _ _ h k l q r g w
      · exact gapS3n _ _ _ _ _ _ h k l q r (by omega) w
theorem gapI1 (a b c d e1 f : Int) (h : okP a b = true) (k : okP c d = true) (l : okP e1 f = true) (q : dotp a b c d e1 f ≤ 0) (w : World) :
    Calls Try.prog 35 #[.agg #[.int .i64 a, .int .i64 b], .agg #[.int .i64 c, .int .i64 d], .agg #[.int .i64 e1, .int .i64 f]] w fun e w' => e = .returned (.int .i64 (gapV a b c d e1 f)) ∧ Below w.heap.size w w' := by
  have ha : allOk [(a, b), (c, d), (e1, f)] = true := by rw [all3, h, k, l]; rfl
  obtain ⟨⟨p1, p2⟩, p3, p4⟩ := dotp_parts h k l
  obtain ⟨x0, x1, x2, x3⟩ := okP_bd h
  obtain ⟨y0, y1, y2, y3⟩ := okP_bd k
  obtain ⟨z0, z1, z2, z3⟩ := okP_bd l
  obtain ⟨s1, s2⟩ := sqd_bd h k
  have D : Hid (dotp a b c d e1 f = (e1 - a) * (c - a) + (f - b) * (d - b)) := rfl
  have H := hide (gap_1 q)
  have q1 : (e1 - a) * (c - a) + (f - b) * (d - b) ≤ 0 := by have := D.out; omega
  have hV := hide (show distOf a b e1 f = rt (sqd a b e1 f) from if_pos ⟨h, l⟩)
  clear q
  go_enter Try.func35, Try.ntmps35
  go_wp2_with (first | (go_at_call 44; refine (arePointsI _ 0 3 _ [(a, b), (c, d), (e1, f)] rfl (by omega) _ ?hp ?hg).mono ?_; (case hp => exact ptsAt_new3 (by simp)); (case hg => simp); rintro e w1 ⟨rfl, hb1⟩; have hB1 := below_next (w0 := w) hb1 (by go_grown); obtain ⟨hc1, hf1⟩ := bcell hb1; have hz1 := hb1.size; (repeat rw [World.size_alloc] at hz1); (try (have lt0 : w.heap.size < w1.heap.size := by omega)); (try (have lt1 : w.heap.size + 1 < w1.heap.size := by omega)); (try (have lt2 : w.heap.size + 2 < w1.heap.size := by omega)); (try (have lt4 := Nat.lt_of_lt_of_le lt4 hz1)); (try (have lt4 := Nat.lt_of_lt_of_le lt3 hz1)); (try (have lt3 := Nat.lt_of_succ_le hz1)); have hy1 := hB1.size; clear hb1) | (go_at_call 48; refine (squaredI _ _ _ _ h k _).mono ?_; rintro e w1 ⟨rfl, hb1⟩; have hB1 := below_next (w0 := w) hb1 (by go_grown); obtain ⟨hc1, hf1⟩ := bcell hb1; have hz1 := hb1.size; (repeat rw [World.size_alloc] at hz1); (try (have lt0 : w.heap.size < w1.heap.size := by omega)); (try (have lt1 : w.heap.size + 1 < w1.heap.size := by omega)); (try (have lt2 : w.heap.size + 2 < w1.heap.size := by omega)); (try (have lt4 := Nat.lt_of_lt_of_le lt4 hz1)); (try (have lt4 := Nat.lt_of_lt_of_le lt3 hz1)); (try (have lt3 := Nat.lt_of_succ_le hz1)); have hy1 := hB1.size; clear hb1) | (go_at_call 45; refine (crossI _ _ _ _ _ _ h k l _).mono ?_; rintro e w1 ⟨rfl, hb1⟩; have hB1 := below_next (w0 := w) hb1 (by go_grown); obtain ⟨hc1, hf1⟩ := bcell hb1; have hz1 := hb1.size; (repeat rw [World.size_alloc] at hz1); (try (have lt0 : w.heap.size < w1.heap.size := by omega)); (try (have lt1 : w.heap.size + 1 < w1.heap.size := by omega)); (try (have lt2 : w.heap.size + 2 < w1.heap.size := by omega)); (try (have lt4 := Nat.lt_of_lt_of_le lt4 hz1)); (try (have lt4 := Nat.lt_of_lt_of_le lt3 hz1)); (try (have lt3 := Nat.lt_of_succ_le hz1)); have hy1 := hB1.size; clear hb1) | (go_at_call 21; refine (distI _ _ _ _ _).mono ?_; rintro e w1 ⟨rfl, hb1⟩; have hB1 := below_next (w0 := w) hb1 (by go_grown); obtain ⟨hc1, hf1⟩ := bcell hb1; have hz1 := hb1.size; (repeat rw [World.size_alloc] at hz1); (try (have lt0 : w.heap.size < w1.heap.size := by omega)); (try (have lt1 : w.heap.size + 1 < w1.heap.size := by omega)); (try (have lt2 : w.heap.size + 2 < w1.heap.size := by omega)); (try (have lt4 := Nat.lt_of_lt_of_le lt4 hz1)); (try (have lt4 := Nat.lt_of_lt_of_le lt3 hz1)); (try (have lt3 := Nat.lt_of_succ_le hz1)); have hy1 := hB1.size; clear hb1))
  go_ret
  exact ⟨ret_int (by rw [H.out, hV.out]), by go_grown⟩
theorem gapI2 (a b c d e1 f : Int) (h : okP a b = true) (k : okP c d = true) (l : okP e1 f = true) (q : ¬ dotp a b c d e1 f ≤ 0) (r : sqd a b c d ≤ dotp a b c d e1 f) (w : World) :
    Calls Try.prog 35 #[.agg #[.int .i64 a, .int .i64 b], .agg #[.int .i64 c, .int .i64 d], .agg #[.int .i64 e1, .int .i64 f]] w fun e w' => e = .returned (.int .i64 (gapV a b c d e1 f)) ∧ Below w.heap.size w w' := by
  have ha : allOk [(a, b), (c, d), (e1, f)] = true := by rw [all3, h, k, l]; rfl
  obtain ⟨⟨p1, p2⟩, p3, p4⟩ := dotp_parts h k l
  obtain ⟨x0, x1, x2, x3⟩ := okP_bd h
  obtain ⟨y0, y1, y2, y3⟩ := okP_bd k
  obtain ⟨z0, z1, z2, z3⟩ := okP_bd l
  obtain ⟨s1, s2⟩ := sqd_bd h k
  have D : Hid (dotp a b c d e1 f = (e1 - a) * (c - a) + (f - b) * (d - b)) := rfl
  have H := hide (gap_2 q r)
  have q1 : 0 < (e1 - a) * (c - a) + (f - b) * (d - b) := by have := D.out; omega
  have q2 : sqd a b c d ≤ (e1 - a) * (c - a) + (f - b) * (d - b) := by have := D.out; omega
  have hV := hide (show distOf c d e1 f = rt (sqd c d e1 f) from if_pos ⟨k, l⟩)
  clear q
  clear r
  go_enter Try.func35, Try.ntmps35
  go_wp2_with (first | (go_at_call 44; refine (arePointsI _ 0 3 _ [(a, b), (c, d), (e1, f)] rfl (by omega) _ ?hp ?hg).mono ?_; (case hp => exact ptsAt_new3 (by simp)); (case hg => simp); rintro e w1 ⟨rfl, hb1⟩; have hB1 := below_next (w0 := w) hb1 (by go_grown); obtain ⟨hc1, hf1⟩ := bcell hb1; have hz1 := hb1.size; (repeat rw [World.size_alloc] at hz1); (try (have lt0 : w.heap.size < w1.heap.size := by omega)); (try (have lt1 : w.heap.size + 1 < w1.heap.size := by omega)); (try (have lt2 : w.heap.size + 2 < w1.heap.size := by omega)); (try (have lt4 := Nat.lt_of_lt_of_le lt4 hz1)); (try (have lt4 := Nat.lt_of_lt_of_le lt3 hz1)); (try (have lt3 := Nat.lt_of_succ_le hz1)); have hy1 := hB1.size; clear hb1) | (go_at_call 48; refine (squaredI _ _ _ _ h k _).mono ?_; rintro e w1 ⟨rfl, hb1⟩; have hB1 := below_next (w0 := w) hb1 (by go_grown); obtain ⟨hc1, hf1⟩ := bcell hb1; have hz1 := hb1.size; (repeat rw [World.size_alloc] at hz1); (try (have lt0 : w.heap.size < w1.heap.size := by omega)); (try (have lt1 : w.heap.size + 1 < w1.heap.size := by omega)); (try (have lt2 : w.heap.size + 2 < w1.heap.size := by omega)); (try (have lt4 := Nat.lt_of_lt_of_le lt4 hz1)); (try (have lt4 := Nat.lt_of_lt_of_le lt3 hz1)); (try (have lt3 := Nat.lt_of_succ_le hz1)); have hy1 := hB1.size; clear hb1) | (go_at_call 45; refine (crossI _ _ _ _ _ _ h k l _).mono ?_; rintro e w1 ⟨rfl, hb1⟩; have hB1 := below_next (w0 := w) hb1 (by go_grown); obtain ⟨hc1, hf1⟩ := bcell hb1; have hz1 := hb1.size; (repeat rw [World.size_alloc] at hz1); (try (have lt0 : w.heap.size < w1.heap.size := by omega)); (try (have lt1 : w.heap.size + 1 < w1.heap.size := by omega)); (try (have lt2 : w.heap.size + 2 < w1.heap.size := by omega)); (try (have lt4 := Nat.lt_of_lt_of_le lt4 hz1)); (try (have lt4 := Nat.lt_of_lt_of_le lt3 hz1)); (try (have lt3 := Nat.lt_of_succ_le hz1)); have hy1 := hB1.size; clear hb1) | (go_at_call 21; refine (distI _ _ _ _ _).mono ?_; rintro e w1 ⟨rfl, hb1⟩; have hB1 := below_next (w0 := w) hb1 (by go_grown); obtain ⟨hc1, hf1⟩ := bcell hb1; have hz1 := hb1.size; (repeat rw [World.size_alloc] at hz1); (try (have lt0 : w.heap.size < w1.heap.size := by omega)); (try (have lt1 : w.heap.size + 1 < w1.heap.size := by omega)); (try (have lt2 : w.heap.size + 2 < w1.heap.size := by omega)); (try (have lt4 := Nat.lt_of_lt_of_le lt4 hz1)); (try (have lt4 := Nat.lt_of_lt_of_le lt3 hz1)); (try (have lt3 := Nat.lt_of_succ_le hz1)); have hy1 := hB1.size; clear hb1))
  go_ret
  exact ⟨ret_int (by rw [H.out, hV.out]), by go_grown⟩
theorem gapI3p (a b c d e1 f : Int) (h : okP a b = true) (k : okP c d = true) (l : okP e1 f = true) (q : ¬ dotp a b c d e1 f ≤ 0) (r : ¬ sqd a b c d ≤ dotp a b c d e1 f) (g : 0 ≤ crs a b c d e1 f) (w : World) :
    Calls Try.prog 35 #[.agg #[.int .i64 a, .int .i64 b], .agg #[.int .i64 c, .int .i64 d], .agg #[.int .i64 e1, .int .i64 f]] w fun e w' => e = .returned (.int .i64 (gapV a b c d e1 f)) ∧ Below w.heap.size w w' := by
  have ha : allOk [(a, b), (c, d), (e1, f)] = true := by rw [all3, h, k, l]; rfl
  obtain ⟨⟨p1, p2⟩, p3, p4⟩ := dotp_parts h k l
  obtain ⟨x0, x1, x2, x3⟩ := okP_bd h
  obtain ⟨y0, y1, y2, y3⟩ := okP_bd k
  obtain ⟨z0, z1, z2, z3⟩ := okP_bd l
  obtain ⟨s1, s2⟩ := sqd_bd h k
  have D : Hid (dotp a b c d e1 f = (e1 - a) * (c - a) + (f - b) * (d - b)) := rfl
  have H := hide (gap_3 q r)
  have q1 : 0 < (e1 - a) * (c - a) + (f - b) * (d - b) := by have := D.out; omega
  have q2 : (e1 - a) * (c - a) + (f - b) * (d - b) < sqd a b c d := by have := D.out; omega
  have hX := crs_sq (c := c) (d := d) h l
  obtain ⟨c1, c2⟩ := crs_bd h k l
  clear q r
  have hX' := hide (show (crs a b c d e1 f) * (crs a b c d e1 f) ≤ 80000000000 * sqd a b c d by exact hX)
  have hE := hide (show (crs a b c d e1 f) * (crs a b c d e1 f) = crs a b c d e1 f * crs a b c d e1 f by rfl)
  have hst := hide (segIn_start (X := (crs a b c d e1 f) * (crs a b c d e1 f)) (L := sqd a b c d) (K := 400000) (sq_nonneg' _) hX'.out (by omega) (by decide))
  clear hX
  go_enter Try.func35, Try.ntmps35
  go_wp2_with (first | (go_at_call 44; refine (arePointsI _ 0 3 _ [(a, b), (c, d), (e1, f)] rfl (by omega) _ ?hp ?hg).mono ?_; (case hp => exact ptsAt_new3 (by simp)); (case hg => simp); rintro e w1 ⟨rfl, hb1⟩; have hB1 := below_next (w0 := w) hb1 (by go_grown); obtain ⟨hc1, hf1⟩ := bcell hb1; have hz1 := hb1.size; (repeat rw [World.size_alloc] at hz1); (try (have lt0 : w.heap.size < w1.heap.size := by omega)); (try (have lt1 : w.heap.size + 1 < w1.heap.size := by omega)); (try (have lt2 : w.heap.size + 2 < w1.heap.size := by omega)); (try (have lt4 := Nat.lt_of_lt_of_le lt4 hz1)); (try (have lt4 := Nat.lt_of_lt_of_le lt3 hz1)); (try (have lt3 := Nat.lt_of_succ_le hz1)); have hy1 := hB1.size; clear hb1) | (go_at_call 48; refine (squaredI _ _ _ _ h k _).mono ?_; rintro e w1 ⟨rfl, hb1⟩; have hB1 := below_next (w0 := w) hb1 (by go_grown); obtain ⟨hc1, hf1⟩ := bcell hb1; have hz1 := hb1.size; (repeat rw [World.size_alloc] at hz1); (try (have lt0 : w.heap.size < w1.heap.size := by omega)); (try (have lt1 : w.heap.size + 1 < w1.heap.size := by omega)); (try (have lt2 : w.heap.size + 2 < w1.heap.size := by omega)); (try (have lt4 := Nat.lt_of_lt_of_le lt4 hz1)); (try (have lt4 := Nat.lt_of_lt_of_le lt3 hz1)); (try (have lt3 := Nat.lt_of_succ_le hz1)); have hy1 := hB1.size; clear hb1) | (go_at_call 45; refine (crossI _ _ _ _ _ _ h k l _).mono ?_; rintro e w1 ⟨rfl, hb1⟩; have hB1 := below_next (w0 := w) hb1 (by go_grown); obtain ⟨hc1, hf1⟩ := bcell hb1; have hz1 := hb1.size; (repeat rw [World.size_alloc] at hz1); (try (have lt0 : w.heap.size < w1.heap.size := by omega)); (try (have lt1 : w.heap.size + 1 < w1.heap.size := by omega)); (try (have lt2 : w.heap.size + 2 < w1.heap.size := by omega)); (try (have lt4 := Nat.lt_of_lt_of_le lt4 hz1)); (try (have lt4 := Nat.lt_of_lt_of_le lt3 hz1)); (try (have lt3 := Nat.lt_of_succ_le hz1)); have hy1 := hB1.size; clear hb1))
  go_loop [10, 11] (fun lo hi => ∃ r s : Int, 0 ≤ r ∧ r ≤ s ∧ s ≤ 400000 ∧ Hid (SegIn ((crs a b c d e1 f) * (crs a b c d e1 f)) (sqd a b c d) r s) ∧ lo = .int .i64 r ∧ hi = .int .i64 s) (fun lo hi => (intOf hi - intOf lo).toNat)
  case atStart => exact ⟨0, 400000, by omega, by omega, by omega, hst, rfl, rfl⟩
  case round =>
    obtain ⟨r, s, hr1, hrs, hs1, hin, rfl, rfl⟩ := hrel
    by_cases hlt : r < s
    · obtain ⟨hm1, hm2, hm3, hm4⟩ := mid_seg hr1 hlt hs1
      cases hle : leB ((r + s + 1) / 2 * ((r + s + 1) / 2) * sqd a b c d) ((crs a b c d e1 f) * (crs a b c d e1 f))
      · have hn := hide (of_decide_eq_false hle)
        go_wp2_with (go_at_call 62; refine (atMostI _ _ _ _ (by omega) (by omega) (by omega) (by omega) (by omega) (by omega) (by omega) (by omega) _).mono ?_; rintro e w' ⟨rfl, rfl⟩)
        go_round
        case rel => exact ⟨_, _, by omega, by omega, by omega, hide (hin.out.down (by have := hn.out; omega)), rfl, rfl⟩
        case measure => simp [intOf]; omega
      · have hn := hide (of_decide_eq_true hle)
        go_wp2_with (go_at_call 62; refine (atMostI _ _ _ _ (by omega) (by omega) (by omega) (by omega) (by omega) (by omega) (by omega) (by omega) _).mono ?_; rintro e w' ⟨rfl, rfl⟩)
        go_round
        case rel => exact ⟨_, _, by omega, by omega, by omega, hide (hin.out.up hn.out), rfl, rfl⟩
        case measure => simp [intOf]; omega
    · obtain rfl : r = s := by omega
      go_wp2
      go_ret
      exact ⟨ret_int (by rw [H.out]; exact hin.out.done (by omega) hr1), by go_grown⟩
theorem gapI3n (a b c d e1 f : Int) (h : okP a b = true) (k : okP c d = true) (l : okP e1 f = true) (q : ¬ dotp a b c d e1 f ≤ 0) (r : ¬ sqd a b c d ≤ dotp a b c d e1 f) (g : crs a b c d e1 f < 0) (w : World) :
    Calls Try.prog 35 #[.agg #[.int .i64 a, .int .i64 b], .agg #[.int .i64 c, .int .i64 d], .agg #[.int .i64 e1, .int .i64 f]] w fun e w' => e = .returned (.int .i64 (gapV a b c d e1 f)) ∧ Below w.heap.size w w' := by
  have ha : allOk [(a, b), (c, d), (e1, f)] = true := by rw [all3, h, k, l]; rfl
  obtain ⟨⟨p1, p2⟩, p3, p4⟩ := dotp_parts h k l
  obtain ⟨x0, x1, x2, x3⟩ := okP_bd h
  obtain ⟨y0, y1, y2, y3⟩ := okP_bd k
  obtain ⟨z0, z1, z2, z3⟩ := okP_bd l
  obtain ⟨s1, s2⟩ := sqd_bd h k
  have D : Hid (dotp a b c d e1 f = (e1 - a) * (c - a) + (f - b) * (d - b)) := rfl
  have H := hide (gap_3 q r)
  have q1 : 0 < (e1 - a) * (c - a) + (f - b) * (d - b) := by have := D.out; omega
  have q2 : (e1 - a) * (c - a) + (f - b) * (d - b) < sqd a b c d := by have := D.out; omega
  have hX := crs_sq (c := c) (d := d) h l
  obtain ⟨c1, c2⟩ := crs_bd h k l
  clear q r
  have hX' := hide (show (-crs a b c d e1 f) * (-crs a b c d e1 f) ≤ 80000000000 * sqd a b c d by rw [Int.neg_mul_neg]; exact hX)
  have hE := hide (show (-crs a b c d e1 f) * (-crs a b c d e1 f) = crs a b c d e1 f * crs a b c d e1 f by rw [Int.neg_mul_neg])
  have hst := hide (segIn_start (X := (-crs a b c d e1 f) * (-crs a b c d e1 f)) (L := sqd a b c d) (K := 400000) (sq_nonneg' _) hX'.out (by omega) (by decide))
  clear hX
  go_enter Try.func35, Try.ntmps35
  go_wp2_with (first | (go_at_call 44; refine (arePointsI _ 0 3 _ [(a, b), (c, d), (e1, f)] rfl (by omega) _ ?hp ?hg).mono ?_; (case hp => exact ptsAt_new3 (by simp)); (case hg => simp); rintro e w1 ⟨rfl, hb1⟩; have hB1 := below_next (w0 := w) hb1 (by go_grown); obtain ⟨hc1, hf1⟩ := bcell hb1; have hz1 := hb1.size; (repeat rw [World.size_alloc] at hz1); (try (have lt0 : w.heap.size < w1.heap.size := by omega)); (try (have lt1 : w.heap.size + 1 < w1.heap.size := by omega)); (try (have lt2 : w.heap.size + 2 < w1.heap.size := by omega)); (try (have lt4 := Nat.lt_of_lt_of_le lt4 hz1)); (try (have lt4 := Nat.lt_of_lt_of_le lt3 hz1)); (try (have lt3 := Nat.lt_of_succ_le hz1)); have hy1 := hB1.size; clear hb1) | (go_at_call 48; refine (squaredI _ _ _ _ h k _).mono ?_; rintro e w1 ⟨rfl, hb1⟩; have hB1 := below_next (w0 := w) hb1 (by go_grown); obtain ⟨hc1, hf1⟩ := bcell hb1; have hz1 := hb1.size; (repeat rw [World.size_alloc] at hz1); (try (have lt0 : w.heap.size < w1.heap.size := by omega)); (try (have lt1 : w.heap.size + 1 < w1.heap.size := by omega)); (try (have lt2 : w.heap.size + 2 < w1.heap.size := by omega)); (try (have lt4 := Nat.lt_of_lt_of_le lt4 hz1)); (try (have lt4 := Nat.lt_of_lt_of_le lt3 hz1)); (try (have lt3 := Nat.lt_of_succ_le hz1)); have hy1 := hB1.size; clear hb1) | (go_at_call 45; refine (crossI _ _ _ _ _ _ h k l _).mono ?_; rintro e w1 ⟨rfl, hb1⟩; have hB1 := below_next (w0 := w) hb1 (by go_grown); obtain ⟨hc1, hf1⟩ := bcell hb1; have hz1 := hb1.size; (repeat rw [World.size_alloc] at hz1); (try (have lt0 : w.heap.size < w1.heap.size := by omega)); (try (have lt1 : w.heap.size + 1 < w1.heap.size := by omega)); (try (have lt2 : w.heap.size + 2 < w1.heap.size := by omega)); (try (have lt4 := Nat.lt_of_lt_of_le lt4 hz1)); (try (have lt4 := Nat.lt_of_lt_of_le lt3 hz1)); (try (have lt3 := Nat.lt_of_succ_le hz1)); have hy1 := hB1.size; clear hb1))
  go_loop [10, 11] (fun lo hi => ∃ r s : Int, 0 ≤ r ∧ r ≤ s ∧ s ≤ 400000 ∧ Hid (SegIn ((-crs a b c d e1 f) * (-crs a b c d e1 f)) (sqd a b c d) r s) ∧ lo = .int .i64 r ∧ hi = .int .i64 s) (fun lo hi => (intOf hi - intOf lo).toNat)
  case atStart => exact ⟨0, 400000, by omega, by omega, by omega, hst, rfl, rfl⟩
  case round =>
    obtain ⟨r, s, hr1, hrs, hs1, hin, rfl, rfl⟩ := hrel
    by_cases hlt : r < s
    · obtain ⟨hm1, hm2, hm3, hm4⟩ := mid_seg hr1 hlt hs1
      cases hle : leB ((r + s + 1) / 2 * ((r + s + 1) / 2) * sqd a b c d) ((-crs a b c d e1 f) * (-crs a b c d e1 f))
      · have hn := hide (of_decide_eq_false hle)
        go_wp2_with (go_at_call 62; refine (atMostI _ _ _ _ (by omega) (by omega) (by omega) (by omega) (by omega) (by omega) (by omega) (by omega) _).mono ?_; rintro e w' ⟨rfl, rfl⟩)
        go_round
        case rel => exact ⟨_, _, by omega, by omega, by omega, hide (hin.out.down (by have := hn.out; omega)), rfl, rfl⟩
        case measure => simp [intOf]; omega
      · have hn := hide (of_decide_eq_true hle)
        go_wp2_with (go_at_call 62; refine (atMostI _ _ _ _ (by omega) (by omega) (by omega) (by omega) (by omega) (by omega) (by omega) (by omega) _).mono ?_; rintro e w' ⟨rfl, rfl⟩)
        go_round
        case rel => exact ⟨_, _, by omega, by omega, by omega, hide (hin.out.up hn.out), rfl, rfl⟩
        case measure => simp [intOf]; omega
    · obtain rfl : r = s := by omega
      go_wp2
      go_ret
      exact ⟨ret_int (by rw [H.out, ← hE.out]; exact hin.out.done (by omega) hr1), by go_grown⟩
theorem gapI (a b c d e1 f : Int) (h : okP a b = true) (k : okP c d = true) (l : okP e1 f = true) (w : World) :
    Calls Try.prog 35 #[.agg #[.int .i64 a, .int .i64 b], .agg #[.int .i64 c, .int .i64 d], .agg #[.int .i64 e1, .int .i64 f]] w fun e w' => e = .returned (.int .i64 (gapV a b c d e1 f)) ∧ Below w.heap.size w w' := by
  by_cases q : dotp a b c d e1 f ≤ 0
  · exact gapI1 _ _ _ _ _ _ h k l q w
  · by_cases r : sqd a b c d ≤ dotp a b c d e1 f
    · exact gapI2 _ _ _ _ _ _ h k l q r w
    · by_cases g : 0 ≤ crs a b c d e1 f
      · exact gapI3p _ _ _ _ _ _ h k l q r g w
      · exact gapI3n _ _ _ _ _ _ h k l q r (by omega) w
noncomputable def segOf (a b c d e1 f : Int) : Int := if okP a b = true ∧ okP c d = true ∧ okP e1 f = true then gapV a b c d e1 f else 0
theorem segS (a b c d e1 f : Int) (w : World) :
    Calls Try.prog 34 #[.agg #[.int .i64 a, .int .i64 b], .agg #[.int .i64 c, .int .i64 d], .agg #[.int .i64 e1, .int .i64 f]] w fun e w' => e = .returned (.int .i64 (segOf a b c d e1 f)) ∧ Below w.heap.size w w' := by
  cases k0 : okP a b
  · have H := hide (show segOf a b c d e1 f = 0 from if_neg (fun h => by have h' := h.1; rw [k0] at h'; cases h'))
    go_enter Try.func34, Try.ntmps34
    go_wp2_with (first | (go_at_call 42; refine (okS _ _ _).mono ?_; rintro e w1 ⟨rfl, hb1⟩; have hB1 := below_next (w0 := w) hb1 (by go_grown); obtain ⟨hc1, hf1⟩ := bcell hb1; have hz1 := hb1.size; (repeat rw [World.size_alloc] at hz1); (try (have lt0 : w.heap.size < w1.heap.size := by omega)); (try (have lt1 : w.heap.size + 1 < w1.heap.size := by omega)); (try (have lt2 : w.heap.size + 2 < w1.heap.size := by omega)); (try (have lt4 := Nat.lt_of_lt_of_le lt4 hz1)); (try (have lt4 := Nat.lt_of_lt_of_le lt3 hz1)); (try (have lt3 := Nat.lt_of_succ_le hz1)); have hy1 := hB1.size; clear hb1))
    go_ret
    exact ⟨ret_int H.out.symm, by go_grown⟩
  · cases k1 : okP c d
    · have H := hide (show segOf a b c d e1 f = 0 from if_neg (fun h => by have h' := h.2.1; rw [k1] at h'; cases h'))
      go_enter Try.func34, Try.ntmps34
      go_wp2_with (first | (go_at_call 42; refine (okS _ _ _).mono ?_; rintro e w1 ⟨rfl, hb1⟩; have hB1 := below_next (w0 := w) hb1 (by go_grown); obtain ⟨hc1, hf1⟩ := bcell hb1; have hz1 := hb1.size; (repeat rw [World.size_alloc] at hz1); (try (have lt0 : w.heap.size < w1.heap.size := by omega)); (try (have lt1 : w.heap.size + 1 < w1.heap.size := by omega)); (try (have lt2 : w.heap.size + 2 < w1.heap.size := by omega)); (try (have lt4 := Nat.lt_of_lt_of_le lt4 hz1)); (try (have lt4 := Nat.lt_of_lt_of_le lt3 hz1)); (try (have lt3 := Nat.lt_of_succ_le hz1)); have hy1 := hB1.size; clear hb1))
      go_ret
      exact ⟨ret_int H.out.symm, by go_grown⟩
    · cases k2 : okP e1 f
      · have H := hide (show segOf a b c d e1 f = 0 from if_neg (fun h => by have h' := h.2.2; rw [k2] at h'; cases h'))
        go_enter Try.func34, Try.ntmps34
        go_wp2_with (first | (go_at_call 42; refine (okS _ _ _).mono ?_; rintro e w1 ⟨rfl, hb1⟩; have hB1 := below_next (w0 := w) hb1 (by go_grown); obtain ⟨hc1, hf1⟩ := bcell hb1; have hz1 := hb1.size; (repeat rw [World.size_alloc] at hz1); (try (have lt0 : w.heap.size < w1.heap.size := by omega)); (try (have lt1 : w.heap.size + 1 < w1.heap.size := by omega)); (try (have lt2 : w.heap.size + 2 < w1.heap.size := by omega)); (try (have lt4 := Nat.lt_of_lt_of_le lt4 hz1)); (try (have lt4 := Nat.lt_of_lt_of_le lt3 hz1)); (try (have lt3 := Nat.lt_of_succ_le hz1)); have hy1 := hB1.size; clear hb1))
        go_ret
        exact ⟨ret_int H.out.symm, by go_grown⟩
      · have H := hide (show segOf a b c d e1 f = gapV a b c d e1 f from if_pos ⟨k0, k1, k2⟩)
        go_enter Try.func34, Try.ntmps34
        go_wp2_with (first | (go_at_call 42; refine (okS _ _ _).mono ?_; rintro e w1 ⟨rfl, hb1⟩; have hB1 := below_next (w0 := w) hb1 (by go_grown); obtain ⟨hc1, hf1⟩ := bcell hb1; have hz1 := hb1.size; (repeat rw [World.size_alloc] at hz1); (try (have lt0 : w.heap.size < w1.heap.size := by omega)); (try (have lt1 : w.heap.size + 1 < w1.heap.size := by omega)); (try (have lt2 : w.heap.size + 2 < w1.heap.size := by omega)); (try (have lt4 := Nat.lt_of_lt_of_le lt4 hz1)); (try (have lt4 := Nat.lt_of_lt_of_le lt3 hz1)); (try (have lt3 := Nat.lt_of_succ_le hz1)); have hy1 := hB1.size; clear hb1) | (go_at_call 61; refine (gapS _ _ _ _ _ _ k0 k1 k2 _).mono ?_; rintro e w1 ⟨rfl, hb1⟩; have hB1 := below_next (w0 := w) hb1 (by go_grown); obtain ⟨hc1, hf1⟩ := bcell hb1; have hz1 := hb1.size; (repeat rw [World.size_alloc] at hz1); (try (have lt0 : w.heap.size < w1.heap.size := by omega)); (try (have lt1 : w.heap.size + 1 < w1.heap.size := by omega)); (try (have lt2 : w.heap.size + 2 < w1.heap.size := by omega)); (try (have lt4 := Nat.lt_of_lt_of_le lt4 hz1)); (try (have lt4 := Nat.lt_of_lt_of_le lt3 hz1)); (try (have lt3 := Nat.lt_of_succ_le hz1)); have hy1 := hB1.size; clear hb1))
        all_goals
          go_ret
          exact ⟨ret_int (by first | exact H.out.symm | (rw [H.out]; unfold sgn; (repeat' split) <;> omega)), by go_grown⟩
theorem segI (a b c d e1 f : Int) (w : World) :
    Calls Try.prog 35 #[.agg #[.int .i64 a, .int .i64 b], .agg #[.int .i64 c, .int .i64 d], .agg #[.int .i64 e1, .int .i64 f]] w fun e w' => e = .returned (.int .i64 (segOf a b c d e1 f)) ∧ Below w.heap.size w w' := by
  cases k0 : okP a b
  · have H := hide (show segOf a b c d e1 f = 0 from if_neg (fun h => by have h' := h.1; rw [k0] at h'; cases h'))
    have ha : allOk [(a, b), (c, d), (e1, f)] = false := by rw [all3, k0]; rfl
    clear k0
    go_enter Try.func35, Try.ntmps35
    go_wp2_with (first | (go_at_call 44; refine (arePointsI _ 0 3 _ [(a, b), (c, d), (e1, f)] rfl (by omega) _ ?hp ?hg).mono ?_; (case hp => exact ptsAt_new3 (by simp)); (case hg => simp); rintro e w1 ⟨rfl, hb1⟩; have hB1 := below_next (w0 := w) hb1 (by go_grown); obtain ⟨hc1, hf1⟩ := bcell hb1; have hz1 := hb1.size; (repeat rw [World.size_alloc] at hz1); (try (have lt0 : w.heap.size < w1.heap.size := by omega)); (try (have lt1 : w.heap.size + 1 < w1.heap.size := by omega)); (try (have lt2 : w.heap.size + 2 < w1.heap.size := by omega)); (try (have lt4 := Nat.lt_of_lt_of_le lt4 hz1)); (try (have lt4 := Nat.lt_of_lt_of_le lt3 hz1)); (try (have lt3 := Nat.lt_of_succ_le hz1)); have hy1 := hB1.size; clear hb1))
    go_ret
    exact ⟨ret_int H.out.symm, by go_grown⟩
  · cases k1 : okP c d
    · have H := hide (show segOf a b c d e1 f = 0 from if_neg (fun h => by have h' := h.2.1; rw [k1] at h'; cases h'))
      have ha : allOk [(a, b), (c, d), (e1, f)] = false := by rw [all3, k0, k1]; rfl
      clear k0 k1
      go_enter Try.func35, Try.ntmps35
      go_wp2_with (first | (go_at_call 44; refine (arePointsI _ 0 3 _ [(a, b), (c, d), (e1, f)] rfl (by omega) _ ?hp ?hg).mono ?_; (case hp => exact ptsAt_new3 (by simp)); (case hg => simp); rintro e w1 ⟨rfl, hb1⟩; have hB1 := below_next (w0 := w) hb1 (by go_grown); obtain ⟨hc1, hf1⟩ := bcell hb1; have hz1 := hb1.size; (repeat rw [World.size_alloc] at hz1); (try (have lt0 : w.heap.size < w1.heap.size := by omega)); (try (have lt1 : w.heap.size + 1 < w1.heap.size := by omega)); (try (have lt2 : w.heap.size + 2 < w1.heap.size := by omega)); (try (have lt4 := Nat.lt_of_lt_of_le lt4 hz1)); (try (have lt4 := Nat.lt_of_lt_of_le lt3 hz1)); (try (have lt3 := Nat.lt_of_succ_le hz1)); have hy1 := hB1.size; clear hb1))
      go_ret
      exact ⟨ret_int H.out.symm, by go_grown⟩
    · cases k2 : okP e1 f
      · have H := hide (show segOf a b c d e1 f = 0 from if_neg (fun h => by have h' := h.2.2; rw [k2] at h'; cases h'))
        have ha : allOk [(a, b), (c, d), (e1, f)] = false := by rw [all3, k0, k1, k2]; rfl
        clear k0 k1 k2
        go_enter Try.func35, Try.ntmps35
        go_wp2_with (first | (go_at_call 44; refine (arePointsI _ 0 3 _ [(a, b), (c, d), (e1, f)] rfl (by omega) _ ?hp ?hg).mono ?_; (case hp => exact ptsAt_new3 (by simp)); (case hg => simp); rintro e w1 ⟨rfl, hb1⟩; have hB1 := below_next (w0 := w) hb1 (by go_grown); obtain ⟨hc1, hf1⟩ := bcell hb1; have hz1 := hb1.size; (repeat rw [World.size_alloc] at hz1); (try (have lt0 : w.heap.size < w1.heap.size := by omega)); (try (have lt1 : w.heap.size + 1 < w1.heap.size := by omega)); (try (have lt2 : w.heap.size + 2 < w1.heap.size := by omega)); (try (have lt4 := Nat.lt_of_lt_of_le lt4 hz1)); (try (have lt4 := Nat.lt_of_lt_of_le lt3 hz1)); (try (have lt3 := Nat.lt_of_succ_le hz1)); have hy1 := hB1.size; clear hb1))
        go_ret
        exact ⟨ret_int H.out.symm, by go_grown⟩
      · have H : segOf a b c d e1 f = gapV a b c d e1 f := if_pos ⟨k0, k1, k2⟩
        rw [H]
        exact gapI a b c d e1 f k0 k1 k2 w
theorem fnExactDistanceToSegment_walk (a b : Int) (_ : -9223372036854775808 ≤ a) (_ : a ≤ 9223372036854775807) (_ : -9223372036854775808 ≤ b) (_ : b ≤ 9223372036854775807) (c d : Int) (_ : -9223372036854775808 ≤ c) (_ : c ≤ 9223372036854775807) (_ : -9223372036854775808 ≤ d) (_ : d ≤ 9223372036854775807) (e1 f : Int) (_ : -9223372036854775808 ≤ e1) (_ : e1 ≤ 9223372036854775807) (_ : -9223372036854775808 ≤ f) (_ : f ≤ 9223372036854775807) (w : World) :
    Calls Try.prog 11 #[.agg #[.int .i64 a, .int .i64 b], .agg #[.int .i64 c, .int .i64 d], .agg #[.int .i64 e1, .int .i64 f]] w fun e w' => e = .returned (.bool true) ∧ Below w.heap.size w w' := by
  go_enter Try.func11, Try.ntmps11
  go_wp2_with fail
  go_region_held3 (fun w' => Below w.heap.size w w' ∧ w.heap.size + 1 + 1 < w'.heap.size ∧ w'.cell? ⟨w.heap.size, 0, none⟩ = some (.int .i64 a) ∧ w'.cell? ⟨w.heap.size, 1, none⟩ = some (.int .i64 b) ∧ w'.cell? ⟨w.heap.size + 1, 0, none⟩ = some (.int .i64 c) ∧ w'.cell? ⟨w.heap.size + 1, 1, none⟩ = some (.int .i64 d) ∧ w'.cell? ⟨w.heap.size + 1 + 1, 0, none⟩ = some (.int .i64 e1) ∧ w'.cell? ⟨w.heap.size + 1 + 1, 1, none⟩ = some (.int .i64 f)) (first | exact heldD3 (by assumption) | exact held3 (by assumption) (by assumption) | (refine ⟨?_, ?_, ?_, ?_, ?_, ?_, ?_, ?_⟩ <;> first | (go_simp; done) | (simp; done) | (go_grown; done)) | go_keep) (first | (go_at_call 18; refine (toPt _ _ _).mono ?_; rintro e w1 ⟨rfl, hb1⟩) | (go_at_call 34; refine (segS _ _ _ _ _ _ _).mono ?_; rintro e w1 ⟨rfl, hb1⟩))
  go_wp2_with fail
  go_region_held3 (fun w' => Below w.heap.size w w' ∧ w.heap.size + 1 + 1 < w'.heap.size ∧ w'.cell? ⟨w.heap.size, 0, none⟩ = some (.int .i64 a) ∧ w'.cell? ⟨w.heap.size, 1, none⟩ = some (.int .i64 b) ∧ w'.cell? ⟨w.heap.size + 1, 0, none⟩ = some (.int .i64 c) ∧ w'.cell? ⟨w.heap.size + 1, 1, none⟩ = some (.int .i64 d) ∧ w'.cell? ⟨w.heap.size + 1 + 1, 0, none⟩ = some (.int .i64 e1) ∧ w'.cell? ⟨w.heap.size + 1 + 1, 1, none⟩ = some (.int .i64 f)) (first | exact heldD3 (by assumption) | exact held3 (by assumption) (by assumption) | (refine ⟨?_, ?_, ?_, ?_, ?_, ?_, ?_, ?_⟩ <;> first | (go_simp; done) | (simp; done) | (go_grown; done)) | go_keep) (first | (go_at_call 18; refine (toPt _ _ _).mono ?_; rintro e w1 ⟨rfl, hb1⟩) | (go_at_call 35; refine (segI _ _ _ _ _ _ _).mono ?_; rintro e w1 ⟨rfl, hb1⟩))
  go_wp2
  all_goals
    go_ret
    exact ⟨rfl, And.left (by assumption)⟩
end Go.Proofs.Ytnmihmjgmanllaa
