--%!
/- Contracts of the sines of tenths of a degree, reference and program alike. -/
import Derived.Test.YtnpoemhpfaiooaaTrig
namespace Go.Proofs.Ytnpoemhpfaiooaa
open Go.ChangeShapes Go.WideShapes Go.ChangeAt Go.RowKit
set_option linter.unusedVariables false
set_option maxRecDepth 100000
set_option maxHeartbeats 1000000

def tenths (t : Int) : Int := sine (t / 10) + dr ((sine (t / 10 + 1) - sine (t / 10)) * (t % 10)) 10
theorem tdiv_tmod (t m : Int) (hm : 0 < m) : m * t.tdiv m + t.tmod m = t := Int.mul_tdiv_add_tmod t m
theorem td_cases (t : Int) : (t.tmod 10 = t % 10 ∧ t.tdiv 10 = t / 10) ∨ (t.tmod 10 = t % 10 - 10 ∧ t.tdiv 10 = t / 10 + 1 ∧ t % 10 ≠ 0) := by
  have h := tdiv_tmod t 10 (by decide)
  have hb := tmod_bd t 10 (by decide)
  rcases tmod_cases t 10 (by decide) with e | e
  · left; omega
  · right; omega
theorem step_bd {a b r R : Int} (ha : -1000000 ≤ a ∧ a ≤ 1000000) (hb : -1000000 ≤ b ∧ b ≤ 1000000) (hr : 0 ≤ r) (hR : r ≤ R) (hR1 : 1 ≤ R) :
    (-(2000000 * R) ≤ (b - a) * r ∧ (b - a) * r ≤ 2000000 * R) := mul_bd (a := b - a) (b := r) (A := 2000000) (B := R) (by omega) (by omega) (by omega) hr hR
theorem tenths_bd0 (t : Int) : (-18000000 ≤ (sine (t / 10 + 1) - sine (t / 10)) * (t % 10) ∧ (sine (t / 10 + 1) - sine (t / 10)) * (t % 10) ≤ 18000000) ∧
    -2000000 ≤ dr ((sine (t / 10 + 1) - sine (t / 10)) * (t % 10)) 10 ∧ dr ((sine (t / 10 + 1) - sine (t / 10)) * (t % 10)) 10 ≤ 2000000 := by
  have e := step_bd (r := t % 10) (R := 9) (sine_bd (t / 10)) (sine_bd (t / 10 + 1)) (by omega) (by omega) (by omega)
  exact ⟨by omega, dr_bd _ _ _ (by omega) (by omega) (by omega)⟩
theorem tenths_bd (t : Int) : -3000000 ≤ tenths t ∧ tenths t ≤ 3000000 := by
  have := tenths_bd0 t
  have := sine_bd (t / 10)
  unfold tenths; omega
theorem tdiv_exact (a b : Int) (hb : 1 ≤ b) : (a - a % b).tdiv b = a / b ∧ (a - a % b) / b = a / b := by
  have e : a - a % b = b * (a / b) := by have := Int.mul_ediv_add_emod a b; omega
  rw [e]
  exact ⟨Int.mul_tdiv_cancel_left _ (by omega), Int.mul_ediv_cancel_left _ (by omega)⟩
theorem floorI (a b : Int) (h0 : -1000000000000 ≤ a) (h1 : a ≤ 1000000000000) (h2 : 1 ≤ b) (h3 : b ≤ 1000000) (w : World) :
    Calls Try.prog 58 #[.int .i64 a, .int .i64 b] w fun e w' => e = .returned (.tuple #[.int .i64 (a / b), .int .i64 (a % b)]) ∧ w = w' := by
  obtain ⟨hb1, hb2⟩ := tmod_bd a b (by omega)
  have m1 := Int.emod_nonneg a (show b ≠ 0 by omega)
  have m2 := Int.emod_lt_of_pos a (show 0 < b by omega)
  have e1 := norm_mod a b (by omega)
  obtain ⟨e2, e3⟩ := tdiv_exact a b h2
  have q : -1000000000000 ≤ a / b ∧ a / b ≤ 1000000000000 := ⟨Int.le_ediv_of_mul_le (by omega) (by have := Int.mul_le_mul_of_nonneg_left h2 (show (0 : Int) ≤ 1000000000000 by omega); omega), by
    by_cases h : 0 ≤ a
    · have := Int.ediv_le_self b h; omega
    · have := Int.ediv_neg_of_neg_of_pos (show a < 0 by omega) (show 0 < b by omega); omega⟩
  obtain ⟨q1, q2⟩ := q
  go_enter Try.func58, Try.ntmps58
  go_wp2
  go_ret2
  exact ⟨congrArg (fun z => Ending.returned (.tuple #[.int .i64 (a / b), .int .i64 z])) e1, rfl⟩
theorem tenI (t : Int) (h0 : -36000 ≤ t) (h1 : t ≤ 36000) (w : World) :
    Calls Try.prog 56 #[.int .i64 t] w fun e w' => e = .returned (.int .i64 (tenths t)) ∧ w = w' := by
  have hin := inB_true h0 h1
  obtain ⟨⟨b1, b2⟩, b3, b4⟩ := tenths_bd0 t
  obtain ⟨s1, s2⟩ := sine_bd (t / 10)
  obtain ⟨s3, s4⟩ := sine_bd (t / 10 + 1)
  go_enter Try.func56, Try.ntmps56
  go_wp2_with (first | (go_at_call 49; refine (inI _ _ _ _).mono ?_; rintro e w' ⟨rfl, rfl⟩) | (go_at_call 58; refine (floorI _ _ (by omega) (by omega) (by omega) (by omega) _).mono ?_; rintro e w' ⟨rfl, rfl⟩) | (go_at_call 57; refine (sineI _ (by omega) (by omega) _).mono ?_; rintro e w' ⟨rfl, rfl⟩) | (go_at_call 50; refine (divI _ _ (by omega) (by omega) (by omega) (by omega) (by omega) _).mono ?_; rintro e w' ⟨rfl, rfl⟩))
  go_ret
  exact ⟨rfl, rfl⟩
theorem tenI_no (t : Int) (h : inB t (-36000) 36000 = false) (w : World) :
    Calls Try.prog 56 #[.int .i64 t] w fun e w' => e = .returned (.int .i64 0) ∧ w = w' := by
  go_enter Try.func56, Try.ntmps56
  go_wp2_with (go_at_call 49; refine (inI _ _ _ _).mono ?_; rintro e w' ⟨rfl, rfl⟩)
  go_ret
  exact ⟨rfl, rfl⟩
theorem tenS (t : Int) (h0 : -36000 ≤ t) (h1 : t ≤ 36000) (w : World) :
    Calls Try.prog 54 #[.int .i64 t] w fun e w' => e = .returned (.int .i64 (tenths t)) ∧ Below w.heap.size w w' := by
  obtain ⟨⟨b1, b2⟩, b3, b4⟩ := tenths_bd0 t
  obtain ⟨s1, s2⟩ := sine_bd (t / 10)
  obtain ⟨s3, s4⟩ := sine_bd (t / 10 + 1)
  have hr : t - 10 * (t / 10) = t % 10 := by omega
  rcases td_cases t with ⟨e1, e2⟩ | ⟨e1, e2, e3⟩
  · go_enter Try.func54, Try.ntmps54
    go_wp2_with (first | (go_at_call 53; refine (sineS _ (by omega) (by omega) _).mono ?_; rintro e w1 ⟨rfl, hb1⟩; have hB1 := below_next (w0 := w) hb1 (by go_grown); clear hb1) | (go_at_call 47; refine (divS _ _ (by omega) (by omega) (by omega) (by omega) (by omega) _).mono ?_; rintro e w' ⟨rfl, rfl⟩))
    go_ret
    exact ⟨rfl, by go_grown⟩
  · have e4 : t / 10 + 1 - 1 = t / 10 := by omega
    go_enter Try.func54, Try.ntmps54
    go_wp2_with (first | (go_at_call 53; refine (sineS _ (by omega) (by omega) _).mono ?_; rintro e w1 ⟨rfl, hb1⟩; have hB1 := below_next (w0 := w) hb1 (by go_grown); clear hb1) | (go_at_call 47; refine (divS _ _ (by omega) (by omega) (by omega) (by omega) (by omega) _).mono ?_; rintro e w' ⟨rfl, rfl⟩))
    go_ret
    exact ⟨rfl, by go_grown⟩
end Go.Proofs.Ytnpoemhpfaiooaa
