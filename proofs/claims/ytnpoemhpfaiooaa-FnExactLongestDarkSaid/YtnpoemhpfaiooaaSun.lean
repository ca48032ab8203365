--%!
/- The walks on the sun's declination that the seat has. Own work. -/
import Derived.Test.YtnpoemhpfaiooaaSunMath
import Derived.Test.YtnpoemhpfaiooaaCal
import Derived.Test.YtnpoemhpfaiooaaCalLaws
import Derived.Test.YtnpoemhpfaiooaaTenths
namespace Go.Proofs.Ytnpoemhpfaiooaa
open Go.ChangeShapes Go.WideShapes Go.ChangeAt Go.RowKit
set_option linter.unusedVariables false
set_option maxRecDepth 100000
set_option maxHeartbeats 2000000

theorem doyI' (n : Int) (h0 : 0 ≤ n) (h1 : n ≤ 99999) (w : World) : Calls Try.prog 52 #[.int .i64 n] w fun e w' => e = .returned (.int .i64 (doy n)) ∧ w = w' :=
  (doyI n h0 h1 w).mono fun e w' ⟨y, m, d, hd, he, hw⟩ => ⟨he.trans (ret_int (doy_of hd)), hw⟩
theorem doyS' (n : Int) (h0 : 0 ≤ n) (h1 : n ≤ 99999) (w : World) : Calls Try.prog 46 #[.int .i64 n] w fun e w' => e = .returned (.tuple #[.int .i64 (doy n), .int .i64 0]) ∧ w = w' :=
  (doyS n h0 h1 w).mono fun e w' ⟨y, m, d, hd, he, hw⟩ => ⟨he.trans (by rw [doy_of hd]), hw⟩
theorem declI (n : Int) (h0 : 0 ≤ n) (h1 : n ≤ 99999) (w : World) : Calls Try.prog 30 #[.int .i64 n] w fun e w' => e = .returned (.int .i64 (decl n)) ∧ w = w' := by
  obtain ⟨⟨d1, d2⟩, ⟨d3, d4⟩, ⟨d5, d6⟩, d7, d8⟩ := decl_parts n h0 h1
  have H : Hid (decl n = -dr (234 * cosine (dr (360 * (doy n + 10)) 365)) 1000000) := rfl
  go_enter Try.func30, Try.ntmps30
  go_wp2_with (first | (go_at_call 52; refine (doyI' _ (by omega) (by omega) _).mono ?_; rintro e w' ⟨rfl, rfl⟩) | (go_at_call 51; refine (cosineI _ (by omega) (by omega) _).mono ?_; rintro e w' ⟨rfl, rfl⟩) | (go_at_call 50; refine (divI _ _ (by omega) (by omega) (by omega) (by omega) (by omega) _).mono ?_; rintro e w' ⟨rfl, rfl⟩))
  go_ret
  exact ⟨ret_int H.out.symm, rfl⟩
theorem declS (n : Int) (h0 : 0 ≤ n) (h1 : n ≤ 99999) (w : World) : Calls Try.prog 28 #[.int .i64 n] w fun e w' => e = .returned (.int .i64 (decl n)) ∧ Below w.heap.size w w' := by
  obtain ⟨⟨d1, d2⟩, ⟨d3, d4⟩, ⟨d5, d6⟩, d7, d8⟩ := decl_parts n h0 h1
  have H : Hid (decl n = -dr (234 * cosine (dr (360 * (doy n + 10)) 365)) 1000000) := rfl
  go_enter Try.func28, Try.ntmps28
  go_wp2_with (first | (go_at_call 46; refine (doyS' _ (by omega) (by omega) _).mono ?_; rintro e w' ⟨rfl, rfl⟩) | (go_at_call 48; refine (cosineS _ (by omega) (by omega) _).mono ?_; rintro e w1 ⟨rfl, hb1⟩; have hB1 := below_next (w0 := w) hb1 (by go_grown); clear hb1) | (go_at_call 47; refine (divS _ _ (by omega) (by omega) (by omega) (by omega) (by omega) _).mono ?_; rintro e w' ⟨rfl, rfl⟩))
  go_ret
  exact ⟨ret_int H.out.symm, by go_grown⟩
theorem fnExactDeclinationOf_walk (n : Int) (_ : -9223372036854775808 ≤ n) (_ : n ≤ 9223372036854775807) (w : World) :
    Calls Try.prog 3 #[.int .i64 n] w fun e w' => e = .returned (.bool true) ∧ Below w.heap.size w w' := by
  cases hy : inB n 0 99999
  · go_enter Try.func3, Try.ntmps3
    go_wp2_with (first | (go_at_call 32; refine (inS _ _ _ _).mono ?_; rintro e w' ⟨rfl, rfl⟩) | (go_at_call 49; refine (inI _ _ _ _).mono ?_; rintro e w' ⟨rfl, rfl⟩) | go_in)
    go_ret
    exact ⟨rfl, Below.refl _ _⟩
  · obtain ⟨n1, n2⟩ := (inB_iff _ _ _).1 hy
    go_enter Try.func3, Try.ntmps3
    go_wp2_with (first | (go_at_call 32; refine (inS _ _ _ _).mono ?_; rintro e w' ⟨rfl, rfl⟩) | (go_at_call 49; refine (inI _ _ _ _).mono ?_; rintro e w' ⟨rfl, rfl⟩) | (go_at_call 28; refine (declS _ (by omega) (by omega) _).mono ?_; rintro e w1 ⟨rfl, hb1⟩; have hB1 := below_next (w0 := w) hb1 (by go_grown); clear hb1) | (go_at_call 30; refine (declI _ (by omega) (by omega) _).mono ?_; rintro e w' ⟨rfl, rfl⟩) | go_in)
    go_ret
    exact ⟨rfl, by go_grown⟩
end Go.Proofs.Ytnpoemhpfaiooaa
