--%!
/- Contracts of the functions on plain numbers (angles, quotients, roots, ..), reference and program alike. -/
import Derived.Test.YtphlbpailmdndaaDoorBase
import Derived.Test.YtphlbpailmdndaaDoorMath
namespace Go.Proofs.YtphlbpailmdndaaDoor
open Go.ChangeShapes Go.WideShapes Go.ChangeAt Go.RowKit
set_option linter.unusedVariables false

theorem ret_bool {a b : Bool} (h : a = b) : Ending.returned (.bool a) = .returned (.bool b) := by rw [h]
theorem ret_int {k : IntKind} {a b : Int} (h : a = b) : Ending.returned (.int k a) = .returned (.int k b) := by rw [h]
theorem inS (n lo hi : Int) (w : World) : Calls Tryd.prog 65 #[.int .i64 n, .int .i64 lo, .int .i64 hi] w fun e w' => e = .returned (.bool (inB n lo hi)) ∧ w = w' := by
  by_cases h1 : lo ≤ n
  · by_cases h2 : n ≤ hi
    · have H := hide (inB_true h1 h2)
      have d2 : decide (n ≤ hi) = true := by simp; omega
      go_enter Tryd.func65, Tryd.ntmps65
      go_wp2
      go_ret
      exact ⟨ret_bool H.out.symm, rfl⟩
    · have H := hide (inB_false (fun k => h2 k.2) : inB n lo hi = false)
      have d2 : decide (n ≤ hi) = false := by simp; omega
      go_enter Tryd.func65, Tryd.ntmps65
      go_wp2
      go_ret
      exact ⟨ret_bool H.out.symm, rfl⟩
  · have H := hide (inB_false (fun k => h1 k.1) : inB n lo hi = false)
    go_enter Tryd.func65, Tryd.ntmps65
    go_wp2
    go_ret
    exact ⟨ret_bool H.out.symm, rfl⟩
theorem inI (n lo hi : Int) (w : World) : Calls Tryd.prog 80 #[.int .i64 n, .int .i64 lo, .int .i64 hi] w fun e w' => e = .returned (.bool (inB n lo hi)) ∧ w = w' := by
  by_cases h1 : lo ≤ n
  · by_cases h2 : n ≤ hi
    · have H := hide (inB_true h1 h2)
      have d2 : decide (n ≤ hi) = true := by simp; omega
      go_enter Tryd.func80, Tryd.ntmps80
      go_wp2
      go_ret
      exact ⟨ret_bool H.out.symm, rfl⟩
    · have H := hide (inB_false (fun k => h2 k.2) : inB n lo hi = false)
      have d2 : decide (n ≤ hi) = false := by simp; omega
      go_enter Tryd.func80, Tryd.ntmps80
      go_wp2
      go_ret
      exact ⟨ret_bool H.out.symm, rfl⟩
  · have H := hide (inB_false (fun k => h1 k.1) : inB n lo hi = false)
    go_enter Tryd.func80, Tryd.ntmps80
    go_wp2
    go_ret
    exact ⟨ret_bool H.out.symm, rfl⟩
theorem okS (x y : Int) (w : World) : Calls Tryd.prog 60 #[.agg #[.int .i64 x, .int .i64 y]] w fun e w' => e = .returned (.bool (okP x y)) ∧ Below w.heap.size w w' := by
  cases hx : inB x 0 200000
  · have H := hide (okP_f1 hx : okP x y = false)
    go_enter Tryd.func60, Tryd.ntmps60
    go_wp2_with (go_at_call 65; refine (inS _ _ _ _).mono ?_; rintro e w' ⟨rfl, rfl⟩)
    go_ret
    exact ⟨ret_bool H.out.symm, by go_grown⟩
  · cases hy : inB y 0 200000
    · have H := hide (okP_f2 hy : okP x y = false)
      go_enter Tryd.func60, Tryd.ntmps60
      go_wp2_with (go_at_call 65; refine (inS _ _ _ _).mono ?_; rintro e w' ⟨rfl, rfl⟩)
      go_ret
      exact ⟨ret_bool H.out.symm, by go_grown⟩
    · have H := hide (okP_true hx hy : okP x y = true)
      go_enter Tryd.func60, Tryd.ntmps60
      go_wp2_with (go_at_call 65; refine (inS _ _ _ _).mono ?_; rintro e w' ⟨rfl, rfl⟩)
      go_ret
      exact ⟨ret_bool H.out.symm, by go_grown⟩
theorem okI (x y : Int) (w : World) : Calls Tryd.prog 62 #[.agg #[.int .i64 x, .int .i64 y]] w fun e w' => e = .returned (.bool (okP x y)) ∧ Below w.heap.size w w' := by
  cases hx : inB x 0 200000
  · have H := hide (okP_f1 hx : okP x y = false)
    go_enter Tryd.func62, Tryd.ntmps62
    go_wp2_with (go_at_call 80; refine (inI _ _ _ _).mono ?_; rintro e w' ⟨rfl, rfl⟩)
    go_ret
    exact ⟨ret_bool H.out.symm, by go_grown⟩
  · cases hy : inB y 0 200000
    · have H := hide (okP_f2 hy : okP x y = false)
      go_enter Tryd.func62, Tryd.ntmps62
      go_wp2_with (go_at_call 80; refine (inI _ _ _ _).mono ?_; rintro e w' ⟨rfl, rfl⟩)
      go_ret
      exact ⟨ret_bool H.out.symm, by go_grown⟩
    · have H := hide (okP_true hx hy : okP x y = true)
      go_enter Tryd.func62, Tryd.ntmps62
      go_wp2_with (go_at_call 80; refine (inI _ _ _ _).mono ?_; rintro e w' ⟨rfl, rfl⟩)
      go_ret
      exact ⟨ret_bool H.out.symm, by go_grown⟩
end Go.Proofs.YtphlbpailmdndaaDoor
