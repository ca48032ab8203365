--%!
/- Contracts of the functions on plain numbers (angles, quotients, roots, ..), reference and program alike. -/
import Derived.Test.YtklmoeolehdjeaaBase
import Derived.Test.YtklmoeolehdjeaaMath
namespace Go.Proofs.Ytklmoeolehdjeaa
open Go.ChangeShapes Go.WideShapes Go.ChangeAt Go.RowKit
set_option linter.unusedVariables false

theorem ret_bool {a b : Bool} (h : a = b) : Ending.returned (.bool a) = .returned (.bool b) := by rw [h]
theorem ret_int {k : IntKind} {a b : Int} (h : a = b) : Ending.returned (.int k a) = .returned (.int k b) := by rw [h]
theorem inS (n lo hi : Int) (w : World) : Calls Try.prog 74 #[.int .i64 n, .int .i64 lo, .int .i64 hi] w fun e w' => e = .returned (.bool (inB n lo hi)) ∧ w = w' := by
  by_cases h1 : lo ≤ n
  · by_cases h2 : n ≤ hi
    · have H := hide (inB_true h1 h2)
      have d2 : decide (n ≤ hi) = true := by simp; omega
      go_enter Try.func74, Try.ntmps74
      go_wp2
      go_ret
      exact ⟨ret_bool H.out.symm, rfl⟩
    · have H := hide (inB_false (fun k => h2 k.2) : inB n lo hi = false)
      have d2 : decide (n ≤ hi) = false := by simp; omega
      go_enter Try.func74, Try.ntmps74
      go_wp2
      go_ret
      exact ⟨ret_bool H.out.symm, rfl⟩
  · have H := hide (inB_false (fun k => h1 k.1) : inB n lo hi = false)
    go_enter Try.func74, Try.ntmps74
    go_wp2
    go_ret
    exact ⟨ret_bool H.out.symm, rfl⟩
theorem inI (n lo hi : Int) (w : World) : Calls Try.prog 52 #[.int .i64 n, .int .i64 lo, .int .i64 hi] w fun e w' => e = .returned (.bool (inB n lo hi)) ∧ w = w' := by
  by_cases h1 : lo ≤ n
  · by_cases h2 : n ≤ hi
    · have H := hide (inB_true h1 h2)
      have d2 : decide (n ≤ hi) = true := by simp; omega
      go_enter Try.func52, Try.ntmps52
      go_wp2
      go_ret
      exact ⟨ret_bool H.out.symm, rfl⟩
    · have H := hide (inB_false (fun k => h2 k.2) : inB n lo hi = false)
      have d2 : decide (n ≤ hi) = false := by simp; omega
      go_enter Try.func52, Try.ntmps52
      go_wp2
      go_ret
      exact ⟨ret_bool H.out.symm, rfl⟩
  · have H := hide (inB_false (fun k => h1 k.1) : inB n lo hi = false)
    go_enter Try.func52, Try.ntmps52
    go_wp2
    go_ret
    exact ⟨ret_bool H.out.symm, rfl⟩
end Go.Proofs.Ytklmoeolehdjeaa
