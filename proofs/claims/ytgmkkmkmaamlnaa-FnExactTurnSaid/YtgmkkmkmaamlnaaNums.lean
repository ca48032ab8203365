--%!
/- Contracts of the functions on plain numbers (angles, quotients, roots, ..), reference and program alike. -/
import Derived.Test.YtgmkkmkmaamlnaaBase
import Derived.Test.YtgmkkmkmaamlnaaMath
namespace Go.Proofs.Ytgmkkmkmaamlnaa
open Go.ChangeShapes Go.WideShapes Go.ChangeAt Go.RowKit
set_option linter.unusedVariables false

theorem ret_int {k : IntKind} {a b : Int} (h : a = b) : Ending.returned (.int k a) = .returned (.int k b) := by rw [h]
theorem angS (d : Int) (h0 : -9223372036854775808 ≤ d) (h1 : d ≤ 9223372036854775807) (w : World) :
    Calls Try.prog 57 #[.int .i64 d] w fun e w' => e = .returned (.int .i64 (d % 360)) ∧ w = w' := by
  obtain ⟨hb1, hb2⟩ := tmod_bd d 360 (by decide)
  have H := hide (norm_mod d 360 (by decide))
  go_enter Try.func57, Try.ntmps57
  go_wp2
  go_ret
  exact ⟨ret_int H.out, rfl⟩
theorem angI (d : Int) (h0 : -9223372036854775808 ≤ d) (h1 : d ≤ 9223372036854775807) (w : World) :
    Calls Try.prog 39 #[.int .i64 d] w fun e w' => e = .returned (.int .i64 (d % 360)) ∧ w = w' := by
  obtain ⟨hb1, hb2⟩ := tmod_bd d 360 (by decide)
  have H := hide (norm_mod d 360 (by decide))
  go_enter Try.func39, Try.ntmps39
  go_wp2
  go_ret
  exact ⟨ret_int H.out, rfl⟩
theorem turnS (a b : Int) (h0 : -9223372036854775808 ≤ a) (h1 : a ≤ 9223372036854775807) (h2 : -9223372036854775808 ≤ b) (h3 : b ≤ 9223372036854775807) (w : World) :
    Calls Try.prog 38 #[.int .i64 a, .int .i64 b] w fun e w' => e = .returned (.int .i64 (turnOf a b)) ∧ w = w' := by
  have H : Hid (turnOf a b = if 180 < (a - b) % 360 then 360 - (a - b) % 360 else (a - b) % 360) := rfl
  go_enter Try.func38, Try.ntmps38
  go_wp2_with (go_at_call 57; refine (angS _ (by omega) (by omega) _).mono ?_; rintro e w' ⟨rfl, rfl⟩)
  all_goals
    go_ret
    exact ⟨ret_int (by rw [H.out]; first | rw [if_pos (by omega)] | rw [if_neg (by omega)]), rfl⟩
theorem turnI (a b : Int) (h0 : -9223372036854775808 ≤ a) (h1 : a ≤ 9223372036854775807) (h2 : -9223372036854775808 ≤ b) (h3 : b ≤ 9223372036854775807) (w : World) :
    Calls Try.prog 16 #[.int .i64 a, .int .i64 b] w fun e w' => e = .returned (.int .i64 (turnOf a b)) ∧ w = w' := by
  have H : Hid (turnOf a b = if 180 < (a - b) % 360 then 360 - (a - b) % 360 else (a - b) % 360) := rfl
  go_enter Try.func16, Try.ntmps16
  go_wp2_with (go_at_call 39; refine (angI _ (by omega) (by omega) _).mono ?_; rintro e w' ⟨rfl, rfl⟩)
  all_goals
    go_ret
    refine ⟨ret_int ?_, rfl⟩
    rw [H.out]
    split <;> omega
theorem fnExactTurn_walk (a : Int) (h0 : -9223372036854775808 ≤ a) (h1 : a ≤ 9223372036854775807) (b : Int) (h2 : -9223372036854775808 ≤ b) (h3 : b ≤ 9223372036854775807) (w : World) :
    Calls Try.prog 4 #[.int .i64 a, .int .i64 b] w fun e w' => e = .returned (.bool true) ∧ Below w.heap.size w w' := by
  go_enter Try.func4, Try.ntmps4
  go_wp2_with (first | (go_at_call 38; refine (turnS _ _ (by assumption) (by assumption) (by assumption) (by assumption) _).mono ?_; rintro e w' ⟨rfl, rfl⟩) | (go_at_call 16; refine (turnI _ _ (by assumption) (by assumption) (by assumption) (by assumption) _).mono ?_; rintro e w' ⟨rfl, rfl⟩) | (go_at_call 15; go_in))
  go_ret
  exact ⟨rfl, Below.refl _ _⟩
end Go.Proofs.Ytgmkkmkmaamlnaa
