--%!
/- The walks of the calendar's laws that the seat has: each returns true. -/
import Derived.Test.YtnpoemhpfaiooaaCal
namespace Go.Proofs.Ytnpoemhpfaiooaa
open Go.ChangeShapes Go.WideShapes Go.ChangeAt Go.RowKit
set_option linter.unusedVariables false
set_option maxHeartbeats 1000000
theorem numS_first (y : Int) (hy1 : 2000 ≤ y) (hy2 : y ≤ 2280) (w : World) :
    Calls Try.prog 62 #[.int .i64 y, .int .i64 1, .int .i64 1] w fun e w' => e = .returned (.int .i64 (fd y)) ∧ w = w' :=
  (numS y 1 1 hy1 hy2 (by omega) (by omega) (by omega) (by omega) w).mono fun e w' ⟨he, hw⟩ => ⟨he.trans (ret_int (by unfold num; rw [cum_1]; omega)), hw⟩
theorem doyS (n : Int) (h0 : 0 ≤ n) (h1 : n ≤ 99999) (w : World) : Calls Try.prog 46 #[.int .i64 n] w fun e w' => ∃ y m d : Int, IsDate n y m d ∧ e = .returned (.tuple #[.int .i64 (n - fd y + 1), .int .i64 0]) ∧ w = w' := by
  have hy := inB_true h0 h1
  go_enter Try.func46, Try.ntmps46
  go_wp2_with (first | (go_at_call 32; refine (inS _ _ _ _).mono ?_; rintro e w' ⟨rfl, rfl⟩) | (go_at_call 49; refine (inI _ _ _ _).mono ?_; rintro e w' ⟨rfl, rfl⟩) | (go_at_call 60; go_in) | (go_at_call 61; refine (dateS _ (by omega) (by omega) _).mono ?_; rintro e w' ⟨y, m, d, hd, rfl, rfl⟩))
  have Hd := hide hd
  obtain ⟨y1, y2, -, -, -, -, -⟩ := hd
  have hf := fd_lo y y1
  go_wp2_with (go_at_call 62; refine (numS_first _ (by omega) (by omega) _).mono ?_; rintro e w' ⟨rfl, rfl⟩)
  go_ret2
  exact ⟨y, m, d, Hd.out, rfl, rfl⟩
/-- some months later: the day and the code -/
def addRes (y m d k : Int) : Value :=
  if ((12 * y + m - 1 + k) / 12) ≤ 2273 ∧ num ((12 * y + m - 1 + k) / 12) ((12 * y + m - 1 + k) % 12 + 1) (min d (dim ((12 * y + m - 1 + k) / 12) ((12 * y + m - 1 + k) % 12 + 1))) ≤ 99999 then .tuple #[.int .i64 (num ((12 * y + m - 1 + k) / 12) ((12 * y + m - 1 + k) % 12 + 1) (min d (dim ((12 * y + m - 1 + k) / 12) ((12 * y + m - 1 + k) % 12 + 1)))), .int .i64 0] else .tuple #[.int .i64 0, .int .i64 6]
def AddBack (n k : Int) (w : World) (e : Ending) (w' : World) : Prop := ∃ y m d : Int, IsDate n y m d ∧ e = .returned (addRes y m d k) ∧ w = w'
theorem addRes_late {y m d k : Int} (h : 2273 < ((12 * y + m - 1 + k) / 12)) : addRes y m d k = .tuple #[.int .i64 0, .int .i64 6] := if_neg (by omega)
theorem addRes_over {y m d k d' : Int} (hd : min d (dim ((12 * y + m - 1 + k) / 12) ((12 * y + m - 1 + k) % 12 + 1)) = d') (h : 99999 < num ((12 * y + m - 1 + k) / 12) ((12 * y + m - 1 + k) % 12 + 1) d') : addRes y m d k = .tuple #[.int .i64 0, .int .i64 6] := if_neg (by rw [hd]; omega)
theorem addRes_yes {y m d k d' : Int} (hd : min d (dim ((12 * y + m - 1 + k) / 12) ((12 * y + m - 1 + k) % 12 + 1)) = d') (h1 : ((12 * y + m - 1 + k) / 12) ≤ 2273) (h : num ((12 * y + m - 1 + k) / 12) ((12 * y + m - 1 + k) % 12 + 1) d' ≤ 99999) : addRes y m d k = .tuple #[.int .i64 (num ((12 * y + m - 1 + k) / 12) ((12 * y + m - 1 + k) % 12 + 1) d'), .int .i64 0] := by
  unfold addRes; rw [hd, if_pos ⟨h1, h⟩]
end Go.Proofs.Ytnpoemhpfaiooaa
