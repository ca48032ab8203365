--%!
/- The program's decimal form by the library's contract; the walk of the law on it. Own work. -/
import Derived.Test.YtphlbpailmdndaaDoorDec
import Derived.Test.YtphlbpailmdndaaDoorCardPow
import Derived.Lib.AppendIntMem
namespace Go.Proofs.YtphlbpailmdndaaDoor
open Go.ChangeShapes Go.WideShapes Go.ChangeAt Go.RowKit
set_option linter.unusedVariables false
set_option maxRecDepth 100000
set_option maxHeartbeats 1000000

theorem decI (n : Int) (h0 : -9223372036854775808 ≤ n) (h1 : n ≤ 9223372036854775807) (w : World) (hp : Pow w) :
    Calls Tryd.prog 16 #[.int .i64 n] w fun e w' => e = .returned (.string ⟨(Lib.itoa n).toArray⟩) ∧ Below w.heap.size w w' := by
  have HP := hide hp
  clear hp
  go_enter Tryd.func16, Tryd.ntmps16
  go_wp2_with fail
  refine (Tryd.strconv_FormatInt_10 n h0 h1 w HP.out).mono ?_
  rintro e w1 ⟨rfl, k, os, hw⟩
  have hB : Below w.heap.size w w1 := by rw [hw]; exact Lib.below_grow _ w (Nat.le_refl _) k os
  clear hw
  go_wp2_with fail
  go_ret
  exact ⟨rfl, hB⟩
theorem decS (n : Int) (h0 : -9223372036854775808 ≤ n) (h1 : n ≤ 9223372036854775807) (w : World) :
    Calls Tryd.prog 15 #[.int .i64 n] w fun e w' => e = .returned (.string ⟨(Lib.itoa n).toArray⟩) ∧ Below w.heap.size w w' := by
  go_enter Tryd.func15, Tryd.ntmps15
  go_wp2_with fail
  refine (l01DecS n h0 h1 w).mono ?_
  rintro e w1 ⟨rfl, hb1⟩
  go_wp2_with fail
  go_ret
  exact ⟨rfl, hb1⟩
theorem fnExactDecimal_walk (n : Int) (h0 : -9223372036854775808 ≤ n) (h1 : n ≤ 9223372036854775807) (w : World) (hp : Pow w) :
    Calls Tryd.prog 3 #[.int .i64 n] w fun e w' => e = .returned (.bool true) ∧ Below w.heap.size w w' := by
  have HP := hide hp
  clear hp
  go_enter Tryd.func3, Tryd.ntmps3
  go_wp2_with fail
  refine (decS n h0 h1 w).mono ?_
  rintro e w1 ⟨rfl, hb1⟩
  have HP1 := hide (HP.out.below hb1)
  go_wp2_with fail
  refine (decI n h0 h1 w1 HP1.out).mono ?_
  rintro e w2 ⟨rfl, hb2⟩
  have hB2 := below_next (w0 := w) hb2 hb1
  clear hb1 hb2
  go_wp2_with fail
  go_ret
  exact ⟨rfl, hB2⟩
end Go.Proofs.YtphlbpailmdndaaDoor
