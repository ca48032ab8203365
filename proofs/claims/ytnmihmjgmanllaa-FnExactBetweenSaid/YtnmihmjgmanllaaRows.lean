/-
  No cell of these rows narrows 'for every input' (looked for: loops, veiled, ifaces, maps, wideKeys, modest, calm, conditions, laid).
  DERIVED. THE GIVEN ROWS OF THIS SEAT. 10 by the template 'for every input the law returns true; each argument reads behind the call as it read before'; 0 by the template 'total and deterministic' (their statements: YtnmihmjgmanllaaTotals.lean).
  GIVEN WITH THE SEED: the statements are not yours to turn. If you find one false, say at which input.
  Laid BY PROGRAM, IN A SANDBOX (cutbox-rows.mjs): the forced cells as the released guide's own fill.sh prints them over the translation 14316dff0ca4fcf4… (all of the seat's roots in one cut). By AI agents, Wed Nov 11 2026. No macro, syntax, notation, axiom, sorry.
-/
import Derived.Test.YtnmihmjgmanllaaChecked
import GoSem.Claim
import GoSem.ClaimJoined
import GoSem.ClaimMapViews
import Derived.JoinedTies
import Derived.KernelRfl
namespace Go.Proofs.Ytnmihmjgmanllaa
/- THE CELL 'sum', in the pinned program and in every row, IS THE sha256 OF THE DUMP (.gsa) THAT YtnmihmjgmanllaaProg.lean LOADS. Nothing in Lean hashes anything: it is a label: what it is worth is what the hold of that sum in a sandbox is worth. -/
noncomputable def Try.pinned : Pinned := { name := "ytnmihmjgmanllaa", sum := "14316dff0ca4fcf45f1677fc079090804f3421fb06cd612d76de8a344ef3e854", checked := Try.checked }
namespace Rows
def none {H : Type} : Left H := { results := [], args := [] }

/-- 'laws.FnExactSine': WHATEVER THE INPUT: true; the input reads as it did. -/
def fnExactSineSpec : ChangeSpec := { name := "fnExactSine", fn := fun _ => fun
  | [d] => { results := [.lit (.bool true)], args := [d] }
  | _ => none }
def fnExactSineRow : OpenClaim := { program := "ytnmihmjgmanllaa", sum := "14316dff0ca4fcf45f1677fc079090804f3421fb06cd612d76de8a344ef3e854", func := "loop.example/g00953/laws.FnExactSine", spec := "fnExactSine", recurses := true, apart := false }
def FnExactSineSaid : Prop := fnExactSineRow.holds Try.pinned (OpenSpec.ofChange fnExactSineSpec)

/-- ITS FALSE NEIGHBOUR: 'it returns false'. Refute it at one input. -/
def fnExactSineWrong : ChangeSpec := { name := "fnExactSine", fn := fun _ => fun
  | [d] => { results := [.lit (.bool false)], args := [d] }
  | _ => none }
def FnExactSineWrongFalsely : Prop := fnExactSineRow.holds Try.pinned (OpenSpec.ofChange fnExactSineWrong)

/-- 'laws.FnExactCosine': WHATEVER THE INPUT: true; the input reads as it did. -/
def fnExactCosineSpec : ChangeSpec := { name := "fnExactCosine", fn := fun _ => fun
  | [d] => { results := [.lit (.bool true)], args := [d] }
  | _ => none }
def fnExactCosineRow : OpenClaim := { program := "ytnmihmjgmanllaa", sum := "14316dff0ca4fcf45f1677fc079090804f3421fb06cd612d76de8a344ef3e854", func := "loop.example/g00953/laws.FnExactCosine", spec := "fnExactCosine", recurses := true, apart := false }
def FnExactCosineSaid : Prop := fnExactCosineRow.holds Try.pinned (OpenSpec.ofChange fnExactCosineSpec)

/-- ITS FALSE NEIGHBOUR: 'it returns false'. Refute it at one input. -/
def fnExactCosineWrong : ChangeSpec := { name := "fnExactCosine", fn := fun _ => fun
  | [d] => { results := [.lit (.bool false)], args := [d] }
  | _ => none }
def FnExactCosineWrongFalsely : Prop := fnExactCosineRow.holds Try.pinned (OpenSpec.ofChange fnExactCosineWrong)

/-- 'laws.FnExactSideOf': WHATEVER THE INPUT: true; the input reads as it did. -/
def fnExactSideOfSpec : ChangeSpec := { name := "fnExactSideOf", fn := fun _ => fun
  | [d1, d2, d3] => { results := [.lit (.bool true)], args := [d1, d2, d3] }
  | _ => none }
def fnExactSideOfRow : OpenClaim := { program := "ytnmihmjgmanllaa", sum := "14316dff0ca4fcf45f1677fc079090804f3421fb06cd612d76de8a344ef3e854", func := "loop.example/g00953/laws.FnExactSideOf", spec := "fnExactSideOf", apart := false }
def FnExactSideOfSaid : Prop := fnExactSideOfRow.holds Try.pinned (OpenSpec.ofChange fnExactSideOfSpec)

/-- ITS FALSE NEIGHBOUR: 'it returns false'. Refute it at one input. -/
def fnExactSideOfWrong : ChangeSpec := { name := "fnExactSideOf", fn := fun _ => fun
  | [d1, d2, d3] => { results := [.lit (.bool false)], args := [d1, d2, d3] }
  | _ => none }
def FnExactSideOfWrongFalsely : Prop := fnExactSideOfRow.holds Try.pinned (OpenSpec.ofChange fnExactSideOfWrong)

/-- 'laws.FnExactDistance': WHATEVER THE INPUT: true; the input reads as it did. -/
def fnExactDistanceSpec : ChangeSpec := { name := "fnExactDistance", fn := fun _ => fun
  | [d1, d2] => { results := [.lit (.bool true)], args := [d1, d2] }
  | _ => none }
def fnExactDistanceRow : OpenClaim := { program := "ytnmihmjgmanllaa", sum := "14316dff0ca4fcf45f1677fc079090804f3421fb06cd612d76de8a344ef3e854", func := "loop.example/g00953/laws.FnExactDistance", spec := "fnExactDistance", apart := false }
def FnExactDistanceSaid : Prop := fnExactDistanceRow.holds Try.pinned (OpenSpec.ofChange fnExactDistanceSpec)

/-- ITS FALSE NEIGHBOUR: 'it returns false'. Refute it at one input. -/
def fnExactDistanceWrong : ChangeSpec := { name := "fnExactDistance", fn := fun _ => fun
  | [d1, d2] => { results := [.lit (.bool false)], args := [d1, d2] }
  | _ => none }
def FnExactDistanceWrongFalsely : Prop := fnExactDistanceRow.holds Try.pinned (OpenSpec.ofChange fnExactDistanceWrong)

/-- 'laws.FnExactBetween': WHATEVER THE INPUT: true; the input reads as it did. -/
def fnExactBetweenSpec : ChangeSpec := { name := "fnExactBetween", fn := fun _ => fun
  | [d1, d2, d3, d4] => { results := [.lit (.bool true)], args := [d1, d2, d3, d4] }
  | _ => none }
def fnExactBetweenRow : OpenClaim := { program := "ytnmihmjgmanllaa", sum := "14316dff0ca4fcf45f1677fc079090804f3421fb06cd612d76de8a344ef3e854", func := "loop.example/g00953/laws.FnExactBetween", spec := "fnExactBetween", apart := false }
def FnExactBetweenSaid : Prop := fnExactBetweenRow.holds Try.pinned (OpenSpec.ofChange fnExactBetweenSpec)

/-- ITS FALSE NEIGHBOUR: 'it returns false'. Refute it at one input. -/
def fnExactBetweenWrong : ChangeSpec := { name := "fnExactBetween", fn := fun _ => fun
  | [d1, d2, d3, d4] => { results := [.lit (.bool false)], args := [d1, d2, d3, d4] }
  | _ => none }
def FnExactBetweenWrongFalsely : Prop := fnExactBetweenRow.holds Try.pinned (OpenSpec.ofChange fnExactBetweenWrong)

/-- 'laws.FnExactBearing': WHATEVER THE INPUT: true; the input reads as it did. -/
def fnExactBearingSpec : ChangeSpec := { name := "fnExactBearing", fn := fun _ => fun
  | [d1, d2] => { results := [.lit (.bool true)], args := [d1, d2] }
  | _ => none }
def fnExactBearingRow : OpenClaim := { program := "ytnmihmjgmanllaa", sum := "14316dff0ca4fcf45f1677fc079090804f3421fb06cd612d76de8a344ef3e854", func := "loop.example/g00953/laws.FnExactBearing", spec := "fnExactBearing", unfollowed := true, recurses := true, apart := false }
def FnExactBearingSaid : Prop := fnExactBearingRow.holds Try.pinned (OpenSpec.ofChange fnExactBearingSpec)

/-- ITS FALSE NEIGHBOUR: 'it returns false'. Refute it at one input. -/
def fnExactBearingWrong : ChangeSpec := { name := "fnExactBearing", fn := fun _ => fun
  | [d1, d2] => { results := [.lit (.bool false)], args := [d1, d2] }
  | _ => none }
def FnExactBearingWrongFalsely : Prop := fnExactBearingRow.holds Try.pinned (OpenSpec.ofChange fnExactBearingWrong)

/-- 'laws.FnExactNearestOf': WHATEVER THE INPUT: true; the input reads as it did. -/
def fnExactNearestOfSpec : ChangeSpec := { name := "fnExactNearestOf", fn := fun _ => fun
  | [d1, d2] => { results := [.lit (.bool true)], args := [d1, d2] }
  | _ => none }
def fnExactNearestOfRow : OpenClaim := { program := "ytnmihmjgmanllaa", sum := "14316dff0ca4fcf45f1677fc079090804f3421fb06cd612d76de8a344ef3e854", func := "loop.example/g00953/laws.FnExactNearestOf", spec := "fnExactNearestOf", apart := false }
def FnExactNearestOfSaid : Prop := fnExactNearestOfRow.holds Try.pinned (OpenSpec.ofChange fnExactNearestOfSpec)

/-- ITS FALSE NEIGHBOUR: 'it returns false'. Refute it at one input. -/
def fnExactNearestOfWrong : ChangeSpec := { name := "fnExactNearestOf", fn := fun _ => fun
  | [d1, d2] => { results := [.lit (.bool false)], args := [d1, d2] }
  | _ => none }
def FnExactNearestOfWrongFalsely : Prop := fnExactNearestOfRow.holds Try.pinned (OpenSpec.ofChange fnExactNearestOfWrong)

/-- 'laws.FnExactMove': WHATEVER THE INPUT: true; the input reads as it did. -/
def fnExactMoveSpec : ChangeSpec := { name := "fnExactMove", fn := fun _ => fun
  | [d1, d2, d3] => { results := [.lit (.bool true)], args := [d1, d2, d3] }
  | _ => none }
def fnExactMoveRow : OpenClaim := { program := "ytnmihmjgmanllaa", sum := "14316dff0ca4fcf45f1677fc079090804f3421fb06cd612d76de8a344ef3e854", func := "loop.example/g00953/laws.FnExactMove", spec := "fnExactMove", recurses := true, apart := false }
def FnExactMoveSaid : Prop := fnExactMoveRow.holds Try.pinned (OpenSpec.ofChange fnExactMoveSpec)

/-- ITS FALSE NEIGHBOUR: 'it returns false'. Refute it at one input. -/
def fnExactMoveWrong : ChangeSpec := { name := "fnExactMove", fn := fun _ => fun
  | [d1, d2, d3] => { results := [.lit (.bool false)], args := [d1, d2, d3] }
  | _ => none }
def FnExactMoveWrongFalsely : Prop := fnExactMoveRow.holds Try.pinned (OpenSpec.ofChange fnExactMoveWrong)

/-- 'laws.FnExactDistanceToSegment': WHATEVER THE INPUT: true; the input reads as it did. -/
def fnExactDistanceToSegmentSpec : ChangeSpec := { name := "fnExactDistanceToSegment", fn := fun _ => fun
  | [d1, d2, d3] => { results := [.lit (.bool true)], args := [d1, d2, d3] }
  | _ => none }
def fnExactDistanceToSegmentRow : OpenClaim := { program := "ytnmihmjgmanllaa", sum := "14316dff0ca4fcf45f1677fc079090804f3421fb06cd612d76de8a344ef3e854", func := "loop.example/g00953/laws.FnExactDistanceToSegment", spec := "fnExactDistanceToSegment", apart := false }
def FnExactDistanceToSegmentSaid : Prop := fnExactDistanceToSegmentRow.holds Try.pinned (OpenSpec.ofChange fnExactDistanceToSegmentSpec)

/-- ITS FALSE NEIGHBOUR: 'it returns false'. Refute it at one input. -/
def fnExactDistanceToSegmentWrong : ChangeSpec := { name := "fnExactDistanceToSegment", fn := fun _ => fun
  | [d1, d2, d3] => { results := [.lit (.bool false)], args := [d1, d2, d3] }
  | _ => none }
def FnExactDistanceToSegmentWrongFalsely : Prop := fnExactDistanceToSegmentRow.holds Try.pinned (OpenSpec.ofChange fnExactDistanceToSegmentWrong)

/-- 'laws.FnExactSineTenths': WHATEVER THE INPUT: true; the input reads as it did. -/
def fnExactSineTenthsSpec : ChangeSpec := { name := "fnExactSineTenths", fn := fun _ => fun
  | [d] => { results := [.lit (.bool true)], args := [d] }
  | _ => none }
def fnExactSineTenthsRow : OpenClaim := { program := "ytnmihmjgmanllaa", sum := "14316dff0ca4fcf45f1677fc079090804f3421fb06cd612d76de8a344ef3e854", func := "loop.example/g00953/laws.FnExactSineTenths", spec := "fnExactSineTenths", recurses := true, apart := false }
def FnExactSineTenthsSaid : Prop := fnExactSineTenthsRow.holds Try.pinned (OpenSpec.ofChange fnExactSineTenthsSpec)

/-- ITS FALSE NEIGHBOUR: 'it returns false'. Refute it at one input. -/
def fnExactSineTenthsWrong : ChangeSpec := { name := "fnExactSineTenths", fn := fun _ => fun
  | [d] => { results := [.lit (.bool false)], args := [d] }
  | _ => none }
def FnExactSineTenthsWrongFalsely : Prop := fnExactSineTenthsRow.holds Try.pinned (OpenSpec.ofChange fnExactSineTenthsWrong)

/- THE SECOND FORM. 'bulk': how many values and letters a reading holds, each counted each time it is reached (what is shared counts as often as it is met; a slice's spare places count too). A statement '..UptoSaid' is the law's where the arguments, and the package variables that the reading takes, are together of bulk at most 1048576: NARROWER than '..Said'. Prove '..Said' where nothing that the law and all that it calls make is longer than what came in: it says more and counts as full. Else prove '..UptoSaid'. A law counts once. -/
mutual
def uptoBulk {H : Type} : DataW H → Nat
  | .lit (.string bytes) => bytes.length + 1
  | .lit _ => 1
  | .nil => 1
  | .ptr d => uptoBulk d + 1
  | .slice elems spare => uptoBulkAll elems + uptoBulkAll spare + 1
  | .agg parts => uptoBulkAll parts + 1
  | .iface _ d => uptoBulk d + 1
  | .map entries => uptoBulkEntries entries + 1
  | .held _ => 1
def uptoBulkAll {H : Type} : List (DataW H) → Nat
  | [] => 0
  | d :: r => uptoBulk d + uptoBulkAll r
def uptoBulkEntries {H : Type} : List (Lit × DataW H) → Nat
  | [] => 0
  | x :: r => uptoBulkEntry x + uptoBulkEntries r
def uptoBulkEntry {H : Type} : Lit × DataW H → Nat
  | (.string bytes, d) => bytes.length + uptoBulk d + 1
  | (_, d) => uptoBulk d + 1
 end
def uptoSmall : (H : Type) → List (DataW H) → Bool := fun _ ds => decide (uptoBulkAll ds ≤ 1048576)
def OpenSpec.upto (s : _root_.Go.ChangeSpec) : _root_.Go.OpenSpec := { _root_.Go.OpenSpec.ofChange s with cond := some uptoSmall }

/-- 'laws.FnExactSine', WHERE WHAT IT READS IS OF BULK AT MOST 1048576: true; the input reads as it did. -/
def fnExactSineUptoRow : OpenClaim := { program := "ytnmihmjgmanllaa", sum := "14316dff0ca4fcf45f1677fc079090804f3421fb06cd612d76de8a344ef3e854", func := "loop.example/g00953/laws.FnExactSine", spec := "fnExactSine", recurses := true, apart := false, narrowed := true }
def FnExactSineUptoSaid : Prop := fnExactSineUptoRow.holds Try.pinned (OpenSpec.upto fnExactSineSpec)

/-- 'laws.FnExactCosine', WHERE WHAT IT READS IS OF BULK AT MOST 1048576: true; the input reads as it did. -/
def fnExactCosineUptoRow : OpenClaim := { program := "ytnmihmjgmanllaa", sum := "14316dff0ca4fcf45f1677fc079090804f3421fb06cd612d76de8a344ef3e854", func := "loop.example/g00953/laws.FnExactCosine", spec := "fnExactCosine", recurses := true, apart := false, narrowed := true }
def FnExactCosineUptoSaid : Prop := fnExactCosineUptoRow.holds Try.pinned (OpenSpec.upto fnExactCosineSpec)

/-- 'laws.FnExactSideOf', WHERE WHAT IT READS IS OF BULK AT MOST 1048576: true; the input reads as it did. -/
def fnExactSideOfUptoRow : OpenClaim := { program := "ytnmihmjgmanllaa", sum := "14316dff0ca4fcf45f1677fc079090804f3421fb06cd612d76de8a344ef3e854", func := "loop.example/g00953/laws.FnExactSideOf", spec := "fnExactSideOf", apart := false, narrowed := true }
def FnExactSideOfUptoSaid : Prop := fnExactSideOfUptoRow.holds Try.pinned (OpenSpec.upto fnExactSideOfSpec)

/-- 'laws.FnExactDistance', WHERE WHAT IT READS IS OF BULK AT MOST 1048576: true; the input reads as it did. -/
def fnExactDistanceUptoRow : OpenClaim := { program := "ytnmihmjgmanllaa", sum := "14316dff0ca4fcf45f1677fc079090804f3421fb06cd612d76de8a344ef3e854", func := "loop.example/g00953/laws.FnExactDistance", spec := "fnExactDistance", apart := false, narrowed := true }
def FnExactDistanceUptoSaid : Prop := fnExactDistanceUptoRow.holds Try.pinned (OpenSpec.upto fnExactDistanceSpec)

/-- 'laws.FnExactBetween', WHERE WHAT IT READS IS OF BULK AT MOST 1048576: true; the input reads as it did. -/
def fnExactBetweenUptoRow : OpenClaim := { program := "ytnmihmjgmanllaa", sum := "14316dff0ca4fcf45f1677fc079090804f3421fb06cd612d76de8a344ef3e854", func := "loop.example/g00953/laws.FnExactBetween", spec := "fnExactBetween", apart := false, narrowed := true }
def FnExactBetweenUptoSaid : Prop := fnExactBetweenUptoRow.holds Try.pinned (OpenSpec.upto fnExactBetweenSpec)

/-- 'laws.FnExactBearing', WHERE WHAT IT READS IS OF BULK AT MOST 1048576: true; the input reads as it did. -/
def fnExactBearingUptoRow : OpenClaim := { program := "ytnmihmjgmanllaa", sum := "14316dff0ca4fcf45f1677fc079090804f3421fb06cd612d76de8a344ef3e854", func := "loop.example/g00953/laws.FnExactBearing", spec := "fnExactBearing", unfollowed := true, recurses := true, apart := false, narrowed := true }
def FnExactBearingUptoSaid : Prop := fnExactBearingUptoRow.holds Try.pinned (OpenSpec.upto fnExactBearingSpec)

/-- 'laws.FnExactNearestOf', WHERE WHAT IT READS IS OF BULK AT MOST 1048576: true; the input reads as it did. -/
def fnExactNearestOfUptoRow : OpenClaim := { program := "ytnmihmjgmanllaa", sum := "14316dff0ca4fcf45f1677fc079090804f3421fb06cd612d76de8a344ef3e854", func := "loop.example/g00953/laws.FnExactNearestOf", spec := "fnExactNearestOf", apart := false, narrowed := true }
def FnExactNearestOfUptoSaid : Prop := fnExactNearestOfUptoRow.holds Try.pinned (OpenSpec.upto fnExactNearestOfSpec)

/-- 'laws.FnExactMove', WHERE WHAT IT READS IS OF BULK AT MOST 1048576: true; the input reads as it did. -/
def fnExactMoveUptoRow : OpenClaim := { program := "ytnmihmjgmanllaa", sum := "14316dff0ca4fcf45f1677fc079090804f3421fb06cd612d76de8a344ef3e854", func := "loop.example/g00953/laws.FnExactMove", spec := "fnExactMove", recurses := true, apart := false, narrowed := true }
def FnExactMoveUptoSaid : Prop := fnExactMoveUptoRow.holds Try.pinned (OpenSpec.upto fnExactMoveSpec)

/-- 'laws.FnExactDistanceToSegment', WHERE WHAT IT READS IS OF BULK AT MOST 1048576: true; the input reads as it did. -/
def fnExactDistanceToSegmentUptoRow : OpenClaim := { program := "ytnmihmjgmanllaa", sum := "14316dff0ca4fcf45f1677fc079090804f3421fb06cd612d76de8a344ef3e854", func := "loop.example/g00953/laws.FnExactDistanceToSegment", spec := "fnExactDistanceToSegment", apart := false, narrowed := true }
def FnExactDistanceToSegmentUptoSaid : Prop := fnExactDistanceToSegmentUptoRow.holds Try.pinned (OpenSpec.upto fnExactDistanceToSegmentSpec)

/-- 'laws.FnExactSineTenths', WHERE WHAT IT READS IS OF BULK AT MOST 1048576: true; the input reads as it did. -/
def fnExactSineTenthsUptoRow : OpenClaim := { program := "ytnmihmjgmanllaa", sum := "14316dff0ca4fcf45f1677fc079090804f3421fb06cd612d76de8a344ef3e854", func := "loop.example/g00953/laws.FnExactSineTenths", spec := "fnExactSineTenths", recurses := true, apart := false, narrowed := true }
def FnExactSineTenthsUptoSaid : Prop := fnExactSineTenthsUptoRow.holds Try.pinned (OpenSpec.upto fnExactSineTenthsSpec)

end Rows
end Go.Proofs.Ytnmihmjgmanllaa
