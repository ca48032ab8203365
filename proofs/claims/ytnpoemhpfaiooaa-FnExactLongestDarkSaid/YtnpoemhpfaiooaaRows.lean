/-
  No cell of these rows narrows 'for every input' (looked for: loops, veiled, ifaces, maps, wideKeys, modest, calm, conditions, laid).
  DERIVED. THE GIVEN ROWS OF THIS SEAT. 8 by the template 'for every input the law returns true; each argument reads behind the call as it read before'; 0 by the template 'total and deterministic' (their statements: YtnpoemhpfaiooaaTotals.lean).
  GIVEN WITH THE SEED: the statements are not yours to turn. If you find one false, say at which input.
  Laid BY PROGRAM, IN A SANDBOX (cutbox-rows.mjs): the forced cells as the released guide's own fill.sh prints them over the translation efc8f2a4929d08db… (all of the seat's roots in one cut). By AI agents, Wed Nov 11 2026. No macro, syntax, notation, axiom, sorry.
-/
import Derived.Test.YtnpoemhpfaiooaaChecked
import GoSem.Claim
import GoSem.ClaimJoined
import GoSem.ClaimMapViews
import Derived.JoinedTies
import Derived.KernelRfl
namespace Go.Proofs.Ytnpoemhpfaiooaa
/- THE CELL 'sum', in the pinned program and in every row, IS THE sha256 OF THE DUMP (.gsa) THAT YtnpoemhpfaiooaaProg.lean LOADS. Nothing in Lean hashes anything: it is a label: what it is worth is what the hold of that sum in a sandbox is worth. -/
noncomputable def Try.pinned : Pinned := { name := "ytnpoemhpfaiooaa", sum := "efc8f2a4929d08db1265299f678eefe5363fffa17cfd5ab411ed8f227b94e4b6", checked := Try.checked }
namespace Rows
def none {H : Type} : Left H := { results := [], args := [] }

/-- 'laws.FnExactDeclinationOf': WHATEVER THE INPUT: true; the input reads as it did. -/
def fnExactDeclinationOfSpec : ChangeSpec := { name := "fnExactDeclinationOf", fn := fun _ => fun
  | [d] => { results := [.lit (.bool true)], args := [d] }
  | _ => none }
def fnExactDeclinationOfRow : OpenClaim := { program := "ytnpoemhpfaiooaa", sum := "efc8f2a4929d08db1265299f678eefe5363fffa17cfd5ab411ed8f227b94e4b6", func := "loop.example/g00953/laws.FnExactDeclinationOf", spec := "fnExactDeclinationOf", recurses := true, apart := false }
def FnExactDeclinationOfSaid : Prop := fnExactDeclinationOfRow.holds Try.pinned (OpenSpec.ofChange fnExactDeclinationOfSpec)

/-- ITS FALSE NEIGHBOUR: 'it returns false'. Refute it at one input. -/
def fnExactDeclinationOfWrong : ChangeSpec := { name := "fnExactDeclinationOf", fn := fun _ => fun
  | [d] => { results := [.lit (.bool false)], args := [d] }
  | _ => none }
def FnExactDeclinationOfWrongFalsely : Prop := fnExactDeclinationOfRow.holds Try.pinned (OpenSpec.ofChange fnExactDeclinationOfWrong)

/-- 'laws.FnExactSunSine': WHATEVER THE INPUT: true; the input reads as it did. -/
def fnExactSunSineSpec : ChangeSpec := { name := "fnExactSunSine", fn := fun _ => fun
  | [d1, d2, d3] => { results := [.lit (.bool true)], args := [d1, d2, d3] }
  | _ => none }
def fnExactSunSineRow : OpenClaim := { program := "ytnpoemhpfaiooaa", sum := "efc8f2a4929d08db1265299f678eefe5363fffa17cfd5ab411ed8f227b94e4b6", func := "loop.example/g00953/laws.FnExactSunSine", spec := "fnExactSunSine", recurses := true, apart := false }
def FnExactSunSineSaid : Prop := fnExactSunSineRow.holds Try.pinned (OpenSpec.ofChange fnExactSunSineSpec)

/-- ITS FALSE NEIGHBOUR: 'it returns false'. Refute it at one input. -/
def fnExactSunSineWrong : ChangeSpec := { name := "fnExactSunSine", fn := fun _ => fun
  | [d1, d2, d3] => { results := [.lit (.bool false)], args := [d1, d2, d3] }
  | _ => none }
def FnExactSunSineWrongFalsely : Prop := fnExactSunSineRow.holds Try.pinned (OpenSpec.ofChange fnExactSunSineWrong)

/-- 'laws.FnExactLightKind': WHATEVER THE INPUT: true; the input reads as it did. -/
def fnExactLightKindSpec : ChangeSpec := { name := "fnExactLightKind", fn := fun _ => fun
  | [d1, d2, d3] => { results := [.lit (.bool true)], args := [d1, d2, d3] }
  | _ => none }
def fnExactLightKindRow : OpenClaim := { program := "ytnpoemhpfaiooaa", sum := "efc8f2a4929d08db1265299f678eefe5363fffa17cfd5ab411ed8f227b94e4b6", func := "loop.example/g00953/laws.FnExactLightKind", spec := "fnExactLightKind", recurses := true, apart := false }
def FnExactLightKindSaid : Prop := fnExactLightKindRow.holds Try.pinned (OpenSpec.ofChange fnExactLightKindSpec)

/-- ITS FALSE NEIGHBOUR: 'it returns false'. Refute it at one input. -/
def fnExactLightKindWrong : ChangeSpec := { name := "fnExactLightKind", fn := fun _ => fun
  | [d1, d2, d3] => { results := [.lit (.bool false)], args := [d1, d2, d3] }
  | _ => none }
def FnExactLightKindWrongFalsely : Prop := fnExactLightKindRow.holds Try.pinned (OpenSpec.ofChange fnExactLightKindWrong)

/-- 'laws.FnExactSunrise': WHATEVER THE INPUT: true; the input reads as it did. -/
def fnExactSunriseSpec : ChangeSpec := { name := "fnExactSunrise", fn := fun _ => fun
  | [d1, d2] => { results := [.lit (.bool true)], args := [d1, d2] }
  | _ => none }
def fnExactSunriseRow : OpenClaim := { program := "ytnpoemhpfaiooaa", sum := "efc8f2a4929d08db1265299f678eefe5363fffa17cfd5ab411ed8f227b94e4b6", func := "loop.example/g00953/laws.FnExactSunrise", spec := "fnExactSunrise", recurses := true, apart := false }
def FnExactSunriseSaid : Prop := fnExactSunriseRow.holds Try.pinned (OpenSpec.ofChange fnExactSunriseSpec)

/-- ITS FALSE NEIGHBOUR: 'it returns false'. Refute it at one input. -/
def fnExactSunriseWrong : ChangeSpec := { name := "fnExactSunrise", fn := fun _ => fun
  | [d1, d2] => { results := [.lit (.bool false)], args := [d1, d2] }
  | _ => none }
def FnExactSunriseWrongFalsely : Prop := fnExactSunriseRow.holds Try.pinned (OpenSpec.ofChange fnExactSunriseWrong)

/-- 'laws.FnExactSunset': WHATEVER THE INPUT: true; the input reads as it did. -/
def fnExactSunsetSpec : ChangeSpec := { name := "fnExactSunset", fn := fun _ => fun
  | [d1, d2] => { results := [.lit (.bool true)], args := [d1, d2] }
  | _ => none }
def fnExactSunsetRow : OpenClaim := { program := "ytnpoemhpfaiooaa", sum := "efc8f2a4929d08db1265299f678eefe5363fffa17cfd5ab411ed8f227b94e4b6", func := "loop.example/g00953/laws.FnExactSunset", spec := "fnExactSunset", recurses := true, apart := false }
def FnExactSunsetSaid : Prop := fnExactSunsetRow.holds Try.pinned (OpenSpec.ofChange fnExactSunsetSpec)

/-- ITS FALSE NEIGHBOUR: 'it returns false'. Refute it at one input. -/
def fnExactSunsetWrong : ChangeSpec := { name := "fnExactSunset", fn := fun _ => fun
  | [d1, d2] => { results := [.lit (.bool false)], args := [d1, d2] }
  | _ => none }
def FnExactSunsetWrongFalsely : Prop := fnExactSunsetRow.holds Try.pinned (OpenSpec.ofChange fnExactSunsetWrong)

/-- 'laws.FnExactDarkMinutes': WHATEVER THE INPUT: true; the input reads as it did. -/
def fnExactDarkMinutesSpec : ChangeSpec := { name := "fnExactDarkMinutes", fn := fun _ => fun
  | [d1, d2] => { results := [.lit (.bool true)], args := [d1, d2] }
  | _ => none }
def fnExactDarkMinutesRow : OpenClaim := { program := "ytnpoemhpfaiooaa", sum := "efc8f2a4929d08db1265299f678eefe5363fffa17cfd5ab411ed8f227b94e4b6", func := "loop.example/g00953/laws.FnExactDarkMinutes", spec := "fnExactDarkMinutes", recurses := true, apart := false }
def FnExactDarkMinutesSaid : Prop := fnExactDarkMinutesRow.holds Try.pinned (OpenSpec.ofChange fnExactDarkMinutesSpec)

/-- ITS FALSE NEIGHBOUR: 'it returns false'. Refute it at one input. -/
def fnExactDarkMinutesWrong : ChangeSpec := { name := "fnExactDarkMinutes", fn := fun _ => fun
  | [d1, d2] => { results := [.lit (.bool false)], args := [d1, d2] }
  | _ => none }
def FnExactDarkMinutesWrongFalsely : Prop := fnExactDarkMinutesRow.holds Try.pinned (OpenSpec.ofChange fnExactDarkMinutesWrong)

/-- 'laws.FnExactLongestDark': WHATEVER THE INPUT: true; the input reads as it did. -/
def fnExactLongestDarkSpec : ChangeSpec := { name := "fnExactLongestDark", fn := fun _ => fun
  | [d1, d2, d3] => { results := [.lit (.bool true)], args := [d1, d2, d3] }
  | _ => none }
def fnExactLongestDarkRow : OpenClaim := { program := "ytnpoemhpfaiooaa", sum := "efc8f2a4929d08db1265299f678eefe5363fffa17cfd5ab411ed8f227b94e4b6", func := "loop.example/g00953/laws.FnExactLongestDark", spec := "fnExactLongestDark", recurses := true, apart := false }
def FnExactLongestDarkSaid : Prop := fnExactLongestDarkRow.holds Try.pinned (OpenSpec.ofChange fnExactLongestDarkSpec)

/-- ITS FALSE NEIGHBOUR: 'it returns false'. Refute it at one input. -/
def fnExactLongestDarkWrong : ChangeSpec := { name := "fnExactLongestDark", fn := fun _ => fun
  | [d1, d2, d3] => { results := [.lit (.bool false)], args := [d1, d2, d3] }
  | _ => none }
def FnExactLongestDarkWrongFalsely : Prop := fnExactLongestDarkRow.holds Try.pinned (OpenSpec.ofChange fnExactLongestDarkWrong)

/-- 'laws.FnExactDarkSum': WHATEVER THE INPUT: true; the input reads as it did. -/
def fnExactDarkSumSpec : ChangeSpec := { name := "fnExactDarkSum", fn := fun _ => fun
  | [d1, d2, d3] => { results := [.lit (.bool true)], args := [d1, d2, d3] }
  | _ => none }
def fnExactDarkSumRow : OpenClaim := { program := "ytnpoemhpfaiooaa", sum := "efc8f2a4929d08db1265299f678eefe5363fffa17cfd5ab411ed8f227b94e4b6", func := "loop.example/g00953/laws.FnExactDarkSum", spec := "fnExactDarkSum", recurses := true, apart := false }
def FnExactDarkSumSaid : Prop := fnExactDarkSumRow.holds Try.pinned (OpenSpec.ofChange fnExactDarkSumSpec)

/-- ITS FALSE NEIGHBOUR: 'it returns false'. Refute it at one input. -/
def fnExactDarkSumWrong : ChangeSpec := { name := "fnExactDarkSum", fn := fun _ => fun
  | [d1, d2, d3] => { results := [.lit (.bool false)], args := [d1, d2, d3] }
  | _ => none }
def FnExactDarkSumWrongFalsely : Prop := fnExactDarkSumRow.holds Try.pinned (OpenSpec.ofChange fnExactDarkSumWrong)

/- THE SECOND FORM. 'bulk': how many values and letters a reading holds, each counted each time it is reached (what is shared counts as often as it is met; a slice's spare places count too). A statement '..UptoSaid' is the law's where the arguments, and the package variables that the reading takes, are together of bulk at most 1048576: NARROWER than '..Said'. Prove '..Said' where nothing that the law and all that it calls make is longer than what came in: it says more and counts as full. Else prove '..UptoSaid'. A law counts once. -/
mutual
def uptoBulk {H : Type} : DataW H → Nat
  | .lit (.string bytes) => bytes.length + 1
  | .lit _ => 1
  | .nil => 1
  | .ptr d => uptoBulk d + 1
  | .slice elems spare => uptoBulkAll elems + uptoBulkAll spare + 1
  | .agg parts => uptoBulkAll parts + 1
  | .iface _ d => uptoBulk d + 1
  | .map entries => uptoBulkEntries entries + 1
  | .held _ => 1
def uptoBulkAll {H : Type} : List (DataW H) → Nat
  | [] => 0
  | d :: r => uptoBulk d + uptoBulkAll r
def uptoBulkEntries {H : Type} : List (Lit × DataW H) → Nat
  | [] => 0
  | x :: r => uptoBulkEntry x + uptoBulkEntries r
def uptoBulkEntry {H : Type} : Lit × DataW H → Nat
  | (.string bytes, d) => bytes.length + uptoBulk d + 1
  | (_, d) => uptoBulk d + 1
 end
def uptoSmall : (H : Type) → List (DataW H) → Bool := fun _ ds => decide (uptoBulkAll ds ≤ 1048576)
def OpenSpec.upto (s : _root_.Go.ChangeSpec) : _root_.Go.OpenSpec := { _root_.Go.OpenSpec.ofChange s with cond := some uptoSmall }

/-- 'laws.FnExactDeclinationOf', WHERE WHAT IT READS IS OF BULK AT MOST 1048576: true; the input reads as it did. -/
def fnExactDeclinationOfUptoRow : OpenClaim := { program := "ytnpoemhpfaiooaa", sum := "efc8f2a4929d08db1265299f678eefe5363fffa17cfd5ab411ed8f227b94e4b6", func := "loop.example/g00953/laws.FnExactDeclinationOf", spec := "fnExactDeclinationOf", recurses := true, apart := false, narrowed := true }
def FnExactDeclinationOfUptoSaid : Prop := fnExactDeclinationOfUptoRow.holds Try.pinned (OpenSpec.upto fnExactDeclinationOfSpec)

/-- 'laws.FnExactSunSine', WHERE WHAT IT READS IS OF BULK AT MOST 1048576: true; the input reads as it did. -/
def fnExactSunSineUptoRow : OpenClaim := { program := "ytnpoemhpfaiooaa", sum := "efc8f2a4929d08db1265299f678eefe5363fffa17cfd5ab411ed8f227b94e4b6", func := "loop.example/g00953/laws.FnExactSunSine", spec := "fnExactSunSine", recurses := true, apart := false, narrowed := true }
def FnExactSunSineUptoSaid : Prop := fnExactSunSineUptoRow.holds Try.pinned (OpenSpec.upto fnExactSunSineSpec)

/-- 'laws.FnExactLightKind', WHERE WHAT IT READS IS OF BULK AT MOST 1048576: true; the input reads as it did. -/
def fnExactLightKindUptoRow : OpenClaim := { program := "ytnpoemhpfaiooaa", sum := "efc8f2a4929d08db1265299f678eefe5363fffa17cfd5ab411ed8f227b94e4b6", func := "loop.example/g00953/laws.FnExactLightKind", spec := "fnExactLightKind", recurses := true, apart := false, narrowed := true }
def FnExactLightKindUptoSaid : Prop := fnExactLightKindUptoRow.holds Try.pinned (OpenSpec.upto fnExactLightKindSpec)

/-- 'laws.FnExactSunrise', WHERE WHAT IT READS IS OF BULK AT MOST 1048576: true; the input reads as it did. -/
def fnExactSunriseUptoRow : OpenClaim := { program := "ytnpoemhpfaiooaa", sum := "efc8f2a4929d08db1265299f678eefe5363fffa17cfd5ab411ed8f227b94e4b6", func := "loop.example/g00953/laws.FnExactSunrise", spec := "fnExactSunrise", recurses := true, apart := false, narrowed := true }
def FnExactSunriseUptoSaid : Prop := fnExactSunriseUptoRow.holds Try.pinned (OpenSpec.upto fnExactSunriseSpec)

/-- 'laws.FnExactSunset', WHERE WHAT IT READS IS OF BULK AT MOST 1048576: true; the input reads as it did. -/
def fnExactSunsetUptoRow : OpenClaim := { program := "ytnpoemhpfaiooaa", sum := "efc8f2a4929d08db1265299f678eefe5363fffa17cfd5ab411ed8f227b94e4b6", func := "loop.example/g00953/laws.FnExactSunset", spec := "fnExactSunset", recurses := true, apart := false, narrowed := true }
def FnExactSunsetUptoSaid : Prop := fnExactSunsetUptoRow.holds Try.pinned (OpenSpec.upto fnExactSunsetSpec)

/-- 'laws.FnExactDarkMinutes', WHERE WHAT IT READS IS OF BULK AT MOST 1048576: true; the input reads as it did. -/
def fnExactDarkMinutesUptoRow : OpenClaim := { program := "ytnpoemhpfaiooaa", sum := "efc8f2a4929d08db1265299f678eefe5363fffa17cfd5ab411ed8f227b94e4b6", func := "loop.example/g00953/laws.FnExactDarkMinutes", spec := "fnExactDarkMinutes", recurses := true, apart := false, narrowed := true }
def FnExactDarkMinutesUptoSaid : Prop := fnExactDarkMinutesUptoRow.holds Try.pinned (OpenSpec.upto fnExactDarkMinutesSpec)

/-- 'laws.FnExactLongestDark', WHERE WHAT IT READS IS OF BULK AT MOST 1048576: true; the input reads as it did. -/
def fnExactLongestDarkUptoRow : OpenClaim := { program := "ytnpoemhpfaiooaa", sum := "efc8f2a4929d08db1265299f678eefe5363fffa17cfd5ab411ed8f227b94e4b6", func := "loop.example/g00953/laws.FnExactLongestDark", spec := "fnExactLongestDark", recurses := true, apart := false, narrowed := true }
def FnExactLongestDarkUptoSaid : Prop := fnExactLongestDarkUptoRow.holds Try.pinned (OpenSpec.upto fnExactLongestDarkSpec)

/-- 'laws.FnExactDarkSum', WHERE WHAT IT READS IS OF BULK AT MOST 1048576: true; the input reads as it did. -/
def fnExactDarkSumUptoRow : OpenClaim := { program := "ytnpoemhpfaiooaa", sum := "efc8f2a4929d08db1265299f678eefe5363fffa17cfd5ab411ed8f227b94e4b6", func := "loop.example/g00953/laws.FnExactDarkSum", spec := "fnExactDarkSum", recurses := true, apart := false, narrowed := true }
def FnExactDarkSumUptoSaid : Prop := fnExactDarkSumUptoRow.holds Try.pinned (OpenSpec.upto fnExactDarkSumSpec)

end Rows
end Go.Proofs.Ytnpoemhpfaiooaa
