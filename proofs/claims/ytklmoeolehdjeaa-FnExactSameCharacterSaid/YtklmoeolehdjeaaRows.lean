/-
  No cell of these rows narrows 'for every input' (looked for: loops, veiled, ifaces, maps, wideKeys, modest, calm, conditions, laid).
  DERIVED. THE GIVEN ROWS OF THIS SEAT. 10 by the template 'for every input the law returns true; each argument reads behind the call as it read before'; 0 by the template 'total and deterministic' (their statements: YtklmoeolehdjeaaTotals.lean).
  GIVEN WITH THE SEED: the statements are not yours to turn. If you find one false, say at which input.
  Laid BY PROGRAM, IN A SANDBOX (cutbox-rows.mjs): the forced cells as the released guide's own fill.sh prints them over the translation 49bf285b114eb225… (all of the seat's roots in one cut). By AI agents, Wed Nov 11 2026. No macro, syntax, notation, axiom, sorry.
-/
import Derived.Test.YtklmoeolehdjeaaChecked
import GoSem.Claim
import GoSem.ClaimJoined
import GoSem.ClaimMapViews
import Derived.JoinedTies
import Derived.KernelRfl
namespace Go.Proofs.Ytklmoeolehdjeaa
/- THE CELL 'sum', in the pinned program and in every row, IS THE sha256 OF THE DUMP (.gsa) THAT YtklmoeolehdjeaaProg.lean LOADS. Nothing in Lean hashes anything: it is a label: what it is worth is what the hold of that sum in a sandbox is worth. -/
noncomputable def Try.pinned : Pinned := { name := "ytklmoeolehdjeaa", sum := "49bf285b114eb2254dcfb9ec1c42c5bde39c31da32562983437c324c352da213", checked := Try.checked }
namespace Rows
def none {H : Type} : Left H := { results := [], args := [] }

/-- 'laws.FnExactSamePhases': WHATEVER THE INPUT: true; the input reads as it did. -/
def fnExactSamePhasesSpec : ChangeSpec := { name := "fnExactSamePhases", fn := fun _ => fun
  | [d1, d2] => { results := [.lit (.bool true)], args := [d1, d2] }
  | _ => none }
def fnExactSamePhasesRow : OpenClaim := { program := "ytklmoeolehdjeaa", sum := "49bf285b114eb2254dcfb9ec1c42c5bde39c31da32562983437c324c352da213", func := "loop.example/g00953/laws.FnExactSamePhases", spec := "fnExactSamePhases", apart := false }
def FnExactSamePhasesSaid : Prop := fnExactSamePhasesRow.holds Try.pinned (OpenSpec.ofChange fnExactSamePhasesSpec)

/-- ITS FALSE NEIGHBOUR: 'it returns false'. Refute it at one input. -/
def fnExactSamePhasesWrong : ChangeSpec := { name := "fnExactSamePhases", fn := fun _ => fun
  | [d1, d2] => { results := [.lit (.bool false)], args := [d1, d2] }
  | _ => none }
def FnExactSamePhasesWrongFalsely : Prop := fnExactSamePhasesRow.holds Try.pinned (OpenSpec.ofChange fnExactSamePhasesWrong)

/-- 'laws.FnExactSameCharacter': WHATEVER THE INPUT: true; the input reads as it did. -/
def fnExactSameCharacterSpec : ChangeSpec := { name := "fnExactSameCharacter", fn := fun _ => fun
  | [d1, d2] => { results := [.lit (.bool true)], args := [d1, d2] }
  | _ => none }
def fnExactSameCharacterRow : OpenClaim := { program := "ytklmoeolehdjeaa", sum := "49bf285b114eb2254dcfb9ec1c42c5bde39c31da32562983437c324c352da213", func := "loop.example/g00953/laws.FnExactSameCharacter", spec := "fnExactSameCharacter", apart := false }
def FnExactSameCharacterSaid : Prop := fnExactSameCharacterRow.holds Try.pinned (OpenSpec.ofChange fnExactSameCharacterSpec)

/-- ITS FALSE NEIGHBOUR: 'it returns false'. Refute it at one input. -/
def fnExactSameCharacterWrong : ChangeSpec := { name := "fnExactSameCharacter", fn := fun _ => fun
  | [d1, d2] => { results := [.lit (.bool false)], args := [d1, d2] }
  | _ => none }
def FnExactSameCharacterWrongFalsely : Prop := fnExactSameCharacterRow.holds Try.pinned (OpenSpec.ofChange fnExactSameCharacterWrong)

/-- 'laws.FnExactValidPhases': WHATEVER THE INPUT: true; the input reads as it did. -/
def fnExactValidPhasesSpec : ChangeSpec := { name := "fnExactValidPhases", fn := fun _ => fun
  | [d] => { results := [.lit (.bool true)], args := [d] }
  | _ => none }
def fnExactValidPhasesRow : OpenClaim := { program := "ytklmoeolehdjeaa", sum := "49bf285b114eb2254dcfb9ec1c42c5bde39c31da32562983437c324c352da213", func := "loop.example/g00953/laws.FnExactValidPhases", spec := "fnExactValidPhases", inPlace := ["internal/bytealg.IndexByteString", "internal/bytealg.IndexString"], named := ["internal/bytealg.MaxLen"], apart := false }
def FnExactValidPhasesSaid : Prop := fnExactValidPhasesRow.holds Try.pinned (OpenSpec.ofChange fnExactValidPhasesSpec)

/-- ITS FALSE NEIGHBOUR: 'it returns false'. Refute it at one input. -/
def fnExactValidPhasesWrong : ChangeSpec := { name := "fnExactValidPhases", fn := fun _ => fun
  | [d] => { results := [.lit (.bool false)], args := [d] }
  | _ => none }
def FnExactValidPhasesWrongFalsely : Prop := fnExactValidPhasesRow.holds Try.pinned (OpenSpec.ofChange fnExactValidPhasesWrong)

/-- 'laws.FnExactPatternLength': WHATEVER THE INPUT: true; the input reads as it did. -/
def fnExactPatternLengthSpec : ChangeSpec := { name := "fnExactPatternLength", fn := fun _ => fun
  | [d] => { results := [.lit (.bool true)], args := [d] }
  | _ => none }
def fnExactPatternLengthRow : OpenClaim := { program := "ytklmoeolehdjeaa", sum := "49bf285b114eb2254dcfb9ec1c42c5bde39c31da32562983437c324c352da213", func := "loop.example/g00953/laws.FnExactPatternLength", spec := "fnExactPatternLength", inPlace := ["internal/bytealg.IndexByteString", "internal/bytealg.IndexString"], named := ["internal/bytealg.MaxLen"], apart := false }
def FnExactPatternLengthSaid : Prop := fnExactPatternLengthRow.holds Try.pinned (OpenSpec.ofChange fnExactPatternLengthSpec)

/-- ITS FALSE NEIGHBOUR: 'it returns false'. Refute it at one input. -/
def fnExactPatternLengthWrong : ChangeSpec := { name := "fnExactPatternLength", fn := fun _ => fun
  | [d] => { results := [.lit (.bool false)], args := [d] }
  | _ => none }
def FnExactPatternLengthWrongFalsely : Prop := fnExactPatternLengthRow.holds Try.pinned (OpenSpec.ofChange fnExactPatternLengthWrong)

/-- 'laws.FnExactLightAt': WHATEVER THE INPUT: true; the input reads as it did. -/
def fnExactLightAtSpec : ChangeSpec := { name := "fnExactLightAt", fn := fun _ => fun
  | [d1, d2] => { results := [.lit (.bool true)], args := [d1, d2] }
  | _ => none }
def fnExactLightAtRow : OpenClaim := { program := "ytklmoeolehdjeaa", sum := "49bf285b114eb2254dcfb9ec1c42c5bde39c31da32562983437c324c352da213", func := "loop.example/g00953/laws.FnExactLightAt", spec := "fnExactLightAt", inPlace := ["internal/bytealg.IndexByteString", "internal/bytealg.IndexString"], named := ["internal/bytealg.MaxLen"], apart := false }
def FnExactLightAtSaid : Prop := fnExactLightAtRow.holds Try.pinned (OpenSpec.ofChange fnExactLightAtSpec)

/-- ITS FALSE NEIGHBOUR: 'it returns false'. Refute it at one input. -/
def fnExactLightAtWrong : ChangeSpec := { name := "fnExactLightAt", fn := fun _ => fun
  | [d1, d2] => { results := [.lit (.bool false)], args := [d1, d2] }
  | _ => none }
def FnExactLightAtWrongFalsely : Prop := fnExactLightAtRow.holds Try.pinned (OpenSpec.ofChange fnExactLightAtWrong)

/-- 'laws.FnExactPatternPeriod': WHATEVER THE INPUT: true; the input reads as it did. -/
def fnExactPatternPeriodSpec : ChangeSpec := { name := "fnExactPatternPeriod", fn := fun _ => fun
  | [d] => { results := [.lit (.bool true)], args := [d] }
  | _ => none }
def fnExactPatternPeriodRow : OpenClaim := { program := "ytklmoeolehdjeaa", sum := "49bf285b114eb2254dcfb9ec1c42c5bde39c31da32562983437c324c352da213", func := "loop.example/g00953/laws.FnExactPatternPeriod", spec := "fnExactPatternPeriod", inPlace := ["internal/bytealg.IndexByteString", "internal/bytealg.IndexString"], named := ["internal/bytealg.MaxLen"], apart := false }
def FnExactPatternPeriodSaid : Prop := fnExactPatternPeriodRow.holds Try.pinned (OpenSpec.ofChange fnExactPatternPeriodSpec)

/-- ITS FALSE NEIGHBOUR: 'it returns false'. Refute it at one input. -/
def fnExactPatternPeriodWrong : ChangeSpec := { name := "fnExactPatternPeriod", fn := fun _ => fun
  | [d] => { results := [.lit (.bool false)], args := [d] }
  | _ => none }
def FnExactPatternPeriodWrongFalsely : Prop := fnExactPatternPeriodRow.holds Try.pinned (OpenSpec.ofChange fnExactPatternPeriodWrong)

/-- 'laws.FnExactFlashesIn': WHATEVER THE INPUT: true; the input reads as it did. -/
def fnExactFlashesInSpec : ChangeSpec := { name := "fnExactFlashesIn", fn := fun _ => fun
  | [d] => { results := [.lit (.bool true)], args := [d] }
  | _ => none }
def fnExactFlashesInRow : OpenClaim := { program := "ytklmoeolehdjeaa", sum := "49bf285b114eb2254dcfb9ec1c42c5bde39c31da32562983437c324c352da213", func := "loop.example/g00953/laws.FnExactFlashesIn", spec := "fnExactFlashesIn", inPlace := ["internal/bytealg.IndexByteString", "internal/bytealg.IndexString"], named := ["internal/bytealg.MaxLen"], apart := false }
def FnExactFlashesInSaid : Prop := fnExactFlashesInRow.holds Try.pinned (OpenSpec.ofChange fnExactFlashesInSpec)

/-- ITS FALSE NEIGHBOUR: 'it returns false'. Refute it at one input. -/
def fnExactFlashesInWrong : ChangeSpec := { name := "fnExactFlashesIn", fn := fun _ => fun
  | [d] => { results := [.lit (.bool false)], args := [d] }
  | _ => none }
def FnExactFlashesInWrongFalsely : Prop := fnExactFlashesInRow.holds Try.pinned (OpenSpec.ofChange fnExactFlashesInWrong)

/-- 'laws.FnExactDutyOf': WHATEVER THE INPUT: true; the input reads as it did. -/
def fnExactDutyOfSpec : ChangeSpec := { name := "fnExactDutyOf", fn := fun _ => fun
  | [d] => { results := [.lit (.bool true)], args := [d] }
  | _ => none }
def fnExactDutyOfRow : OpenClaim := { program := "ytklmoeolehdjeaa", sum := "49bf285b114eb2254dcfb9ec1c42c5bde39c31da32562983437c324c352da213", func := "loop.example/g00953/laws.FnExactDutyOf", spec := "fnExactDutyOf", inPlace := ["internal/bytealg.IndexByteString", "internal/bytealg.IndexString"], named := ["internal/bytealg.MaxLen"], apart := false }
def FnExactDutyOfSaid : Prop := fnExactDutyOfRow.holds Try.pinned (OpenSpec.ofChange fnExactDutyOfSpec)

/-- ITS FALSE NEIGHBOUR: 'it returns false'. Refute it at one input. -/
def fnExactDutyOfWrong : ChangeSpec := { name := "fnExactDutyOf", fn := fun _ => fun
  | [d] => { results := [.lit (.bool false)], args := [d] }
  | _ => none }
def FnExactDutyOfWrongFalsely : Prop := fnExactDutyOfRow.holds Try.pinned (OpenSpec.ofChange fnExactDutyOfWrong)

/-- 'laws.FnExactLongestDarkOf': WHATEVER THE INPUT: true; the input reads as it did. -/
def fnExactLongestDarkOfSpec : ChangeSpec := { name := "fnExactLongestDarkOf", fn := fun _ => fun
  | [d] => { results := [.lit (.bool true)], args := [d] }
  | _ => none }
def fnExactLongestDarkOfRow : OpenClaim := { program := "ytklmoeolehdjeaa", sum := "49bf285b114eb2254dcfb9ec1c42c5bde39c31da32562983437c324c352da213", func := "loop.example/g00953/laws.FnExactLongestDarkOf", spec := "fnExactLongestDarkOf", inPlace := ["internal/bytealg.IndexByteString", "internal/bytealg.IndexString"], named := ["internal/bytealg.MaxLen"], apart := false }
def FnExactLongestDarkOfSaid : Prop := fnExactLongestDarkOfRow.holds Try.pinned (OpenSpec.ofChange fnExactLongestDarkOfSpec)

/-- ITS FALSE NEIGHBOUR: 'it returns false'. Refute it at one input. -/
def fnExactLongestDarkOfWrong : ChangeSpec := { name := "fnExactLongestDarkOf", fn := fun _ => fun
  | [d] => { results := [.lit (.bool false)], args := [d] }
  | _ => none }
def FnExactLongestDarkOfWrongFalsely : Prop := fnExactLongestDarkOfRow.holds Try.pinned (OpenSpec.ofChange fnExactLongestDarkOfWrong)

/-- 'laws.FnExactShiftPhases': WHATEVER THE INPUT: true; the input reads as it did. -/
def fnExactShiftPhasesSpec : ChangeSpec := { name := "fnExactShiftPhases", fn := fun _ => fun
  | [d1, d2] => { results := [.lit (.bool true)], args := [d1, d2] }
  | _ => none }
def fnExactShiftPhasesRow : OpenClaim := { program := "ytklmoeolehdjeaa", sum := "49bf285b114eb2254dcfb9ec1c42c5bde39c31da32562983437c324c352da213", func := "loop.example/g00953/laws.FnExactShiftPhases", spec := "fnExactShiftPhases", inPlace := ["internal/bytealg.IndexByteString", "internal/bytealg.IndexString"], named := ["internal/bytealg.MaxLen"], apart := false }
def FnExactShiftPhasesSaid : Prop := fnExactShiftPhasesRow.holds Try.pinned (OpenSpec.ofChange fnExactShiftPhasesSpec)

/-- ITS FALSE NEIGHBOUR: 'it returns false'. Refute it at one input. -/
def fnExactShiftPhasesWrong : ChangeSpec := { name := "fnExactShiftPhases", fn := fun _ => fun
  | [d1, d2] => { results := [.lit (.bool false)], args := [d1, d2] }
  | _ => none }
def FnExactShiftPhasesWrongFalsely : Prop := fnExactShiftPhasesRow.holds Try.pinned (OpenSpec.ofChange fnExactShiftPhasesWrong)

/- THE SECOND FORM. 'bulk': how many values and letters a reading holds, each counted each time it is reached (what is shared counts as often as it is met; a slice's spare places count too). A statement '..UptoSaid' is the law's where the arguments, and the package variables that the reading takes, are together of bulk at most 1048576: NARROWER than '..Said'. Prove '..Said' where nothing that the law and all that it calls make is longer than what came in: it says more and counts as full. Else prove '..UptoSaid'. A law counts once. -/
mutual
def uptoBulk {H : Type} : DataW H → Nat
  | .lit (.string bytes) => bytes.length + 1
  | .lit _ => 1
  | .nil => 1
  | .ptr d => uptoBulk d + 1
  | .slice elems spare => uptoBulkAll elems + uptoBulkAll spare + 1
  | .agg parts => uptoBulkAll parts + 1
  | .iface _ d => uptoBulk d + 1
  | .map entries => uptoBulkEntries entries + 1
  | .held _ => 1
def uptoBulkAll {H : Type} : List (DataW H) → Nat
  | [] => 0
  | d :: r => uptoBulk d + uptoBulkAll r
def uptoBulkEntries {H : Type} : List (Lit × DataW H) → Nat
  | [] => 0
  | x :: r => uptoBulkEntry x + uptoBulkEntries r
def uptoBulkEntry {H : Type} : Lit × DataW H → Nat
  | (.string bytes, d) => bytes.length + uptoBulk d + 1
  | (_, d) => uptoBulk d + 1
 end
def uptoSmall : (H : Type) → List (DataW H) → Bool := fun _ ds => decide (uptoBulkAll ds ≤ 1048576)
def OpenSpec.upto (s : _root_.Go.ChangeSpec) : _root_.Go.OpenSpec := { _root_.Go.OpenSpec.ofChange s with cond := some uptoSmall }

/-- 'laws.FnExactSamePhases', WHERE WHAT IT READS IS OF BULK AT MOST 1048576: true; the input reads as it did. -/
def fnExactSamePhasesUptoRow : OpenClaim := { program := "ytklmoeolehdjeaa", sum := "49bf285b114eb2254dcfb9ec1c42c5bde39c31da32562983437c324c352da213", func := "loop.example/g00953/laws.FnExactSamePhases", spec := "fnExactSamePhases", apart := false, narrowed := true }
def FnExactSamePhasesUptoSaid : Prop := fnExactSamePhasesUptoRow.holds Try.pinned (OpenSpec.upto fnExactSamePhasesSpec)

/-- 'laws.FnExactSameCharacter', WHERE WHAT IT READS IS OF BULK AT MOST 1048576: true; the input reads as it did. -/
def fnExactSameCharacterUptoRow : OpenClaim := { program := "ytklmoeolehdjeaa", sum := "49bf285b114eb2254dcfb9ec1c42c5bde39c31da32562983437c324c352da213", func := "loop.example/g00953/laws.FnExactSameCharacter", spec := "fnExactSameCharacter", apart := false, narrowed := true }
def FnExactSameCharacterUptoSaid : Prop := fnExactSameCharacterUptoRow.holds Try.pinned (OpenSpec.upto fnExactSameCharacterSpec)

/-- 'laws.FnExactValidPhases', WHERE WHAT IT READS IS OF BULK AT MOST 1048576: true; the input reads as it did. -/
def fnExactValidPhasesUptoRow : OpenClaim := { program := "ytklmoeolehdjeaa", sum := "49bf285b114eb2254dcfb9ec1c42c5bde39c31da32562983437c324c352da213", func := "loop.example/g00953/laws.FnExactValidPhases", spec := "fnExactValidPhases", inPlace := ["internal/bytealg.IndexByteString", "internal/bytealg.IndexString"], named := ["internal/bytealg.MaxLen"], apart := false, narrowed := true }
def FnExactValidPhasesUptoSaid : Prop := fnExactValidPhasesUptoRow.holds Try.pinned (OpenSpec.upto fnExactValidPhasesSpec)

/-- 'laws.FnExactPatternLength', WHERE WHAT IT READS IS OF BULK AT MOST 1048576: true; the input reads as it did. -/
def fnExactPatternLengthUptoRow : OpenClaim := { program := "ytklmoeolehdjeaa", sum := "49bf285b114eb2254dcfb9ec1c42c5bde39c31da32562983437c324c352da213", func := "loop.example/g00953/laws.FnExactPatternLength", spec := "fnExactPatternLength", inPlace := ["internal/bytealg.IndexByteString", "internal/bytealg.IndexString"], named := ["internal/bytealg.MaxLen"], apart := false, narrowed := true }
def FnExactPatternLengthUptoSaid : Prop := fnExactPatternLengthUptoRow.holds Try.pinned (OpenSpec.upto fnExactPatternLengthSpec)

/-- 'laws.FnExactLightAt', WHERE WHAT IT READS IS OF BULK AT MOST 1048576: true; the input reads as it did. -/
def fnExactLightAtUptoRow : OpenClaim := { program := "ytklmoeolehdjeaa", sum := "49bf285b114eb2254dcfb9ec1c42c5bde39c31da32562983437c324c352da213", func := "loop.example/g00953/laws.FnExactLightAt", spec := "fnExactLightAt", inPlace := ["internal/bytealg.IndexByteString", "internal/bytealg.IndexString"], named := ["internal/bytealg.MaxLen"], apart := false, narrowed := true }
def FnExactLightAtUptoSaid : Prop := fnExactLightAtUptoRow.holds Try.pinned (OpenSpec.upto fnExactLightAtSpec)

/-- 'laws.FnExactPatternPeriod', WHERE WHAT IT READS IS OF BULK AT MOST 1048576: true; the input reads as it did. -/
def fnExactPatternPeriodUptoRow : OpenClaim := { program := "ytklmoeolehdjeaa", sum := "49bf285b114eb2254dcfb9ec1c42c5bde39c31da32562983437c324c352da213", func := "loop.example/g00953/laws.FnExactPatternPeriod", spec := "fnExactPatternPeriod", inPlace := ["internal/bytealg.IndexByteString", "internal/bytealg.IndexString"], named := ["internal/bytealg.MaxLen"], apart := false, narrowed := true }
def FnExactPatternPeriodUptoSaid : Prop := fnExactPatternPeriodUptoRow.holds Try.pinned (OpenSpec.upto fnExactPatternPeriodSpec)

/-- 'laws.FnExactFlashesIn', WHERE WHAT IT READS IS OF BULK AT MOST 1048576: true; the input reads as it did. -/
def fnExactFlashesInUptoRow : OpenClaim := { program := "ytklmoeolehdjeaa", sum := "49bf285b114eb2254dcfb9ec1c42c5bde39c31da32562983437c324c352da213", func := "loop.example/g00953/laws.FnExactFlashesIn", spec := "fnExactFlashesIn", inPlace := ["internal/bytealg.IndexByteString", "internal/bytealg.IndexString"], named := ["internal/bytealg.MaxLen"], apart := false, narrowed := true }
def FnExactFlashesInUptoSaid : Prop := fnExactFlashesInUptoRow.holds Try.pinned (OpenSpec.upto fnExactFlashesInSpec)

/-- 'laws.FnExactDutyOf', WHERE WHAT IT READS IS OF BULK AT MOST 1048576: true; the input reads as it did. -/
def fnExactDutyOfUptoRow : OpenClaim := { program := "ytklmoeolehdjeaa", sum := "49bf285b114eb2254dcfb9ec1c42c5bde39c31da32562983437c324c352da213", func := "loop.example/g00953/laws.FnExactDutyOf", spec := "fnExactDutyOf", inPlace := ["internal/bytealg.IndexByteString", "internal/bytealg.IndexString"], named := ["internal/bytealg.MaxLen"], apart := false, narrowed := true }
def FnExactDutyOfUptoSaid : Prop := fnExactDutyOfUptoRow.holds Try.pinned (OpenSpec.upto fnExactDutyOfSpec)

/-- 'laws.FnExactLongestDarkOf', WHERE WHAT IT READS IS OF BULK AT MOST 1048576: true; the input reads as it did. -/
def fnExactLongestDarkOfUptoRow : OpenClaim := { program := "ytklmoeolehdjeaa", sum := "49bf285b114eb2254dcfb9ec1c42c5bde39c31da32562983437c324c352da213", func := "loop.example/g00953/laws.FnExactLongestDarkOf", spec := "fnExactLongestDarkOf", inPlace := ["internal/bytealg.IndexByteString", "internal/bytealg.IndexString"], named := ["internal/bytealg.MaxLen"], apart := false, narrowed := true }
def FnExactLongestDarkOfUptoSaid : Prop := fnExactLongestDarkOfUptoRow.holds Try.pinned (OpenSpec.upto fnExactLongestDarkOfSpec)

/-- 'laws.FnExactShiftPhases', WHERE WHAT IT READS IS OF BULK AT MOST 1048576: true; the input reads as it did. -/
def fnExactShiftPhasesUptoRow : OpenClaim := { program := "ytklmoeolehdjeaa", sum := "49bf285b114eb2254dcfb9ec1c42c5bde39c31da32562983437c324c352da213", func := "loop.example/g00953/laws.FnExactShiftPhases", spec := "fnExactShiftPhases", inPlace := ["internal/bytealg.IndexByteString", "internal/bytealg.IndexString"], named := ["internal/bytealg.MaxLen"], apart := false, narrowed := true }
def FnExactShiftPhasesUptoSaid : Prop := fnExactShiftPhasesUptoRow.holds Try.pinned (OpenSpec.upto fnExactShiftPhasesSpec)

end Rows
end Go.Proofs.Ytklmoeolehdjeaa
