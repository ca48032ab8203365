--%!
/- The walk of the law on the longest dark of phases that the seat has: it returns true. Own work. -/
import Derived.Test.YtklmoeolehdjeaaPhDark
import Derived.Test.YtklmoeolehdjeaaPhLaws
namespace Go.Proofs.Ytklmoeolehdjeaa
open Go.ChangeShapes Go.WideShapes Go.ChangeAt Go.RowKit
set_option linter.unusedVariables false
set_option maxRecDepth 100000
set_option maxHeartbeats 1000000
theorem fnExactLongestDarkOf_walk (A0 : Option Addr) (n0 c0 : Nat) (ps0 : List (ByteArray × Int)) (hn0 : ps0.length = n0) (hm0 : n0 ≤ maxLen) (hf0 : PhFit ps0) (w : World) (hp0 : PhRd w w.heap.size A0 ps0) :
    Calls Try.prog 11 #[.slice A0 n0 c0] w fun e w' => e = .returned (.bool true) ∧ Below w.heap.size w w' := by
  have HN0 := hide hn0
  have HF0 := hide hf0
  have HR0 := hide hp0
  clear hn0 hf0 hp0
  go_enter Try.func11, Try.ntmps11
  go_wp2_with fail
  refine (szPhases A0 n0 c0 ps0 HN0.out hm0 HF0.out _ (by omega) (by omega) _ HR0.out).mono ?_
  rintro e w1 ⟨r0, rfl, hr1, hb1⟩
  have hB1 := hb1
  clear hb1
  by_cases h0_0 : r0 < 0
  · go_wp2_with fail
    go_ret
    exact ⟨rfl, hB1⟩
  · have hs0 : n0 ≤ 1048576 := by omega
    have hr0' : 0 ≤ r0 ∧ r0 ≤ 1048576 := by omega
    clear hr1
    go_wp2_with fail
    refine (toPhases A0 n0 c0 ps0 HN0.out hs0 _ ((HR0.out.below hB1).more hB1.size)).mono ?_
    rintro e w2 ⟨g2, rfl, hg2, hl2, hp2, -, hb2⟩
    have hB2 := below_next (w0 := w) hb2 hB1
    have H2_g2 := hide hp2
    clear hb2 hB1 hp2 hg2
    go_wp2_with fail
    refine (darkOfS_b _ g2 n0 n0 ps0 HN0.out hs0 HF0.out H2_g2.out hl2).mono ?_
    rintro e w3 ⟨rfl, hb3⟩
    have H3_g2 := hide (H2_g2.out.below hb3 hl2)
    have L3_g2 := Nat.lt_of_lt_of_le hl2 hb3.size
    have hB3 := below_next (w0 := w) hb3 hB2
    clear hb3 H2_g2 hl2 hB2
    clear H3_g2 L3_g2
    go_wp2_with fail
    refine (toPhases A0 n0 c0 ps0 HN0.out hs0 _ ((HR0.out.below hB3).more hB3.size)).mono ?_
    rintro e w4 ⟨g4, rfl, hg4, hl4, hp4, -, hb4⟩
    have hB4 := below_next (w0 := w) hb4 hB3
    have H4_g4 := hide hp4
    clear hb4 hB3 hp4 hg4
    go_wp2_with fail
    refine (darkOfI_b _ g4 n0 n0 ps0 HN0.out hs0 HF0.out H4_g4.out hl4).mono ?_
    rintro e w5 ⟨rfl, hb5⟩
    have H5_g4 := hide (H4_g4.out.below hb5 hl4)
    have L5_g4 := Nat.lt_of_lt_of_le hl4 hb5.size
    have hB5 := below_next (w0 := w) hb5 hB4
    clear hb5 H4_g4 hl4 hB4
    go_wp2_with fail
    refine (toPhases A0 n0 c0 ps0 HN0.out hs0 _ ((HR0.out.below hB5).more hB5.size)).mono ?_
    rintro e w6 ⟨g6, rfl, hg6, hl6, hp6, -, hb6⟩
    have H6_g4 := hide (H5_g4.out.below hb6 L5_g4)
    have L6_g4 := Nat.lt_of_lt_of_le L5_g4 hb6.size
    have hB6 := below_next (w0 := w) hb6 hB5
    have H6_g6 := hide hp6
    clear hb6 H5_g4 L5_g4 hB5 hp6 hg6
    go_wp2_with fail
    refine (eqPhasesSelf g4 g6 n0 n0 n0 ps0 HN0.out hs0 _ H6_g4.out H6_g6.out L6_g4 hl6).mono ?_
    rintro e w7 ⟨rfl, hb7⟩
    have H7_g4 := hide (H6_g4.out.below hb7 L6_g4)
    have L7_g4 := Nat.lt_of_lt_of_le L6_g4 hb7.size
    have H7_g6 := hide (H6_g6.out.below hb7 hl6)
    have L7_g6 := Nat.lt_of_lt_of_le hl6 hb7.size
    have hB7 := below_next (w0 := w) hb7 hB6
    clear hb7 H6_g4 L6_g4 H6_g6 hl6 hB6
    go_wp2_with fail
    go_ret
    exact ⟨rfl, hB7⟩
end Go.Proofs.Ytklmoeolehdjeaa
