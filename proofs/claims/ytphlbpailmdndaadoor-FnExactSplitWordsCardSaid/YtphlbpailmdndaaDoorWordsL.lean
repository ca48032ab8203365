--%!
/- The walk of the law on the words of a text. Own work. -/
import Derived.Test.YtphlbpailmdndaaDoorWords2
namespace Go.Proofs.YtphlbpailmdndaaDoor
open Go.ChangeShapes Go.WideShapes Go.ChangeAt Go.RowKit
set_option linter.unusedVariables false
set_option maxRecDepth 100000
set_option maxHeartbeats 1000000
theorem wdP_len (s : ByteArray) (hs : s.size ≤ 1048576) : (wdP s).length ≤ 1048577 := Nat.le_trans (List.length_filter_le _ _) (by have := splB_len 32 s; omega)
theorem fnExactSplitWords_walk (s : ByteArray) (hs : s.size ≤ maxLen) (w : World) (hm : Mx w) :
    Calls Tryd.prog 13 #[.string s] w fun e w' => e = .returned (.bool true) ∧ Below w.heap.size w w' := by
  unfold maxLen at hs
  have HM := hide hm
  clear hm
  by_cases hl : s.size ≤ 1048576
  · have C := wordsS s (by omega)
    have D := wordsI s (by omega)
    have hlen := wdP_len s hl
    obtain ⟨l, hl'⟩ : ∃ l, wdP s = l := ⟨_, rfl⟩
    rw [hl'] at C D hlen
    have HC := hide C
    have HD := hide D
    clear C D hl'
    go_enter Tryd.func13, Tryd.ntmps13
    go_wp2_with fail
    refine (HC.out w).mono ?_
    rintro e w1 ⟨A0, c0, rfl, h0, hb1⟩
    have H0 := hide h0
    clear h0
    go_wp2_with fail
    refine (HD.out w1 (HM.out.below hb1)).mono ?_
    rintro e w2 ⟨A1, c1, rfl, h1, hb2⟩
    have H1 := hide h1
    clear h1
    go_wp2_with fail
    refine (eqTxG A1 A0 c1 c0 l hlen w2 H1.out (H0.out.below hb2)).mono ?_
    rintro e w3 ⟨rfl, hb3⟩
    have B13 := below_next (w0 := w1) hb3 hb2
    have H3 := hide (H1.out.below hb3)
    clear H1 hb2 hb3
    go_wp2_with fail
    refine (markStr A1 c1 l hlen w3 (B := w1.heap.size) B13.size H3.out).mono ?_
    rintro e w4 ⟨rfl, h4, hb4⟩
    have H4 := hide h4
    have B14 := B13.trans hb4
    have B04 := below_next (w0 := w) B14 hb1
    have H04 := hide (H0.out.below B14)
    clear h4 hb4 B13 B14 H3 hb1 H0
    go_wp2_with fail
    refine (heldStr A1 l.length c1 hlen w4 H4.out).mono ?_
    rintro e w5 ⟨rfl, hb5⟩
    have B05 := below_next (w0 := w) hb5 B04
    have H5 := hide (H4.out.below hb5)
    have H05 := hide (H04.out.below hb5)
    clear H4 H04 hb5 B04
    go_wp2_with fail
    refine (HD.out w5 (HM.out.below B05)).mono ?_
    rintro e w6 ⟨A2, c2, rfl, h6, hb6⟩
    have H6 := hide h6
    have B06 := below_next (w0 := w) hb6 B05
    have H16 := hide (H5.out.below hb6)
    have H06 := hide (H05.out.below hb6)
    clear h6 hb6 B05 H5 H05
    go_wp2_with fail
    refine (eqTxG A2 A0 c2 c0 l hlen w6 H6.out H06.out).mono ?_
    rintro e w7 ⟨rfl, hb7⟩
    have B07 := below_next (w0 := w) hb7 B06
    have H17 := hide (H16.out.below hb7)
    clear H6 H06 H16 hb7 B06
    go_wp2_with fail
    refine (heldStr A1 l.length c1 hlen w7 H17.out).mono ?_
    rintro e w8 ⟨rfl, hb8⟩
    have B08 := below_next (w0 := w) hb8 B07
    clear H17 hb8 B07
    go_wp2_with fail
    go_ret
    exact ⟨rfl, B08⟩
  · go_enter Tryd.func13, Tryd.ntmps13
    go_wp2_with fail
    go_ret
    exact ⟨rfl, Below.refl _ _⟩
end Go.Proofs.YtphlbpailmdndaaDoor
