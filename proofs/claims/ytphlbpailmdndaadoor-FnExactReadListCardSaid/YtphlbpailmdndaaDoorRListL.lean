--%!
/- The walk of the law on lists read out of a text. Own work. -/
import Derived.Test.YtphlbpailmdndaaDoorRList2
namespace Go.Proofs.YtphlbpailmdndaaDoor
open Go.ChangeShapes Go.WideShapes Go.ChangeAt Go.RowKit
set_option linter.unusedVariables false
set_option maxRecDepth 100000
set_option maxHeartbeats 1000000
theorem fnExactReadList_walk (s : ByteArray) (hs : s.size ≤ maxLen) (w : World) (hp : Pow w) (he : Errs w) (hm : Mx w) :
    Calls Tryd.prog 12 #[.string s] w fun e w' => e = .returned (.bool true) ∧ Below w.heap.size w w' := by
  unfold maxLen at hs
  have HP := hide hp
  have HE := hide he
  have HM := hide hm
  clear hp he hm
  by_cases hl : s.size ≤ 1048576
  · have C := rdListS s (by omega)
    have D := rdListI s (by omega)
    have hlen := rlP_len s
    obtain ⟨l, hl'⟩ : ∃ l, rlP s = l := ⟨_, rfl⟩
    obtain ⟨b, hb'⟩ : ∃ b, rlK s = b := ⟨_, rfl⟩
    rw [hl', hb'] at C D
    rw [hl'] at hlen
    have HC := hide C
    have HD := hide D
    clear C D hl' hb'
    go_enter Tryd.func12, Tryd.ntmps12
    go_wp2_with fail
    refine (HC.out w).mono ?_
    rintro e w1 ⟨A0, c0, rfl, h0, hb1⟩
    have H0 := hide h0
    clear h0
    go_wp2_with fail
    refine (HD.out w1 (HP.out.below hb1) (HE.out.below hb1) (HM.out.below hb1)).mono ?_
    rintro e w2 ⟨A1, c1, rfl, h1, hb2⟩
    have H1 := hide h1
    clear h1
    go_wp2_with fail
    refine (eqNmG A1 A0 c1 c0 l (by omega) w2 H1.out.nm (H0.out.below hb2).nm).mono ?_
    rintro e w3 ⟨rfl, hb3⟩
    have B13 := below_next (w0 := w1) hb3 hb2
    have H3 := hide (H1.out.below hb3)
    clear H1 hb2 hb3
    go_wp2_with fail
    refine (markNums A1 c1 l (by omega) w3 (B := w1.heap.size) B13.size H3.out).mono ?_
    rintro e w4 ⟨rfl, h4, hb4⟩
    have H4 := hide h4
    have B14 := B13.trans hb4
    have B04 := below_next (w0 := w) B14 hb1
    have H04 := hide (H0.out.below B14)
    clear h4 hb4 B13 B14 H3 hb1 H0
    go_wp2_with fail
    refine (heldNums A1 l.length c1 (by omega) w4 H4.out.nm).mono ?_
    rintro e w5 ⟨rfl, hb5⟩
    have B05 := below_next (w0 := w) hb5 B04
    have H5 := hide (H4.out.below hb5)
    have H05 := hide (H04.out.below hb5)
    clear H4 H04 hb5 B04
    go_wp2_with fail
    refine (HD.out w5 (HP.out.below B05) (HE.out.below B05) (HM.out.below B05)).mono ?_
    rintro e w6 ⟨A2, c2, rfl, h6, hb6⟩
    have H6 := hide h6
    have B06 := below_next (w0 := w) hb6 B05
    have H16 := hide (H5.out.below hb6)
    have H06 := hide (H05.out.below hb6)
    clear h6 hb6 B05 H5 H05
    go_wp2_with fail
    refine (eqNmG A2 A0 c2 c0 l (by omega) w6 H6.out.nm H06.out.nm).mono ?_
    rintro e w7 ⟨rfl, hb7⟩
    have B07 := below_next (w0 := w) hb7 B06
    have H17 := hide (H16.out.below hb7)
    clear H6 H06 H16 hb7 B06
    go_wp2_with fail
    refine (heldNums A1 l.length c1 (by omega) w7 H17.out.nm).mono ?_
    rintro e w8 ⟨rfl, hb8⟩
    have B08 := below_next (w0 := w) hb8 B07
    clear H17 hb8 B07
    go_wp2_with fail
    go_ret
    exact ⟨rfl, B08⟩
  · go_enter Tryd.func12, Tryd.ntmps12
    go_wp2_with fail
    go_ret
    exact ⟨rfl, Below.refl _ _⟩
end Go.Proofs.YtphlbpailmdndaaDoor
