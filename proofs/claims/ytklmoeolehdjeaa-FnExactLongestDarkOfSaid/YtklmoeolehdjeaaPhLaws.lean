--%!
/- The walks of the laws on the equality and the validity of phases that the seat has: each returns true. Own work. -/
import Derived.Test.YtklmoeolehdjeaaPhPer
import Derived.Test.YtklmoeolehdjeaaPhArg
namespace Go.Proofs.Ytklmoeolehdjeaa
open Go.ChangeShapes Go.WideShapes Go.ChangeAt Go.RowKit
set_option linter.unusedVariables false
set_option maxRecDepth 100000
set_option maxHeartbeats 1000000

theorem eqPhasesSelf (g h n c d : Nat) (ps : List (ByteArray × Int)) (hn : ps.length = n) (hb : n ≤ 1048576) (w : World) (hp : PhAt w g 0 ps) (hq : PhAt w h 0 ps) (hg : g < w.heap.size) (hh : h < w.heap.size) :
    Calls Try.prog 17 #[.slice (some ⟨g, 0, none⟩) n c, .slice (some ⟨h, 0, none⟩) n d] w fun e w' => e = .returned (.bool true) ∧ Below w.heap.size w w' := by
  have := eqPhases g h n n c d ps ps hn hn hb hb w hp hq hg hh
  rwa [decide_eq_true rfl] at this
theorem validS (g n c : Nat) (ps : List (ByteArray × Int)) (hn : ps.length = n) (hm : n ≤ 1048576) (w : World) (hp : PhAt w g 0 ps) :
    Calls Try.prog 23 #[.slice (some ⟨g, 0, none⟩) n c] w fun e w' => e = .returned (.bool (okPh ps)) ∧ w = w' := by
  have HP := hide hp
  have HN := hide hn
  clear hp hn
  go_enter Try.func23, Try.ntmps23
  go_wp2_with (go_at_call 51; refine (l06OkS g n c ps HN.out hm _ HP.out).mono ?_; rintro e w' ⟨rfl, rfl⟩)
  go_ret
  exact ⟨rfl, rfl⟩
theorem validS_b (w : World) (g n c : Nat) (ps : List (ByteArray × Int)) (hn : ps.length = n) (hm : n ≤ 1048576) (hf : PhFit ps) (hp : PhAt w g 0 ps) (hg : g < w.heap.size) :
    Calls Try.prog 23 #[.slice (some ⟨g, 0, none⟩) n c] w fun e w' => e = .returned (.bool (okPh ps)) ∧ Below w.heap.size w w' :=
  (validS g n c ps hn hm w hp).mono fun e w' ⟨he, hw⟩ => ⟨he, by subst hw; exact Below.refl _ _⟩
theorem validI_b (w : World) (g n c : Nat) (ps : List (ByteArray × Int)) (hn : ps.length = n) (hm : n ≤ 1048576) (hf : PhFit ps) (hp : PhAt w g 0 ps) (hg : g < w.heap.size) :
    Calls Try.prog 24 #[.slice (some ⟨g, 0, none⟩) n c] w fun e w' => e = .returned (.bool (okPh ps)) ∧ Below w.heap.size w w' := validI g n c ps hn hm hf w hp hg
theorem sameS_b (w : World) (g n c : Nat) (ps : List (ByteArray × Int)) (hn : ps.length = n) (hm : n ≤ 1048576) (hf : PhFit ps) (hp : PhAt w g 0 ps) (hg : g < w.heap.size) (h m d : Nat) (qs : List (ByteArray × Int)) (kn : qs.length = m) (km : m ≤ 1048576) (kf : PhFit qs) (kp : PhAt w h 0 qs) (kg : h < w.heap.size) :
    Calls Try.prog 14 #[.slice (some ⟨g, 0, none⟩) n c, .slice (some ⟨h, 0, none⟩) m d] w fun e w' => e = .returned (.bool (decide (ps = qs))) ∧ Below w.heap.size w w' := by
  have C := hide (l06SameS g h n m c d ps qs hn kn hm km w hp kp)
  clear hn hm hf hp hg kn km kf kp kg
  go_enter Try.func14, Try.ntmps14
  go_wp2_with fail
  refine C.out.mono ?_
  rintro e w' ⟨rfl, hw⟩
  have hB := of_drewN hw
  clear hw C
  go_wp2_with fail
  go_ret
  exact ⟨rfl, hB⟩
theorem sameI_b (w : World) (g n c : Nat) (ps : List (ByteArray × Int)) (hn : ps.length = n) (hm : n ≤ 1048576) (hf : PhFit ps) (hp : PhAt w g 0 ps) (hg : g < w.heap.size) (h m d : Nat) (qs : List (ByteArray × Int)) (kn : qs.length = m) (km : m ≤ 1048576) (kf : PhFit qs) (kp : PhAt w h 0 qs) (kg : h < w.heap.size) :
    Calls Try.prog 16 #[.slice (some ⟨g, 0, none⟩) n c, .slice (some ⟨h, 0, none⟩) m d] w fun e w' => e = .returned (.bool (decide (ps = qs))) ∧ Below w.heap.size w w' := by
  have C := hide (sameI g h n m c d ps qs hn kn hm km w hp kp)
  clear hn hm hf hp hg kn km kf kp kg
  go_enter Try.func16, Try.ntmps16
  go_wp2_with fail
  refine C.out.mono ?_
  rintro e w' ⟨rfl, hw⟩
  have hB := of_drewN hw
  clear hw C
  go_wp2_with fail
  go_ret
  exact ⟨rfl, hB⟩
theorem fnExactValidPhases_walk (A0 : Option Addr) (n0 c0 : Nat) (ps0 : List (ByteArray × Int)) (hn0 : ps0.length = n0) (hm0 : n0 ≤ maxLen) (hf0 : PhFit ps0) (w : World) (hp0 : PhRd w w.heap.size A0 ps0) :
    Calls Try.prog 5 #[.slice A0 n0 c0] w fun e w' => e = .returned (.bool true) ∧ Below w.heap.size w w' := by
  have HN0 := hide hn0
  have HF0 := hide hf0
  have HR0 := hide hp0
  clear hn0 hf0 hp0
  go_enter Try.func5, Try.ntmps5
  go_wp2_with fail
  refine (szPhases A0 n0 c0 ps0 HN0.out hm0 HF0.out _ (by omega) (by omega) _ HR0.out).mono ?_
  rintro e w1 ⟨r0, rfl, hr1, hb1⟩
  have hB1 := hb1
  clear hb1
  by_cases h0_0 : r0 < 0
  · go_wp2_with fail
    go_ret
    exact ⟨rfl, hB1⟩
  · have hs0 : n0 ≤ 1048576 := by omega
    have hr0' : 0 ≤ r0 ∧ r0 ≤ 1048576 := by omega
    clear hr1
    go_wp2_with fail
    refine (toPhases A0 n0 c0 ps0 HN0.out hs0 _ ((HR0.out.below hB1).more hB1.size)).mono ?_
    rintro e w2 ⟨g2, rfl, hg2, hl2, hp2, -, hb2⟩
    have hB2 := below_next (w0 := w) hb2 hB1
    have H2_g2 := hide hp2
    clear hb2 hB1 hp2 hg2
    go_wp2_with fail
    refine (validS_b _ g2 n0 n0 ps0 HN0.out hs0 HF0.out H2_g2.out hl2).mono ?_
    rintro e w3 ⟨rfl, hb3⟩
    have H3_g2 := hide (H2_g2.out.below hb3 hl2)
    have L3_g2 := Nat.lt_of_lt_of_le hl2 hb3.size
    have hB3 := below_next (w0 := w) hb3 hB2
    clear hb3 H2_g2 hl2 hB2
    clear H3_g2 L3_g2
    go_wp2_with fail
    refine (toPhases A0 n0 c0 ps0 HN0.out hs0 _ ((HR0.out.below hB3).more hB3.size)).mono ?_
    rintro e w4 ⟨g4, rfl, hg4, hl4, hp4, -, hb4⟩
    have hB4 := below_next (w0 := w) hb4 hB3
    have H4_g4 := hide hp4
    clear hb4 hB3 hp4 hg4
    go_wp2_with fail
    refine (validI_b _ g4 n0 n0 ps0 HN0.out hs0 HF0.out H4_g4.out hl4).mono ?_
    rintro e w5 ⟨rfl, hb5⟩
    have H5_g4 := hide (H4_g4.out.below hb5 hl4)
    have L5_g4 := Nat.lt_of_lt_of_le hl4 hb5.size
    have hB5 := below_next (w0 := w) hb5 hB4
    clear hb5 H4_g4 hl4 hB4
    go_wp2_with fail
    refine (toPhases A0 n0 c0 ps0 HN0.out hs0 _ ((HR0.out.below hB5).more hB5.size)).mono ?_
    rintro e w6 ⟨g6, rfl, hg6, hl6, hp6, -, hb6⟩
    have H6_g4 := hide (H5_g4.out.below hb6 L5_g4)
    have L6_g4 := Nat.lt_of_lt_of_le L5_g4 hb6.size
    have hB6 := below_next (w0 := w) hb6 hB5
    have H6_g6 := hide hp6
    clear hb6 H5_g4 L5_g4 hB5 hp6 hg6
    go_wp2_with fail
    refine (eqPhasesSelf g4 g6 n0 n0 n0 ps0 HN0.out hs0 _ H6_g4.out H6_g6.out L6_g4 hl6).mono ?_
    rintro e w7 ⟨rfl, hb7⟩
    have H7_g4 := hide (H6_g4.out.below hb7 L6_g4)
    have L7_g4 := Nat.lt_of_lt_of_le L6_g4 hb7.size
    have H7_g6 := hide (H6_g6.out.below hb7 hl6)
    have L7_g6 := Nat.lt_of_lt_of_le hl6 hb7.size
    have hB7 := below_next (w0 := w) hb7 hB6
    clear hb7 H6_g4 L6_g4 H6_g6 hl6 hB6
    go_wp2_with fail
    go_ret
    exact ⟨rfl, hB7⟩
theorem fnExactSamePhases_walk (A0 : Option Addr) (n0 c0 : Nat) (ps0 : List (ByteArray × Int)) (hn0 : ps0.length = n0) (hm0 : n0 ≤ maxLen) (hf0 : PhFit ps0) (A1 : Option Addr) (n1 c1 : Nat) (ps1 : List (ByteArray × Int)) (hn1 : ps1.length = n1) (hm1 : n1 ≤ maxLen) (hf1 : PhFit ps1) (w : World) (hp0 : PhRd w w.heap.size A0 ps0) (hp1 : PhRd w w.heap.size A1 ps1) :
    Calls Try.prog 3 #[.slice A0 n0 c0, .slice A1 n1 c1] w fun e w' => e = .returned (.bool true) ∧ Below w.heap.size w w' := by
  have HN0 := hide hn0
  have HF0 := hide hf0
  have HR0 := hide hp0
  clear hn0 hf0 hp0
  have HN1 := hide hn1
  have HF1 := hide hf1
  have HR1 := hide hp1
  clear hn1 hf1 hp1
  go_enter Try.func3, Try.ntmps3
  go_wp2_with fail
  refine (szPhases A0 n0 c0 ps0 HN0.out hm0 HF0.out _ (by omega) (by omega) _ HR0.out).mono ?_
  rintro e w1 ⟨r0, rfl, hr1, hb1⟩
  have hB1 := hb1
  clear hb1
  by_cases h0_0 : r0 < 0
  · go_wp2_with fail
    go_ret
    exact ⟨rfl, hB1⟩
  · have hs0 : n0 ≤ 1048576 := by omega
    have hr0' : 0 ≤ r0 ∧ r0 ≤ 1048576 := by omega
    clear hr1
    go_wp2_with fail
    refine (szPhases A1 n1 c1 ps1 HN1.out hm1 HF1.out _ (by omega) (by omega) _ ((HR1.out.below hB1).more hB1.size)).mono ?_
    rintro e w2 ⟨r1, rfl, hr2, hb2⟩
    have hB2 := below_next (w0 := w) hb2 hB1
    clear hb2 hB1
    by_cases h0_1 : r1 < 0
    · go_wp2_with fail
      go_ret
      exact ⟨rfl, hB2⟩
    · have hs1 : n1 ≤ 1048576 := by omega
      have hr1' : 0 ≤ r1 ∧ r1 ≤ 1048576 := by omega
      clear hr2
      go_wp2_with fail
      refine (toPhases A0 n0 c0 ps0 HN0.out hs0 _ ((HR0.out.below hB2).more hB2.size)).mono ?_
      rintro e w3 ⟨g3, rfl, hg3, hl3, hp3, -, hb3⟩
      have hB3 := below_next (w0 := w) hb3 hB2
      have H3_g3 := hide hp3
      clear hb3 hB2 hp3 hg3
      go_wp2_with fail
      refine (toPhases A1 n1 c1 ps1 HN1.out hs1 _ ((HR1.out.below hB3).more hB3.size)).mono ?_
      rintro e w4 ⟨g4, rfl, hg4, hl4, hp4, -, hb4⟩
      have H4_g3 := hide (H3_g3.out.below hb4 hl3)
      have L4_g3 := Nat.lt_of_lt_of_le hl3 hb4.size
      have hB4 := below_next (w0 := w) hb4 hB3
      have H4_g4 := hide hp4
      clear hb4 H3_g3 hl3 hB3 hp4 hg4
      go_wp2_with fail
      refine (sameS_b _ g3 n0 n0 ps0 HN0.out hs0 HF0.out H4_g3.out L4_g3 g4 n1 n1 ps1 HN1.out hs1 HF1.out H4_g4.out hl4).mono ?_
      rintro e w5 ⟨rfl, hb5⟩
      have H5_g3 := hide (H4_g3.out.below hb5 L4_g3)
      have L5_g3 := Nat.lt_of_lt_of_le L4_g3 hb5.size
      have H5_g4 := hide (H4_g4.out.below hb5 hl4)
      have L5_g4 := Nat.lt_of_lt_of_le hl4 hb5.size
      have hB5 := below_next (w0 := w) hb5 hB4
      clear hb5 H4_g3 L4_g3 H4_g4 hl4 hB4
      clear H5_g3 L5_g3 H5_g4 L5_g4
      go_wp2_with fail
      refine (toPhases A0 n0 c0 ps0 HN0.out hs0 _ ((HR0.out.below hB5).more hB5.size)).mono ?_
      rintro e w6 ⟨g6, rfl, hg6, hl6, hp6, -, hb6⟩
      have hB6 := below_next (w0 := w) hb6 hB5
      have H6_g6 := hide hp6
      clear hb6 hB5 hp6 hg6
      go_wp2_with fail
      refine (toPhases A1 n1 c1 ps1 HN1.out hs1 _ ((HR1.out.below hB6).more hB6.size)).mono ?_
      rintro e w7 ⟨g7, rfl, hg7, hl7, hp7, -, hb7⟩
      have H7_g6 := hide (H6_g6.out.below hb7 hl6)
      have L7_g6 := Nat.lt_of_lt_of_le hl6 hb7.size
      have hB7 := below_next (w0 := w) hb7 hB6
      have H7_g7 := hide hp7
      clear hb7 H6_g6 hl6 hB6 hp7 hg7
      go_wp2_with fail
      refine (sameI_b _ g6 n0 n0 ps0 HN0.out hs0 HF0.out H7_g6.out L7_g6 g7 n1 n1 ps1 HN1.out hs1 HF1.out H7_g7.out hl7).mono ?_
      rintro e w8 ⟨rfl, hb8⟩
      have H8_g6 := hide (H7_g6.out.below hb8 L7_g6)
      have L8_g6 := Nat.lt_of_lt_of_le L7_g6 hb8.size
      have H8_g7 := hide (H7_g7.out.below hb8 hl7)
      have L8_g7 := Nat.lt_of_lt_of_le hl7 hb8.size
      have hB8 := below_next (w0 := w) hb8 hB7
      clear hb8 H7_g6 L7_g6 H7_g7 hl7 hB7
      go_wp2_with fail
      refine (toPhases A0 n0 c0 ps0 HN0.out hs0 _ ((HR0.out.below hB8).more hB8.size)).mono ?_
      rintro e w9 ⟨g9, rfl, hg9, hl9, hp9, -, hb9⟩
      have H9_g6 := hide (H8_g6.out.below hb9 L8_g6)
      have L9_g6 := Nat.lt_of_lt_of_le L8_g6 hb9.size
      have H9_g7 := hide (H8_g7.out.below hb9 L8_g7)
      have L9_g7 := Nat.lt_of_lt_of_le L8_g7 hb9.size
      have hB9 := below_next (w0 := w) hb9 hB8
      have H9_g9 := hide hp9
      clear hb9 H8_g6 L8_g6 H8_g7 L8_g7 hB8 hp9 hg9
      go_wp2_with fail
      refine (eqPhasesSelf g6 g9 n0 n0 n0 ps0 HN0.out hs0 _ H9_g6.out H9_g9.out L9_g6 hl9).mono ?_
      rintro e w10 ⟨rfl, hb10⟩
      have H10_g6 := hide (H9_g6.out.below hb10 L9_g6)
      have L10_g6 := Nat.lt_of_lt_of_le L9_g6 hb10.size
      have H10_g7 := hide (H9_g7.out.below hb10 L9_g7)
      have L10_g7 := Nat.lt_of_lt_of_le L9_g7 hb10.size
      have H10_g9 := hide (H9_g9.out.below hb10 hl9)
      have L10_g9 := Nat.lt_of_lt_of_le hl9 hb10.size
      have hB10 := below_next (w0 := w) hb10 hB9
      clear hb10 H9_g6 L9_g6 H9_g7 L9_g7 H9_g9 hl9 hB9
      go_wp2_with fail
      refine (toPhases A1 n1 c1 ps1 HN1.out hs1 _ ((HR1.out.below hB10).more hB10.size)).mono ?_
      rintro e w11 ⟨g11, rfl, hg11, hl11, hp11, -, hb11⟩
      have H11_g6 := hide (H10_g6.out.below hb11 L10_g6)
      have L11_g6 := Nat.lt_of_lt_of_le L10_g6 hb11.size
      have H11_g7 := hide (H10_g7.out.below hb11 L10_g7)
      have L11_g7 := Nat.lt_of_lt_of_le L10_g7 hb11.size
      have hB11 := below_next (w0 := w) hb11 hB10
      have H11_g11 := hide hp11
      clear hb11 H10_g6 L10_g6 H10_g7 L10_g7 hB10 hp11 hg11
      go_wp2_with fail
      refine (eqPhasesSelf g7 g11 n1 n1 n1 ps1 HN1.out hs1 _ H11_g7.out H11_g11.out L11_g7 hl11).mono ?_
      rintro e w12 ⟨rfl, hb12⟩
      have H12_g6 := hide (H11_g6.out.below hb12 L11_g6)
      have L12_g6 := Nat.lt_of_lt_of_le L11_g6 hb12.size
      have H12_g7 := hide (H11_g7.out.below hb12 L11_g7)
      have L12_g7 := Nat.lt_of_lt_of_le L11_g7 hb12.size
      have H12_g11 := hide (H11_g11.out.below hb12 hl11)
      have L12_g11 := Nat.lt_of_lt_of_le hl11 hb12.size
      have hB12 := below_next (w0 := w) hb12 hB11
      clear hb12 H11_g6 L11_g6 H11_g7 L11_g7 H11_g11 hl11 hB11
      go_wp2_with fail
      go_ret
      exact ⟨rfl, hB12⟩
end Go.Proofs.Ytklmoeolehdjeaa
