--%!
/- The walk of the law on shifted phases: it returns true. Own work. -/
import Derived.Test.YtklmoeolehdjeaaShift
import Derived.Test.YtklmoeolehdjeaaMarkP
import Derived.Test.YtklmoeolehdjeaaPhArg
namespace Go.Proofs.Ytklmoeolehdjeaa
open Go.ChangeShapes Go.WideShapes Go.ChangeAt Go.RowKit
set_option linter.unusedVariables false
set_option maxRecDepth 100000
set_option maxHeartbeats 1000000
theorem lsPh_of {w : World} {B g : Nat} {l : List (ByteArray × Int)} (hB : B ≤ g) (hg : g < w.heap.size) (hp : PhAt w g 0 l) (hf : ∀ o, w.frozen? ⟨g, o, none⟩ = false) : LsPh w B (some ⟨g, 0, none⟩) l := fun _ => ⟨g, rfl, hB, hg, hp, hf⟩
theorem fnExactShiftPhases_walk (A0 : Option Addr) (n0 c0 : Nat) (ps : List (ByteArray × Int)) (hn0 : ps.length = n0) (hm0 : n0 ≤ maxLen) (hf0 : PhFit ps) (t : Int) (ht : -9223372036854775808 ≤ t) (hu : t ≤ 9223372036854775807) (w : World) (hp0 : PhRd w w.heap.size A0 ps) :
    Calls Try.prog 12 #[.slice A0 n0 c0, .int .i64 t] w fun e w' => e = .returned (.bool true) ∧ Below w.heap.size w w' := by
  subst hn0
  have HF := hide hf0
  have HR := hide hp0
  clear hf0 hp0
  go_enter Try.func12, Try.ntmps12
  go_wp2_with fail
  refine (szPhases A0 _ c0 ps rfl hm0 HF.out _ (by omega) (by omega) _ HR.out).mono ?_
  rintro e w1 ⟨r0, rfl, hr1, B1⟩
  by_cases h0 : r0 < 0
  · go_wp2_with fail
    go_ret
    exact ⟨rfl, B1⟩
  · have hs : ps.length ≤ 1048576 := by omega
    clear hr1
    have CS := fun W g c h k => shiftS W g ps.length c ps rfl hs HF.out h k t ht hu
    have CI := fun W g c h k => shiftI W g ps.length c ps rfl hs HF.out h k t ht hu
    have hll := shL_len ps t
    obtain ⟨l, hl⟩ : ∃ l, shL ps t = l := ⟨_, rfl⟩
    obtain ⟨v, hv⟩ : ∃ v, shE ps t = v := ⟨_, rfl⟩
    simp only [hl, hv] at CS CI hll
    have HCS := hide CS
    have HCI := hide CI
    have hlb : l.length ≤ 1048576 := by omega
    have z1 : (v != v) = false := by simp
    clear CS CI hl hv
    go_wp2_with fail
    refine (toPhases A0 _ c0 ps rfl hs _ ((HR.out.below B1).more B1.size)).mono ?_
    rintro e w2 ⟨g2, rfl, -, hg2, hp2, -, hb2⟩
    have B2 := below_next (w0 := w) hb2 B1
    have H2 := hide hp2
    clear hb2 hp2 B1
    go_wp2_with fail
    refine (HCS.out w2 g2 _ H2.out hg2).mono ?_
    rintro e w3 ⟨A3, c3, rfl, h3, hb3⟩
    have B3 := below_next (w0 := w) hb3 B2
    have H3 := hide h3
    have hz3 := B3.size
    clear h3 hb3 B2 H2 hg2
    go_wp2_with fail
    refine (toPhases A0 _ c0 ps rfl hs _ ((HR.out.below B3).more B3.size)).mono ?_
    rintro e w4 ⟨g4, rfl, hg4, hg4', hp4, hf4, hb4⟩
    have B4 := below_next (w0 := w) hb4 B3
    have X4 := hide (lsPh_of hg4 hg4' hp4 hf4)
    have P4 := hide hp4
    have N4 := hb4
    clear hf4 hp4 hb4 B3
    go_wp2_with fail
    refine (HCI.out w4 g4 _ P4.out hg4').mono ?_
    rintro e w5 ⟨A5, c5, rfl, h5, hb5⟩
    have B5 := below_next (w0 := w) hb5 B4
    have N5 := below_next hb5 N4
    have G5 := hide h5
    have X5 := hide (X4.out.below hb5)
    have P5 := hide (P4.out.below hb5 hg4')
    have hg5 := Nat.lt_of_lt_of_le hg4' hb5.size
    clear h5 hb5 B4 N4 X4 P4
    go_wp2_with fail
    refine (eqPhG A5 A3 _ _ l hlb w5 G5.out (H3.out.below N5)).mono ?_
    rintro e w6 ⟨rfl, hb6⟩
    have B6 := below_next (w0 := w) hb6 B5
    have N6 := below_next hb6 N5
    have G6 := hide (G5.out.below hb6)
    have X6 := hide (X5.out.below hb6)
    have P6 := hide (P5.out.below hb6 hg5)
    have hg6 := Nat.lt_of_lt_of_le hg5 hb6.size
    clear hb6 B5 N5 G5 X5 P5
    go_wp2_with fail
    refine (toPhases A0 _ c0 ps rfl hs _ ((HR.out.below B6).more B6.size)).mono ?_
    rintro e w7 ⟨g7, rfl, -, hg7, hp7, -, hb7⟩
    have B7 := below_next (w0 := w) hb7 B6
    have N7 := below_next hb7 N6
    have G7 := hide (G6.out.below hb7)
    have X7 := hide (X6.out.below hb7)
    have P7 := hide (P6.out.below hb7 hg6)
    have hg8 := Nat.lt_of_lt_of_le hg6 hb7.size
    have Q7 := hide hp7
    clear hb7 hp7 B6 N6 G6 X6 P6
    go_wp2_with fail
    refine (eqPhases g4 g7 _ _ _ _ ps ps rfl rfl hs hs w7 P7.out Q7.out hg8 hg7).mono ?_
    rw [decide_eq_true rfl]
    rintro e w8 ⟨rfl, hb8⟩
    have B8 := below_next (w0 := w) hb8 B7
    have N8 := below_next hb8 N7
    have G8 := hide (G7.out.below hb8)
    have X8 := hide (X7.out.below hb8)
    have hz8 := N8.size
    clear hb8 B7 N7 G7 X7 P7 Q7
    go_wp2_with fail
    refine (markPhX g4 _ ps hs w8 hz8 X8.out).mono ?_
    rintro e w9 ⟨rfl, -, hb9, kb9⟩
    have N9 := N8.trans hb9
    have B9 := B8.trans (hb9.mono hz3)
    have G9 := hide (G8.out.kept kb9 hg4')
    clear hb9 kb9 N8 B8 G8 X8 hz8
    have z2 : decide ((1 + 2 * (ps.length : Int)) < 0) = false := decide_eq_false (by omega)
    have z3 : (1 + 2 * (l.length : Int) != 1 + 2 * (l.length : Int)) = false := by simp
    have z4 : decide ((1 + 2 * (l.length : Int)) < 0) = false := decide_eq_false (by omega)
    go_wp2_with fail
    refine (eqPhG A5 A3 _ _ l hlb w9 G9.out (H3.out.below N9)).mono ?_
    rintro e w10 ⟨rfl, hb10⟩
    have B10 := below_next (w0 := w) hb10 B9
    have N10 := below_next hb10 N9
    have G10 := hide (G9.out.below hb10)
    clear hb10 B9 N9 G9
    go_wp2_with fail
    have K10 := N10.size
    refine (markPh A5 _ l hlb w10 (B := w3.heap.size) K10 (G10.out.less (Nat.le_of_lt (Nat.lt_of_le_of_lt hg4 hg4')))).mono ?_
    rintro e w11 ⟨rfl, h11, hb11⟩
    have B11 := B10.trans (hb11.mono hz3)
    have N11 := N10.trans hb11
    have M11 := hide h11
    clear hb11 h11 B10 N10 G10 K10
    go_wp2_with fail
    refine (heldPh A5 _ _ hlb w11 M11.out).mono ?_
    rintro e w12 ⟨rfl, hb12⟩
    have B12 := below_next (w0 := w) hb12 B11
    have N12 := below_next hb12 N11
    have M12 := hide (M11.out.below hb12)
    clear hb12 B11 N11 M11
    go_wp2_with fail
    refine (toPhases A0 _ c0 ps rfl hs _ ((HR.out.below B12).more B12.size)).mono ?_
    rintro e w13 ⟨g13, rfl, -, hg13, hp13, -, hb13⟩
    have B13 := below_next (w0 := w) hb13 B12
    have N13 := below_next hb13 N12
    have M13 := hide (M12.out.below hb13)
    have P13 := hide hp13
    clear hb13 hp13 B12 N12 M12
    go_wp2_with fail
    refine (HCI.out w13 g13 _ P13.out hg13).mono ?_
    rintro e w14 ⟨A14, c14, rfl, h14, hb14⟩
    have B14 := below_next (w0 := w) hb14 B13
    have N14 := below_next hb14 N13
    have M14 := hide (M13.out.below hb14)
    have G14 := hide h14
    clear hb14 h14 B13 N13 M13 P13
    go_wp2_with fail
    refine (eqPhG A14 A3 _ _ l hlb w14 G14.out (H3.out.below N14)).mono ?_
    rintro e w15 ⟨rfl, hb15⟩
    have B15 := below_next (w0 := w) hb15 B14
    have M15 := hide (M14.out.below hb15)
    clear hb15 B14 N14 M14 G14
    go_wp2_with fail
    refine (heldPh A5 _ _ hlb w15 M15.out).mono ?_
    rintro e w16 ⟨rfl, hb16⟩
    have B16 := below_next (w0 := w) hb16 B15
    go_wp2_with fail
    go_ret
    exact ⟨rfl, B16⟩
end Go.Proofs.Ytklmoeolehdjeaa
