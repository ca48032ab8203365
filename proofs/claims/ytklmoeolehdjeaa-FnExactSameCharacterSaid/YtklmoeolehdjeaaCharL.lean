--%!
/- The walk of the law on characters compared: it returns true. Own work. -/
import Derived.Test.YtklmoeolehdjeaaChar2
namespace Go.Proofs.Ytklmoeolehdjeaa
open Go.ChangeShapes Go.WideShapes Go.ChangeAt Go.RowKit
set_option linter.unusedVariables false
set_option maxRecDepth 100000
set_option maxHeartbeats 2000000

theorem keep_cellC {W w1 : World} {g o : Nat} {v : Value} (h : W.cell? ⟨g, o, none⟩ = some v) (hb : Below W.heap.size W w1) : w1.cell? ⟨g, o, none⟩ = some v := (hb.cell (p := ⟨g, o, none⟩) (World.block_lt_of_cell? W _ h)).trans h
/-- two boxes of five cells each -/
def Bx2 (w W : World) (p q : Nat) (a0 a1 a2 a3 a4 b0 b1 b2 b3 b4 : Value) : Prop := Below w.heap.size w W ∧ W.cell? ⟨p, 0, none⟩ = some a0 ∧ W.cell? ⟨p, 1, none⟩ = some a1 ∧ W.cell? ⟨p, 2, none⟩ = some a2 ∧ W.cell? ⟨p, 3, none⟩ = some a3 ∧ W.cell? ⟨p, 4, none⟩ = some a4 ∧ W.cell? ⟨q, 0, none⟩ = some b0 ∧ W.cell? ⟨q, 1, none⟩ = some b1 ∧ W.cell? ⟨q, 2, none⟩ = some b2 ∧ W.cell? ⟨q, 3, none⟩ = some b3 ∧ W.cell? ⟨q, 4, none⟩ = some b4
section
variable {w W w1 : World} {p q : Nat} {a0 a1 a2 a3 a4 b0 b1 b2 b3 b4 : Value}
theorem c2_next (h : Bx2 w W p q a0 a1 a2 a3 a4 b0 b1 b2 b3 b4) (hb : Below W.heap.size W w1) : Bx2 w w1 p q a0 a1 a2 a3 a4 b0 b1 b2 b3 b4 :=
  ⟨below_next hb h.1, keep_cellC h.2.1 hb, keep_cellC h.2.2.1 hb, keep_cellC h.2.2.2.1 hb, keep_cellC h.2.2.2.2.1 hb, keep_cellC h.2.2.2.2.2.1 hb, keep_cellC h.2.2.2.2.2.2.1 hb, keep_cellC h.2.2.2.2.2.2.2.1 hb, keep_cellC h.2.2.2.2.2.2.2.2.1 hb, keep_cellC h.2.2.2.2.2.2.2.2.2.1 hb, keep_cellC h.2.2.2.2.2.2.2.2.2.2 hb⟩
theorem c2_drew (h : Bx2 w W p q a0 a1 a2 a3 a4 b0 b1 b2 b3 b4) : Bx2 w W.drew p q a0 a1 a2 a3 a4 b0 b1 b2 b3 b4 := ⟨h.1.drew, h.2⟩
theorem c2_alloc (h : Bx2 w W p q a0 a1 a2 a3 a4 b0 b1 b2 b3 b4) (o : Obj) : Bx2 w (W.alloc o) p q a0 a1 a2 a3 a4 b0 b1 b2 b3 b4 := c2_next h ((Below.refl _ _).alloc (Nat.le_refl _) _)
/-- one box of five cells -/
def Bx1 (W : World) (p : Nat) (a0 a1 a2 a3 a4 : Value) : Prop := W.cell? ⟨p, 0, none⟩ = some a0 ∧ W.cell? ⟨p, 1, none⟩ = some a1 ∧ W.cell? ⟨p, 2, none⟩ = some a2 ∧ W.cell? ⟨p, 3, none⟩ = some a3 ∧ W.cell? ⟨p, 4, none⟩ = some a4
theorem c1_next (h : Bx1 W p a0 a1 a2 a3 a4) (hb : Below W.heap.size W w1) : Bx1 w1 p a0 a1 a2 a3 a4 := ⟨keep_cellC h.1 hb, keep_cellC h.2.1 hb, keep_cellC h.2.2.1 hb, keep_cellC h.2.2.2.1 hb, keep_cellC h.2.2.2.2 hb⟩
theorem c1_alloc (h : Bx1 W p a0 a1 a2 a3 a4) (o : Obj) : Bx1 (W.alloc o) p a0 a1 a2 a3 a4 := c1_next h ((Below.refl _ _).alloc (Nat.le_refl _) _)
theorem c1_new {t : TypeId} : Bx1 (W.alloc (.cells #[a0, a1, a2, a3, a4] t)) W.heap.size a0 a1 a2 a3 a4 :=
  ⟨cell_of_row _ _ _ _ _ _ (heap_alloc_new W _), cell_of_row _ _ _ _ _ _ (heap_alloc_new W _), cell_of_row _ _ _ _ _ _ (heap_alloc_new W _), cell_of_row _ _ _ _ _ _ (heap_alloc_new W _), cell_of_row _ _ _ _ _ _ (heap_alloc_new W _)⟩
theorem c2_of (hb : Below w.heap.size w W) (h : Bx1 W p a0 a1 a2 a3 a4) (k : Bx1 W q b0 b1 b2 b3 b4) : Bx2 w W p q a0 a1 a2 a3 a4 b0 b1 b2 b3 b4 := ⟨hb, h.1, h.2.1, h.2.2.1, h.2.2.2.1, h.2.2.2.2, k⟩
theorem c2_fst (h : Bx2 w W p q a0 a1 a2 a3 a4 b0 b1 b2 b3 b4) : Bx1 W p a0 a1 a2 a3 a4 := ⟨h.2.1, h.2.2.1, h.2.2.2.1, h.2.2.2.2.1, h.2.2.2.2.2.1⟩
theorem c2_snd (h : Bx2 w W p q a0 a1 a2 a3 a4 b0 b1 b2 b3 b4) : Bx1 W q b0 b1 b2 b3 b4 := h.2.2.2.2.2.2
end
theorem fnExactSameCharacter_walk (k0 : Int) (A0 : Option Addr) (n0 c0 : Nat) (l0 : List Int) (L0 C0 : ByteArray) (q0 : Int) (hn0 : l0.length = n0) (hm0 : n0 ≤ maxLen) (hL0 : L0.size ≤ maxLen) (hC0 : C0.size ≤ maxLen) (k1 : Int) (A1 : Option Addr) (n1 c1 : Nat) (l1 : List Int) (L1 C1 : ByteArray) (q1 : Int) (hn1 : l1.length = n1) (hm1 : n1 ≤ maxLen) (hL1 : L1.size ≤ maxLen) (hC1 : C1.size ≤ maxLen) (w : World) (hp0 : NmRd w w.heap.size A0 l0) (hp1 : NmRd w w.heap.size A1 l1) :
    Calls Try.prog 4 #[.agg #[.int .i64 k0, .slice A0 n0 c0, .string L0, .string C0, .int .i64 q0], .agg #[.int .i64 k1, .slice A1 n1 c1, .string L1, .string C1, .int .i64 q1]] w fun e w' => e = .returned (.bool true) ∧ Below w.heap.size w w' := by
  have HR0 := hide hp0
  have HR1 := hide hp1
  have HE0 := hide hn0
  have HE1 := hide hn1
  have hS0 : Hid (Bx2 w ((w.alloc (.cells #[.int .i64 k0, .slice A0 n0 c0, .string L0, .string C0, .int .i64 q0] 30)).alloc (.cells #[.int .i64 k1, .slice A1 n1 c1, .string L1, .string C1, .int .i64 q1] 30)) w.heap.size (w.heap.size + 1) (.int .i64 k0) (.slice A0 n0 c0) (.string L0) (.string C0) (.int .i64 q0) (.int .i64 k1) (.slice A1 n1 c1) (.string L1) (.string C1) (.int .i64 q1)) := hide (by
    have hz : (w.alloc (.cells #[.int .i64 k0, .slice A0 n0 c0, .string L0, .string C0, .int .i64 q0] 30)).heap.size = w.heap.size + 1 := by simp
    have := c1_new (W := w.alloc (.cells #[.int .i64 k0, .slice A0 n0 c0, .string L0, .string C0, .int .i64 q0] 30)) (t := 30) (a0 := .int .i64 k1) (a1 := .slice A1 n1 c1) (a2 := .string L1) (a3 := .string C1) (a4 := .int .i64 q1)
    rw [hz] at this
    exact c2_of (by go_grown) (c1_alloc c1_new _) this)
  have CS := fun g0 g1 d0 d1 (h0 : n0 ≤ 1048576) (h1 : n1 ≤ 1048576) W a1 a2 a3 a4 => charS k0 q0 k1 q1 g0 g1 n0 n1 d0 d1 l0 l1 L0 C0 L1 C1 HE0.out HE1.out h0 h1 W a1 a2 a3 a4
  have CI := fun g0 g1 d0 d1 (h0 : n0 ≤ 1048576) (h1 : n1 ≤ 1048576) W a1 a2 a3 a4 => charI k0 q0 k1 q1 g0 g1 n0 n1 d0 d1 l0 l1 L0 C0 L1 C1 HE0.out HE1.out h0 h1 W a1 a2 a3 a4
  obtain ⟨b, hb⟩ : ∃ b, chB k0 q0 k1 q1 l0 l1 L0 C0 L1 C1 = b := ⟨_, rfl⟩
  simp only [hb] at CS CI
  have HCS := hide CS
  have HCI := hide CI
  have z1 : (b != b) = false := by simp
  clear hp0 hp1 hn0 hn1 CS CI hb
  go_enter Try.func4, Try.ntmps4
  go_wp2_with fail
  refine (szChar k0 q0 A0 n0 c0 L0 C0 hm0 hL0 hC0 _ (by omega) (by omega) _).mono ?_
  rintro e w1 ⟨r0, rfl, hr0, hb1⟩
  have hS1 := hide (c2_next hS0.out hb1)
  clear hb1 hS0
  by_cases h0 : r0 < 0
  · go_wp2_with fail
    go_ret
    exact ⟨rfl, hS1.out.1⟩
  · have hs0 : n0 ≤ 1048576 := by omega
    have hr0' : 0 ≤ r0 ∧ r0 ≤ 1048576 := by omega
    obtain ⟨-, -, -, -, -, -, d0, d1, d2, d3, d4⟩ := id hS1.out
    clear hr0
    go_wp2_with fail
    refine (szChar k1 q1 A1 n1 c1 L1 C1 hm1 hL1 hC1 r0 (by omega) (by omega) _).mono ?_
    rintro e w2 ⟨r1, rfl, hr1, hb2⟩
    have hS2 := hide (c2_next hS1.out hb2)
    clear hb2 hS1 d0 d1 d2 d3 d4
    by_cases h1 : r1 < 0
    · go_wp2_with fail
      go_ret
      exact ⟨rfl, hS2.out.1⟩
    · have hs1 : n1 ≤ 1048576 := by omega
      clear hr1 hr0' hm0 hm1 hL0 hL1 hC0 hC1
      go_wp2_with fail
      go_region_held3 (fun w' => Below w.heap.size w w' ∧ w'.cell? ⟨w.heap.size, 0, none⟩ = some (.int .i64 k0) ∧ w'.cell? ⟨w.heap.size, 1, none⟩ = some (.slice A0 n0 c0) ∧ w'.cell? ⟨w.heap.size, 2, none⟩ = some (.string L0) ∧ w'.cell? ⟨w.heap.size, 3, none⟩ = some (.string C0) ∧ w'.cell? ⟨w.heap.size, 4, none⟩ = some (.int .i64 q0) ∧ w'.cell? ⟨w.heap.size + 1, 0, none⟩ = some (.int .i64 k1) ∧ w'.cell? ⟨w.heap.size + 1, 1, none⟩ = some (.slice A1 n1 c1) ∧ w'.cell? ⟨w.heap.size + 1, 2, none⟩ = some (.string L1) ∧ w'.cell? ⟨w.heap.size + 1, 3, none⟩ = some (.string C1) ∧ w'.cell? ⟨w.heap.size + 1, 4, none⟩ = some (.int .i64 q1)) (first | exact c2_drew hS2.out | exact c2_next (by assumption) (by assumption) | go_keep) (first | (go_at_call 20; have hx := HN1.out; refine (toChar k1 q1 A1 n1 c1 l1 L1 C1 HE1.out hs1 _ ((HR1.out.below (And.left (by assumption : Below w.heap.size w _ ∧ _))).more (And.left (by assumption : Below w.heap.size w _ ∧ _)).size)).mono ?_; rintro e w4 ⟨g2, rfl, hg2, hl2, hp2, hb4⟩; have HN2 := hide hp2; have HN3 := hide (HN1.out.below hb4 hl1); have hl3 := Nat.lt_of_lt_of_le hl1 hb4.size) | (go_at_call 20; refine (toChar k0 q0 A0 n0 c0 l0 L0 C0 HE0.out hs0 _ ((HR0.out.below (And.left (by assumption : Below w.heap.size w _ ∧ _))).more (And.left (by assumption : Below w.heap.size w _ ∧ _)).size)).mono ?_; rintro e w3 ⟨g1, rfl, hg1, hl1, hp1, hb3⟩; have HN1 := hide hp1) | (go_at_call 19; refine (HCS.out _ _ _ _ hs0 hs1 _ HN3.out HN2.out hl3 hl2).mono ?_; rintro e w5 ⟨rfl, hb5⟩))
      have hS5 := hide (by assumption : Bx2 w w5 w.heap.size (w.heap.size + 1) (.int .i64 k0) (.slice A0 n0 c0) (.string L0) (.string C0) (.int .i64 q0) (.int .i64 k1) (.slice A1 n1 c1) (.string L1) (.string C1) (.int .i64 q1))
      clear hb3 hb4 hb5 hp1 hp2 HN1 HN2 HN3 hl1 hl2 hl3 hg1 hg2 hS2 HCS
      obtain ⟨u0, u1, u2, u3, u4⟩ := c2_fst hS5.out
      go_wp2_with fail
      refine (toChar k0 q0 A0 n0 c0 l0 L0 C0 HE0.out hs0 _ ((HR0.out.below hS5.out.1).more hS5.out.1.size)).mono ?_
      rintro e w6 ⟨g4, rfl, -, hl4, hp4, hb6⟩
      have B7 : Below w6.heap.size w6 (w6.alloc (.cells #[.int .i64 k0, .slice (some ⟨g4, 0, none⟩) n0 n0, .string L0, .string C0, .int .i64 q0] 33)) := (Below.refl _ _).alloc (Nat.le_refl _) _
      have hS7 := hide (c2_next (c2_next hS5.out hb6) B7)
      have X7 := hide (c1_new (W := w6) (t := 33) (a0 := .int .i64 k0) (a1 := .slice (some ⟨g4, 0, none⟩) n0 n0) (a2 := .string L0) (a3 := .string C0) (a4 := .int .i64 q0))
      have N7 := hide (hp4.below B7 hl4)
      have hl7 := Nat.lt_of_lt_of_le hl4 B7.size
      clear hp4 hb6 B7 hl4 u0 u1 u2 u3 u4 hS5
      obtain ⟨u0, u1, u2, u3, u4⟩ := c2_snd hS7.out
      go_wp2_with fail
      refine (toChar k1 q1 A1 n1 c1 l1 L1 C1 HE1.out hs1 _ ((HR1.out.below hS7.out.1).more hS7.out.1.size)).mono ?_
      rintro e w8 ⟨g5, rfl, -, hl5, hp5, hb8⟩
      have B9 : Below w8.heap.size w8 (w8.alloc (.cells #[.int .i64 k1, .slice (some ⟨g5, 0, none⟩) n1 n1, .string L1, .string C1, .int .i64 q1] 33)) := (Below.refl _ _).alloc (Nat.le_refl _) _
      have hS9 := hide (c2_next (c2_next hS7.out hb8) B9)
      have X9 := hide (c1_next (c1_next X7.out hb8) B9)
      have Y9 := hide (c1_new (W := w8) (t := 33) (a0 := .int .i64 k1) (a1 := .slice (some ⟨g5, 0, none⟩) n1 n1) (a2 := .string L1) (a3 := .string C1) (a4 := .int .i64 q1))
      have hl8 := Nat.lt_of_lt_of_le hl7 hb8.size
      have N9 := hide ((N7.out.below hb8 hl7).below B9 hl8)
      have hl9 := Nat.lt_of_lt_of_le hl8 B9.size
      have M9 := hide (hp5.below B9 hl5)
      have hm9 := Nat.lt_of_lt_of_le hl5 B9.size
      clear hp5 hb8 B9 hl5 u0 u1 u2 u3 u4 hS7 X7 N7 hl7 hl8
      obtain ⟨u0, u1, u2, u3, u4⟩ := id X9.out
      obtain ⟨v0, v1, v2, v3, v4⟩ := id Y9.out
      go_wp2_with fail
      refine (HCI.out _ _ _ _ hs0 hs1 _ N9.out M9.out hl9 hm9).mono ?_
      rintro e w10 ⟨rfl, hb10⟩
      have hS10 := c2_next hS9.out hb10
      have P10 := hide (c2_drew (c2_of hS10.1 (c1_next X9.out hb10) (c2_fst hS10)))
      have Q10 := hide (c2_drew (c2_of hS10.1 (c1_next Y9.out hb10) (c2_snd hS10)))
      have N10' := N9.out.below hb10 hl9
      have M10' := M9.out.below hb10 hm9
      have N10 := hide (show NmAt w10.drew g4 0 l0 from N10')
      have M10 := hide (show NmAt w10.drew g5 0 l1 from M10')
      clear N10' M10'
      have hl10 : g4 < w10.drew.heap.size := Nat.lt_of_lt_of_le hl9 hb10.size
      have hm10 : g5 < w10.drew.heap.size := Nat.lt_of_lt_of_le hm9 hb10.size
      clear hb10 hS9 hS10 X9 Y9 N9 M9 hl9 hm9 u0 u1 u2 u3 u4 v0 v1 v2 v3 v4 HCI
      go_wp2_with fail
      go_region_held3 (fun w' => Below w.heap.size w w' ∧ w'.cell? ⟨w6.heap.size, 0, none⟩ = some (.int .i64 k0) ∧ w'.cell? ⟨w6.heap.size, 1, none⟩ = some (.slice (some ⟨g4, 0, none⟩) n0 n0) ∧ w'.cell? ⟨w6.heap.size, 2, none⟩ = some (.string L0) ∧ w'.cell? ⟨w6.heap.size, 3, none⟩ = some (.string C0) ∧ w'.cell? ⟨w6.heap.size, 4, none⟩ = some (.int .i64 q0) ∧ w'.cell? ⟨w.heap.size, 0, none⟩ = some (.int .i64 k0) ∧ w'.cell? ⟨w.heap.size, 1, none⟩ = some (.slice A0 n0 c0) ∧ w'.cell? ⟨w.heap.size, 2, none⟩ = some (.string L0) ∧ w'.cell? ⟨w.heap.size, 3, none⟩ = some (.string C0) ∧ w'.cell? ⟨w.heap.size, 4, none⟩ = some (.int .i64 q0)) (first | exact P10.out | exact c2_next (by assumption) (by assumption) | go_keep) (first | (go_at_call 20; refine (toChar k0 q0 A0 n0 c0 l0 L0 C0 HE0.out hs0 _ ((HR0.out.below (And.left (by assumption : Below w.heap.size w _ ∧ _))).more (And.left (by assumption : Below w.heap.size w _ ∧ _)).size)).mono ?_; rintro e w11 ⟨g6, rfl, hg6, hl6, hp6, hb11⟩; have R11 := hide hp6; have Q11 := hide (c2_next Q10.out hb11); have N11 := hide (N10.out.below hb11 hl10); have M11 := hide (M10.out.below hb11 hm10); have hl11 := Nat.lt_of_lt_of_le hl10 hb11.size; have hm11 := Nat.lt_of_lt_of_le hm10 hb11.size) | (go_at_call 22; refine (eqChar k0 q0 g4 g6 n0 _ _ l0 L0 C0 HE0.out hs0 _ N11.out R11.out hl11 hl6).mono ?_; rintro e w12 ⟨rfl, hb12⟩; have Q12 := hide (c2_drew (c2_next Q11.out hb12)); have M12' := M11.out.below hb12 hm11; have M12 := hide (show NmAt w12.drew g5 0 l1 from M12'); clear M12'; have hm12 : g5 < w12.drew.heap.size := Nat.lt_of_lt_of_le hm11 hb12.size))
      clear P10 Q10 N10 M10 hl10 hm10 hp6 hb11 hb12 R11 Q11 N11 M11 hl11 hm11 hl6 hg6
      go_wp2_with fail
      go_region_held3 (fun w' => Below w.heap.size w w' ∧ w'.cell? ⟨w8.heap.size, 0, none⟩ = some (.int .i64 k1) ∧ w'.cell? ⟨w8.heap.size, 1, none⟩ = some (.slice (some ⟨g5, 0, none⟩) n1 n1) ∧ w'.cell? ⟨w8.heap.size, 2, none⟩ = some (.string L1) ∧ w'.cell? ⟨w8.heap.size, 3, none⟩ = some (.string C1) ∧ w'.cell? ⟨w8.heap.size, 4, none⟩ = some (.int .i64 q1) ∧ w'.cell? ⟨w.heap.size + 1, 0, none⟩ = some (.int .i64 k1) ∧ w'.cell? ⟨w.heap.size + 1, 1, none⟩ = some (.slice A1 n1 c1) ∧ w'.cell? ⟨w.heap.size + 1, 2, none⟩ = some (.string L1) ∧ w'.cell? ⟨w.heap.size + 1, 3, none⟩ = some (.string C1) ∧ w'.cell? ⟨w.heap.size + 1, 4, none⟩ = some (.int .i64 q1)) (first | exact Q12.out | exact c2_next (by assumption) (by assumption) | go_keep) (first | (go_at_call 20; refine (toChar k1 q1 A1 n1 c1 l1 L1 C1 HE1.out hs1 _ ((HR1.out.below (And.left (by assumption : Below w.heap.size w _ ∧ _))).more (And.left (by assumption : Below w.heap.size w _ ∧ _)).size)).mono ?_; rintro e w13 ⟨g7, rfl, hg7, hl7, hp7, hb13⟩; have R13 := hide hp7; have M13 := hide (M12.out.below hb13 hm12); have hm13 := Nat.lt_of_lt_of_le hm12 hb13.size) | (go_at_call 22; refine (eqChar k1 q1 g5 g7 n1 _ _ l1 L1 C1 HE1.out hs1 _ M13.out R13.out hm13 hl7).mono ?_; rintro e w14 ⟨rfl, hb14⟩))
      have hB14 := And.left (by assumption : Below w.heap.size w w14 ∧ _)
      go_wp2_with fail
      go_ret
      exact ⟨rfl, hB14⟩
end Go.Proofs.Ytklmoeolehdjeaa
