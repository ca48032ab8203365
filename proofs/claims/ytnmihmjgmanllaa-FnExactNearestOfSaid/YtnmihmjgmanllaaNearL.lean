--%!
/- The walk of the law on the nearest of some points: it returns true. Own work. -/
import Derived.Test.YtnmihmjgmanllaaNear
namespace Go.Proofs.Ytnmihmjgmanllaa
open Go.ChangeShapes Go.WideShapes Go.ChangeAt Go.RowKit
set_option linter.unusedVariables false
set_option maxRecDepth 100000
set_option maxHeartbeats 1000000

theorem nearV_form (ps : List (Int × Int)) (x y : Int) : ∃ u v : Int, nearV ps x y = .tuple #[.int .i64 u, .int .i64 v] := by
  unfold nearV
  split
  · split
    · exact ⟨_, _, rfl⟩
    · split
      · exact ⟨_, _, rfl⟩
      · exact ⟨_, _, rfl⟩
  · exact ⟨_, _, rfl⟩
theorem heldX {w W w1 : World} {g0 o0 g1 o1 : Nat} {v0 v1 : Value} (h : Below w.heap.size w W ∧ W.cell? ⟨g0, o0, none⟩ = some v0 ∧ W.cell? ⟨g1, o1, none⟩ = some v1) (hb : Below W.heap.size W w1) :
    Below w.heap.size w w1 ∧ w1.cell? ⟨g0, o0, none⟩ = some v0 ∧ w1.cell? ⟨g1, o1, none⟩ = some v1 := ⟨below_next hb h.1, keep_cell h.2.1 hb, keep_cell h.2.2 hb⟩
theorem heldXD {w W : World} {g0 o0 g1 o1 : Nat} {v0 v1 : Value} (h : Below w.heap.size w W ∧ W.cell? ⟨g0, o0, none⟩ = some v0 ∧ W.cell? ⟨g1, o1, none⟩ = some v1) :
    Below w.heap.size w W.drew ∧ W.drew.cell? ⟨g0, o0, none⟩ = some v0 ∧ W.drew.cell? ⟨g1, o1, none⟩ = some v1 := ⟨h.1.drew, h.2⟩
theorem fnExactNearestOf_walk (A0 : Option Addr) (n0 c0 : Nat) (ps : List (Int × Int)) (hn0 : ps.length = n0) (hm0 : n0 ≤ maxLen) (hf0 : PtFit ps) (x y : Int) (_ : -9223372036854775808 ≤ x) (_ : x ≤ 9223372036854775807) (_ : -9223372036854775808 ≤ y) (_ : y ≤ 9223372036854775807) (w : World) (hp0 : PtRd w w.heap.size A0 ps) :
    Calls Try.prog 9 #[.slice A0 n0 c0, .agg #[.int .i64 x, .int .i64 y]] w fun e w' => e = .returned (.bool true) ∧ Below w.heap.size w w' := by
  subst hn0
  have HR := hide hp0
  have hB0 : Below w.heap.size w (w.alloc (.cells #[.int .i64 x, .int .i64 y] 25)) := by go_grown
  have hX0 := BoxP.new w 25 x y
  have hS0 : Below w.heap.size w (w.alloc (.cells #[.int .i64 x, .int .i64 y] 25)) ∧ (w.alloc (.cells #[.int .i64 x, .int .i64 y] 25)).cell? ⟨w.heap.size, 0, none⟩ = some (.int .i64 x) ∧ (w.alloc (.cells #[.int .i64 x, .int .i64 y] 25)).cell? ⟨w.heap.size, 1, none⟩ = some (.int .i64 y) := ⟨hB0, hX0.2.1, hX0.2.2⟩
  have HS0 := hide hS0
  clear hp0 hf0 hB0 hX0 hS0
  have hm' := hm0
  unfold maxLen at hm0
  by_cases hl : ps.length ≤ 1048576
  · have hno : ¬ 1048576 < ps.length := by omega
    obtain ⟨u, v, huv⟩ := nearV_form ps x y
    have CS := fun g c W (h : PtsAt W g 0 ps) (k : g < W.heap.size) => nearS g c ps x y hl W h k
    have CI := fun g c W (h : PtsAt W g 0 ps) (k : g < W.heap.size) => nearI g c ps x y hl W h k
    rw [huv] at CS CI
    have HCS := hide CS
    have HCI := hide CI
    clear CS CI huv
    go_enter Try.func9, Try.ntmps9
    go_wp2_with fail
    refine (szPoints _ _ _ hm' _).mono ?_
    rw [if_neg hno]
    rintro e w' ⟨rfl, rfl⟩
    go_wp2_with fail
    go_region_held3 (fun w' => Below w.heap.size w w' ∧ w'.cell? ⟨w.heap.size, 0, none⟩ = some (.int .i64 x) ∧ w'.cell? ⟨w.heap.size, 1, none⟩ = some (.int .i64 y)) (first | exact heldXD HS0.out | exact heldXD (by assumption) | exact heldX (by assumption) (by assumption) | go_keep) (first | (go_at_call 29; refine (toPoints A0 _ c0 ps rfl hl _ ((HR.out.below (And.left (by assumption : Below w.heap.size w _ ∧ _))).more (And.left (by assumption : Below w.heap.size w _ ∧ _)).size)).mono ?_; rintro e w1 ⟨g1, rfl, hg1, hl1, hp1, hb1⟩; have HT1 := hide hp1) | (go_at_call 18; refine (toPt _ _ _).mono ?_; rintro e w2 ⟨rfl, hb2⟩; have HT2 := hide (HT1.out.below hb2 hl1); have hl2 := Nat.lt_of_lt_of_le hl1 hb2.size) | (go_at_call 28; refine (HCS.out _ _ _ HT2.out hl2).mono ?_; rintro e w3 ⟨rfl, hb3⟩))
    have HS3 := hide (by assumption : Below w.heap.size w w3 ∧ _)
    have HR3 := hide ((HR.out.below HS3.out.1).more HS3.out.1.size)
    clear HT1 HT2 hb1 hb2 hb3 hp1 hg1 hl1 hl2 HCS
    go_wp2_with fail
    refine (toPoints A0 _ c0 ps rfl hl _ HR3.out).mono ?_
    rintro e w4 ⟨g4, rfl, hg4, hl4, hp4, hb4⟩
    have HT4 := hide hp4
    have HS4 := hide (heldX HS3.out hb4)
    clear hp4 hb4 HS3 HR3
    obtain ⟨hB4, x1, x2⟩ := id HS4.out
    go_wp2_with fail
    refine (toPt _ _ _).mono ?_
    rintro e w5 ⟨rfl, hb5⟩
    have HT5 := hide (HT4.out.below hb5 hl4)
    have hl5 := Nat.lt_of_lt_of_le hl4 hb5.size
    have HS5 := hide (heldX HS4.out hb5)
    clear hb5 x1 x2 HS4 HT4 hB4
    go_wp2_with fail
    refine (HCI.out _ _ _ HT5.out hl5).mono ?_
    rintro e w6 ⟨rfl, hb6⟩
    have HT6 := hide (HT5.out.below hb6 hl5)
    have hl6 := Nat.lt_of_lt_of_le hl5 hb6.size
    have HS6 := hide (heldX HS5.out hb6)
    have HR6 := hide ((HR.out.below HS6.out.1).more HS6.out.1.size)
    clear hb6 HS5 HT5
    have z1 : (u != u) = false := by simp
    have z2 : (v != v) = false := by simp
    go_wp2_with fail
    refine (toPoints A0 _ c0 ps rfl hl _ HR6.out).mono ?_
    rintro e w7 ⟨g7, rfl, hg7, hl7, hp7, hb7⟩
    have HT7 := hide hp7
    have HU7 := hide (HT6.out.below hb7 hl6)
    have hl8 := Nat.lt_of_lt_of_le hl6 hb7.size
    have hB7 := below_next hb7 HS6.out.1
    clear hp7 hb7
    go_wp2_with fail
    refine (eqPoints _ _ _ _ _ ps rfl hl _ HU7.out HT7.out hl8 hl7).mono ?_
    rintro e w8 ⟨rfl, hb8⟩
    have hB8 := below_next hb8 hB7
    go_wp2_with fail
    go_ret
    exact ⟨rfl, hB8⟩
  · have hno : 1048576 < ps.length := by omega
    go_enter Try.func9, Try.ntmps9
    go_wp2_with fail
    refine (szPoints _ _ _ hm' _).mono ?_
    rw [if_pos hno]
    rintro e w' ⟨rfl, rfl⟩
    go_wp2_with fail
    go_ret
    exact ⟨rfl, HS0.out.1⟩
end Go.Proofs.Ytnmihmjgmanllaa
