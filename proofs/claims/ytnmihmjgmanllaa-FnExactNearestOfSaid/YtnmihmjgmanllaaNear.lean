--%!
/- Contracts of the search for the nearest of some points, reference and program alike. Own work. -/
import Derived.Test.YtnmihmjgmanllaaPtArg
import Derived.Deep.Cut
namespace Go.Proofs.Ytnmihmjgmanllaa
open Go.ChangeShapes Go.WideShapes Go.ChangeAt Go.RowKit
set_option linter.unusedVariables false
set_option maxRecDepth 100000
set_option maxHeartbeats 1000000

def sqAt (ps : List (Int × Int)) (x y : Int) (i : Nat) : Int := sqd (ps.getD i (0, 0)).1 (ps.getD i (0, 0)).2 x y
theorem sqAt_at {ps : List (Int × Int)} {x y : Int} {i : Nat} (h : i < ps.length) : sqAt ps x y i = sqd ps[i].1 ps[i].2 x y := by unfold sqAt; rw [List.getD_eq_getElem?_getD, List.getElem?_eq_getElem h]; rfl
/-- the nearest of the first points -/
def nearK (ps : List (Int × Int)) (x y : Int) : Nat → Nat
  | 0 => 0
  | k + 1 => if sqAt ps x y k < sqAt ps x y (nearK ps x y k) then k else nearK ps x y k
theorem nearK_yes {ps : List (Int × Int)} {x y : Int} {k : Nat} (h : sqAt ps x y k < sqAt ps x y (nearK ps x y k)) : nearK ps x y (k + 1) = k := if_pos h
theorem nearK_no {ps : List (Int × Int)} {x y : Int} {k : Nat} (h : ¬ sqAt ps x y k < sqAt ps x y (nearK ps x y k)) : nearK ps x y (k + 1) = nearK ps x y k := if_neg h
theorem nearK_one (ps : List (Int × Int)) (x y : Int) : nearK ps x y 1 = 0 := by unfold nearK; split <;> rfl
theorem nearK_lt (ps : List (Int × Int)) (x y : Int) (k : Nat) (h1 : 1 ≤ k) : nearK ps x y k < k := by
  induction k with
  | zero => omega
  | succ k ih =>
    unfold nearK
    split
    · omega
    · by_cases h : k = 0
      · subst h; unfold nearK; omega
      · have := ih (by omega); omega
theorem nearK_lt0 (ps : List (Int × Int)) (x y : Int) (k : Nat) (h : k < ps.length) : nearK ps x y k < ps.length := by
  by_cases h0 : k = 0
  · subst h0; unfold nearK; exact h
  · have := nearK_lt ps x y k (by omega); omega
def nearV (ps : List (Int × Int)) (x y : Int) : Value :=
  if allOk ps = true ∧ okP x y = true then (if 64 < ps.length then .tuple #[.int .i64 0, .int .i64 5] else if ps.length = 0 then .tuple #[.int .i64 0, .int .i64 6] else .tuple #[.int .i64 (nearK ps x y ps.length), .int .i64 0]) else .tuple #[.int .i64 0, .int .i64 1]
theorem nearV_a {ps : List (Int × Int)} {x y : Int} (h : allOk ps = false) : nearV ps x y = .tuple #[.int .i64 0, .int .i64 1] := if_neg (fun k => by have := k.1; rw [h] at this; cases this)
theorem nearV_p {ps : List (Int × Int)} {x y : Int} (h : okP x y = false) : nearV ps x y = .tuple #[.int .i64 0, .int .i64 1] := if_neg (fun k => by have := k.2; rw [h] at this; cases this)
theorem nearV_l {ps : List (Int × Int)} {x y : Int} (h : allOk ps = true) (k : okP x y = true) (l : 64 < ps.length) : nearV ps x y = .tuple #[.int .i64 0, .int .i64 5] := by unfold nearV; rw [if_pos ⟨h, k⟩, if_pos l]
theorem nearV_0 {ps : List (Int × Int)} {x y : Int} (h : allOk ps = true) (k : okP x y = true) (l : ps.length = 0) : nearV ps x y = .tuple #[.int .i64 0, .int .i64 6] := by unfold nearV; rw [if_pos ⟨h, k⟩, if_neg (by omega), if_pos l]
theorem nearV_y {ps : List (Int × Int)} {x y : Int} (h : allOk ps = true) (k : okP x y = true) (l : ¬ 64 < ps.length) (m : ps.length ≠ 0) : nearV ps x y = .tuple #[.int .i64 (nearK ps x y ps.length), .int .i64 0] := by unfold nearV; rw [if_pos ⟨h, k⟩, if_neg l, if_neg m]
/-- a point in a box of the call's own -/
def BoxP (W : World) (b : Nat) (x y : Int) : Prop := b < W.heap.size ∧ W.cell? ⟨b, 0, none⟩ = some (.int .i64 x) ∧ W.cell? ⟨b, 1, none⟩ = some (.int .i64 y)
theorem BoxP.new (w : World) (t : TypeId) (x y : Int) : BoxP (w.alloc (.cells #[.int .i64 x, .int .i64 y] t)) w.heap.size x y := ⟨by simp, cell_of_row _ _ _ _ _ _ (heap_alloc_new w _), cell_of_row _ _ _ _ _ _ (heap_alloc_new w _)⟩
theorem BoxP.below {W W' : World} {b : Nat} {x y : Int} (h : BoxP W b x y) (hb : Below W.heap.size W W') : BoxP W' b x y := ⟨Nat.lt_of_lt_of_le h.1 hb.size, (hb.cell (p := ⟨b, 0, none⟩) h.1).trans h.2.1, (hb.cell (p := ⟨b, 1, none⟩) h.1).trans h.2.2⟩
theorem keep_cell {W w1 : World} {g o : Nat} {v : Value} (h : W.cell? ⟨g, o, none⟩ = some v) (hb : Below W.heap.size W w1) : w1.cell? ⟨g, o, none⟩ = some v := (hb.cell (p := ⟨g, o, none⟩) (World.block_lt_of_cell? W _ h)).trans h
theorem heldN {w W w1 : World} {g0 o0 g1 o1 g2 o2 g3 o3 g4 o4 g5 o5 : Nat} {v0 v1 v2 v3 v4 v5 : Value} (h : Below w.heap.size w W ∧ W.cell? ⟨g0, o0, none⟩ = some v0 ∧ W.cell? ⟨g1, o1, none⟩ = some v1 ∧ W.cell? ⟨g2, o2, none⟩ = some v2 ∧ W.cell? ⟨g3, o3, none⟩ = some v3 ∧ W.cell? ⟨g4, o4, none⟩ = some v4 ∧ W.cell? ⟨g5, o5, none⟩ = some v5) (hb : Below W.heap.size W w1) :
    Below w.heap.size w w1 ∧ w1.cell? ⟨g0, o0, none⟩ = some v0 ∧ w1.cell? ⟨g1, o1, none⟩ = some v1 ∧ w1.cell? ⟨g2, o2, none⟩ = some v2 ∧ w1.cell? ⟨g3, o3, none⟩ = some v3 ∧ w1.cell? ⟨g4, o4, none⟩ = some v4 ∧ w1.cell? ⟨g5, o5, none⟩ = some v5 :=
  ⟨below_next hb h.1, keep_cell h.2.1 hb, keep_cell h.2.2.1 hb, keep_cell h.2.2.2.1 hb, keep_cell h.2.2.2.2.1 hb, keep_cell h.2.2.2.2.2.1 hb, keep_cell h.2.2.2.2.2.2 hb⟩
theorem heldND {w W : World} {g0 o0 g1 o1 g2 o2 g3 o3 g4 o4 g5 o5 : Nat} {v0 v1 v2 v3 v4 v5 : Value} (h : Below w.heap.size w W ∧ W.cell? ⟨g0, o0, none⟩ = some v0 ∧ W.cell? ⟨g1, o1, none⟩ = some v1 ∧ W.cell? ⟨g2, o2, none⟩ = some v2 ∧ W.cell? ⟨g3, o3, none⟩ = some v3 ∧ W.cell? ⟨g4, o4, none⟩ = some v4 ∧ W.cell? ⟨g5, o5, none⟩ = some v5) :
    Below w.heap.size w W.drew ∧ W.drew.cell? ⟨g0, o0, none⟩ = some v0 ∧ W.drew.cell? ⟨g1, o1, none⟩ = some v1 ∧ W.drew.cell? ⟨g2, o2, none⟩ = some v2 ∧ W.drew.cell? ⟨g3, o3, none⟩ = some v3 ∧ W.drew.cell? ⟨g4, o4, none⟩ = some v4 ∧ W.drew.cell? ⟨g5, o5, none⟩ = some v5 := ⟨h.1.drew, h.2⟩
theorem retV {a b : Value} (h : a = b) : Ending.returned a = .returned b := by rw [h]
theorem nearS (g c : Nat) (ps : List (Int × Int)) (x y : Int) (hb : ps.length ≤ 1048576) (w : World) (hp : PtsAt w g 0 ps) (hg : g < w.heap.size) :
    Calls Try.prog 28 #[.slice (some ⟨g, 0, none⟩) ps.length c, .agg #[.int .i64 x, .int .i64 y]] w fun e w' => e = .returned (nearV ps x y) ∧ Below w.heap.size w w' := by
  have HP := hide hp
  clear hp
  have hB0 : Below w.heap.size w (w.alloc (.cells #[.int .i64 x, .int .i64 y] 27)) := by go_grown
  have hX0 := BoxP.new w 27 x y
  cases k0 : okP x y
  · have H := hide (nearV_p (ps := ps) k0)
    go_enter Try.func28, Try.ntmps28
    go_wp2_with (go_at_call 42; refine (okS _ _ _).mono ?_; rintro e w1 ⟨rfl, hb1⟩)
    go_returns
    exact ⟨retV H.out.symm, below_next hb1 hB0⟩
  · cases k1 : allOk ps
    · have H := hide (nearV_a (x := x) (y := y) k1)
      go_enter Try.func28, Try.ntmps28
      go_wp2_with fail
      refine (okS _ _ _).mono ?_
      rw [k0]
      rintro e w1 ⟨rfl, hb1⟩
      have hB1 := below_next hb1 hB0
      have HP1 := hide (HP.out.below hB1 hg)
      have hg1 := Nat.lt_of_lt_of_le hg hB1.size
      clear hb1 k0 hX0 hB0
      go_wp2_with fail
      refine (allS g 0 ps.length c ps rfl (by omega) _ HP1.out hg1).mono ?_
      rw [k1]
      rintro e w2 ⟨rfl, hb2⟩
      have hB2 := below_next hb2 hB1
      clear hb2 k1 hB1
      go_wp2_with fail
      go_returns
      exact ⟨retV H.out.symm, hB2⟩
    · have HA := hide k1
      have HK := hide k0
      go_enter Try.func28, Try.ntmps28
      go_wp2_with fail
      refine (okS _ _ _).mono ?_
      rw [k0]
      rintro e w1 ⟨rfl, hb1⟩
      have hB1 := below_next hb1 hB0
      have hX1 := hX0.below hb1
      have HP1 := hide (HP.out.below hB1 hg)
      have hg1 := Nat.lt_of_lt_of_le hg hB1.size
      clear hb1 k0 hX0 hB0
      go_wp2_with fail
      refine (allS g 0 ps.length c ps rfl (by omega) _ HP1.out hg1).mono ?_
      rw [k1]
      rintro e w2 ⟨rfl, hb2⟩
      have hB2 := below_next hb2 hB1
      have HX2 := hide (hX1.below hb2)
      have HP2 := hide (HP.out.below hB2 hg)
      have hg2 := Nat.lt_of_lt_of_le hg hB2.size
      clear hb2 k1 hB1 hX1 HP1
      by_cases l0 : 64 < ps.length
      · have H := hide (nearV_l HA.out HK.out l0)
        go_wp2_with fail
        go_returns
        exact ⟨retV H.out.symm, hB2⟩
      · by_cases l1 : ps.length = 0
        · have H := hide (nearV_0 HA.out HK.out l1)
          go_wp2_with fail
          go_returns
          exact ⟨retV H.out.symm, hB2⟩
        · have H := hide (nearV_y HA.out HK.out l0 l1)
          have z0 : ((ps.length : Int) == 0) = false := beq_false_of_ne (by omega)
          go_wp2_with fail
          go_loopw [6, 7] (fun b i wr => ∃ k : Nat, 1 ≤ k ∧ k ≤ ps.length ∧ b = .int .i64 (nearK ps x y k) ∧ i = .int .i64 k ∧ Below w2.heap.size w2 wr) (fun _ i _ => ps.length - (intOf i).toNat)
          case atStart => exact ⟨1, Nat.le_refl _, by omega, by rw [nearK_one]; rfl, rfl, Below.refl _ _⟩
          case round =>
            obtain ⟨k, hk1, hk, rfl, rfl, hbw⟩ := hrel
            by_cases hlt : k < ps.length
            · have hq := nearK_lt ps x y k hk1
              have hlq : nearK ps x y k < ps.length := by omega
              obtain ⟨c1, c2⟩ := (HP2.out.below hbw hg2) k hlt
              obtain ⟨d1, d2⟩ := (HP2.out.below hbw hg2) (nearK ps x y k) hlq
              obtain ⟨-, x1, x2⟩ := HX2.out.below hbw
              rw [Nat.zero_add] at c1 c2 d1 d2
              have ok1 := allOk_at HA.out hlt
              have ok2 := allOk_at HA.out hlq
              have ok0 := HK.out
              have N : nearK ps x y (k + 1) = if sqAt ps x y k < sqAt ps x y (nearK ps x y k) then k else nearK ps x y k := rfl
              rw [sqAt_at hlt, sqAt_at hlq] at N
              obtain ⟨a1, ha1⟩ : ∃ a, ps[k].1 = a := ⟨_, rfl⟩
              obtain ⟨b1, hb1⟩ : ∃ a, ps[k].2 = a := ⟨_, rfl⟩
              obtain ⟨a2, ha2⟩ : ∃ a, ps[nearK ps x y k].1 = a := ⟨_, rfl⟩
              obtain ⟨b2, hb2⟩ : ∃ a, ps[nearK ps x y k].2 = a := ⟨_, rfl⟩
              rw [ha1, hb1] at ok1
              rw [ha2, hb2] at ok2
              rw [ha1, hb1, ha2, hb2] at N
              rw [ha1] at c1
              rw [hb1] at c2
              rw [ha2] at d1
              rw [hb2] at d2
              clear ha1 hb1 ha2 hb2
              have HN := hide N
              obtain ⟨q, hqq⟩ : ∃ q, nearK ps x y k = q := ⟨_, rfl⟩
              rw [hqq] at d1 d2 hq hlq HN ⊢
              have hzz := hbw.size
              clear N hqq
              go_wp2_with fail
              go_region_held3 (fun w' => Below wr.heap.size wr w' ∧ w'.cell? ⟨g, k * 2, none⟩ = some (.int .i64 a1) ∧ w'.cell? ⟨g, k * 2 + 1, none⟩ = some (.int .i64 b1) ∧ w'.cell? ⟨g, q * 2, none⟩ = some (.int .i64 a2) ∧ w'.cell? ⟨g, q * 2 + 1, none⟩ = some (.int .i64 b2) ∧ w'.cell? ⟨w.heap.size, 0, none⟩ = some (.int .i64 x) ∧ w'.cell? ⟨w.heap.size, 1, none⟩ = some (.int .i64 y)) (first | assumption | exact heldND (by assumption) | exact heldN (by assumption) (by assumption) | exact ⟨(Below.refl _ _).drew, c1, c2, d1, d2, x1, x2⟩ | go_keep) ((go_at_call 56; refine (squaredS _ _ _ _ (by assumption) (by assumption) _).mono ?_; rintro e w3 ⟨rfl, hb3⟩))
              have hBW := below_next (w0 := w2) (And.left (by assumption : Below wr.heap.size wr _ ∧ _)) hbw
              by_cases hu : sqd a1 b1 x y < sqd a2 b2 x y
              · have HQ := hide (HN.out.trans (if_pos hu))
                go_wp2_with fail
                go_roundw
                case rel => exact ⟨k + 1, by omega, by omega, by rw [HQ.out], by go_num, hBW⟩
                case measure => simp [intOf]; omega
              · have HQ := hide (HN.out.trans (if_neg hu))
                go_wp2_with fail
                go_roundw
                case rel => exact ⟨k + 1, by omega, by omega, by rw [HQ.out], by go_num, hBW⟩
                case measure => simp [intOf]; omega
            · obtain rfl : k = ps.length := by omega
              go_wp2_with fail
              go_returns
              exact ⟨retV H.out.symm, below_next hbw hB2⟩
theorem fewP (n m : Int) (w : World) : Calls Try.prog 58 #[.int .i64 n, .int .i64 m] w fun e w' => e = .returned (.bool (decide (n ≤ m))) ∧ w = w' := by
  go_enter Try.func58, Try.ntmps58
  go_wp2
  go_ret
  exact ⟨rfl, rfl⟩
theorem nearI (g c : Nat) (ps : List (Int × Int)) (x y : Int) (hb : ps.length ≤ 1048576) (w : World) (hp : PtsAt w g 0 ps) (hg : g < w.heap.size) :
    Calls Try.prog 30 #[.slice (some ⟨g, 0, none⟩) ps.length c, .agg #[.int .i64 x, .int .i64 y]] w fun e w' => e = .returned (nearV ps x y) ∧ Below w.heap.size w w' := by
  have HP := hide hp
  clear hp
  have hB0 : Below w.heap.size w (w.alloc (.cells #[.int .i64 x, .int .i64 y] 27)) := by go_grown
  have hX0 := BoxP.new w 27 x y
  cases k1 : allOk ps
  · have H := hide (nearV_a (x := x) (y := y) k1)
    have HP1 := hide (HP.out.below hB0 hg)
    have hg1 : g < (w.alloc (.cells #[.int .i64 x, .int .i64 y] 27)).heap.size := by simp; omega
    clear hX0
    go_enter Try.func30, Try.ntmps30
    go_wp2_with fail
    refine (arePointsI g 0 ps.length c ps rfl (by omega) _ HP1.out hg1).mono ?_
    rw [k1]
    rintro e w1 ⟨rfl, hb1⟩
    have hB1 := below_next hb1 hB0
    clear hb1 hB0 HP1 k1
    go_wp2_with fail
    go_returns
    exact ⟨retV H.out.symm, hB1⟩
  · have HA := hide k1
    have HP1 := hide (HP.out.below hB0 hg)
    have hg1 : g < (w.alloc (.cells #[.int .i64 x, .int .i64 y] 27)).heap.size := by simp; omega
    go_enter Try.func30, Try.ntmps30
    go_wp2_with fail
    refine (arePointsI g 0 ps.length c ps rfl (by omega) _ HP1.out hg1).mono ?_
    rw [k1]
    rintro e w1 ⟨rfl, hb1⟩
    have hX1 := hX0.below hb1
    obtain ⟨-, x1, x2⟩ := id hX1
    have hB1 := below_next hb1 hB0
    clear hb1 hB0 HP1 k1
    cases k0 : okP x y
    · have H := hide (nearV_p (ps := ps) k0)
      go_wp2_with fail
      refine (okI _ _ _).mono ?_
      rw [k0]
      rintro e w2 ⟨rfl, hb2⟩
      have hB2 := below_next hb2 hB1
      clear hb2 k0 hB1
      go_wp2_with fail
      go_returns
      exact ⟨retV H.out.symm, hB2⟩
    · have HK := hide k0
      go_wp2_with fail
      refine (okI _ _ _).mono ?_
      rw [k0]
      rintro e w2 ⟨rfl, hb2⟩
      have hB2 := below_next hb2 hB1
      have HX2 := hide (hX1.below hb2)
      have HP2 := hide (HP.out.below hB2 hg)
      have hg2 := Nat.lt_of_lt_of_le hg hB2.size
      clear hb2 k0 hB1 x1 x2 hX1
      by_cases l0 : 64 < ps.length
      · have H := hide (nearV_l HA.out HK.out l0)
        have z1 : decide ((ps.length : Int) ≤ 64) = false := decide_eq_false (by omega)
        go_wp2_with (go_at_call 58; refine (fewP _ _ _).mono ?_; rintro e w' ⟨rfl, rfl⟩)
        go_returns
        exact ⟨retV H.out.symm, hB2⟩
      · have z1 : decide ((ps.length : Int) ≤ 64) = true := decide_eq_true (by omega)
        by_cases l1 : ps.length = 0
        · have H := hide (nearV_0 HA.out HK.out l1)
          go_wp2_with (go_at_call 58; refine (fewP _ _ _).mono ?_; rintro e w' ⟨rfl, rfl⟩)
          go_returns
          exact ⟨retV H.out.symm, hB2⟩
        · have H := hide (nearV_y HA.out HK.out l0 l1)
          have z0 : ((ps.length : Int) == 0) = false := beq_false_of_ne (by omega)
          go_wp2_with (go_at_call 58; refine (fewP _ _ _).mono ?_; rintro e w' ⟨rfl, rfl⟩)
          go_loopw [6, 29] (fun b i wr => ∃ k : Nat, k ≤ ps.length ∧ b = .int .i64 (nearK ps x y k) ∧ i = .int .i64 k ∧ Below w2.heap.size w2 wr) (fun _ i _ => ps.length - (intOf i).toNat)
          case atStart => exact ⟨0, Nat.zero_le _, rfl, rfl, Below.refl _ _⟩
          case round =>
            obtain ⟨k, hk, rfl, rfl, hbw⟩ := hrel
            by_cases hlt : k < ps.length
            · have hlq := nearK_lt0 ps x y k hlt
              obtain ⟨c1, c2⟩ := (HP2.out.below hbw hg2) k hlt
              obtain ⟨d1, d2⟩ := (HP2.out.below hbw hg2) (nearK ps x y k) hlq
              obtain ⟨-, x1, x2⟩ := HX2.out.below hbw
              rw [Nat.zero_add] at c1 c2 d1 d2
              have ok1 := allOk_at HA.out hlt
              have ok2 := allOk_at HA.out hlq
              have ok0 := HK.out
              have N : nearK ps x y (k + 1) = if sqAt ps x y k < sqAt ps x y (nearK ps x y k) then k else nearK ps x y k := rfl
              rw [sqAt_at hlt, sqAt_at hlq] at N
              obtain ⟨a1, ha1⟩ : ∃ a, ps[k].1 = a := ⟨_, rfl⟩
              obtain ⟨b1, hb1⟩ : ∃ a, ps[k].2 = a := ⟨_, rfl⟩
              obtain ⟨a2, ha2⟩ : ∃ a, ps[nearK ps x y k].1 = a := ⟨_, rfl⟩
              obtain ⟨b2, hb2⟩ : ∃ a, ps[nearK ps x y k].2 = a := ⟨_, rfl⟩
              rw [ha1, hb1] at ok1
              rw [ha2, hb2] at ok2
              rw [ha1, hb1, ha2, hb2] at N
              rw [ha1] at c1
              rw [hb1] at c2
              rw [ha2] at d1
              rw [hb2] at d2
              clear ha1 hb1 ha2 hb2
              have HN := hide N
              obtain ⟨q, hqq⟩ : ∃ q, nearK ps x y k = q := ⟨_, rfl⟩
              rw [hqq] at d1 d2 hlq HN ⊢
              have hzz := hbw.size
              clear N hqq
              have hBA : Below wr.heap.size wr (wr.alloc (.cells #[.int .i64 a1, .int .i64 b1] 27)) := (Below.refl _ wr).alloc (Nat.le_refl _) _
              have hA0 : Below wr.heap.size wr (wr.alloc (.cells #[.int .i64 a1, .int .i64 b1] 27)) ∧ (wr.alloc (.cells #[.int .i64 a1, .int .i64 b1] 27)).cell? ⟨wr.heap.size, 0, none⟩ = some (.int .i64 a1) ∧ (wr.alloc (.cells #[.int .i64 a1, .int .i64 b1] 27)).cell? ⟨wr.heap.size, 1, none⟩ = some (.int .i64 b1) ∧ (wr.alloc (.cells #[.int .i64 a1, .int .i64 b1] 27)).cell? ⟨g, q * 2, none⟩ = some (.int .i64 a2) ∧ (wr.alloc (.cells #[.int .i64 a1, .int .i64 b1] 27)).cell? ⟨g, q * 2 + 1, none⟩ = some (.int .i64 b2) ∧ (wr.alloc (.cells #[.int .i64 a1, .int .i64 b1] 27)).cell? ⟨w.heap.size, 0, none⟩ = some (.int .i64 x) ∧ (wr.alloc (.cells #[.int .i64 a1, .int .i64 b1] 27)).cell? ⟨w.heap.size, 1, none⟩ = some (.int .i64 y) := ⟨hBA, cell_of_row _ wr.heap.size 0 _ _ _ (heap_alloc_new wr _), cell_of_row _ wr.heap.size 1 _ _ _ (heap_alloc_new wr _), keep_cell d1 hBA, keep_cell d2 hBA, keep_cell x1 hBA, keep_cell x2 hBA⟩
              have hA := hide hA0
              clear hBA hA0
              go_wp2_with fail
              go_region_held3 (fun w' => Below wr.heap.size wr w' ∧ w'.cell? ⟨wr.heap.size, 0, none⟩ = some (.int .i64 a1) ∧ w'.cell? ⟨wr.heap.size, 1, none⟩ = some (.int .i64 b1) ∧ w'.cell? ⟨g, q * 2, none⟩ = some (.int .i64 a2) ∧ w'.cell? ⟨g, q * 2 + 1, none⟩ = some (.int .i64 b2) ∧ w'.cell? ⟨w.heap.size, 0, none⟩ = some (.int .i64 x) ∧ w'.cell? ⟨w.heap.size, 1, none⟩ = some (.int .i64 y)) (first | assumption | exact heldND (by assumption) | exact heldN (by assumption) (by assumption) | exact heldND hA.out | go_keep) ((go_at_call 48; refine (squaredI _ _ _ _ (by assumption) (by assumption) _).mono ?_; rintro e w3 ⟨rfl, hb3⟩))
              have hBW := below_next (w0 := w2) (And.left (by assumption : Below wr.heap.size wr _ ∧ _)) hbw
              by_cases hu : sqd a1 b1 x y < sqd a2 b2 x y
              · have HQ := hide (HN.out.trans (if_pos hu))
                go_wp2_with fail
                go_roundw
                case rel => exact ⟨k + 1, by omega, by rw [HQ.out], by go_num, hBW⟩
                case measure => simp [intOf]; omega
              · have HQ := hide (HN.out.trans (if_neg hu))
                go_wp2_with fail
                go_roundw
                case rel => exact ⟨k + 1, by omega, by rw [HQ.out], by go_num, hBW⟩
                case measure => simp [intOf]; omega
            · obtain rfl : k = ps.length := by omega
              go_wp2_with fail
              go_returns
              exact ⟨retV H.out.symm, below_next hbw hB2⟩
end Go.Proofs.Ytnmihmjgmanllaa
