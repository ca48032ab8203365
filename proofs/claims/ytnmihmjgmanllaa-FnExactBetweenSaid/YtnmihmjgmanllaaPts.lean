--%!
/- Contracts of the functions on points, reference and program alike. -/
import Derived.Test.YtnmihmjgmanllaaTrig
import Derived.Test.YtnmihmjgmanllaaPtsMath
import Derived.Deep.RegionHeld3
namespace Go.Proofs.Ytnmihmjgmanllaa
open Go.ChangeShapes Go.WideShapes Go.ChangeAt Go.RowKit
set_option linter.unusedVariables false
set_option maxRecDepth 100000
set_option maxHeartbeats 1000000
theorem squaredI (a b c d : Int) (h : okP a b = true) (k : okP c d = true) (w : World) :
    Calls Try.prog 48 #[.agg #[.int .i64 a, .int .i64 b], .agg #[.int .i64 c, .int .i64 d]] w fun e w' => e = .returned (.int .i64 (sqd a b c d)) ∧ Below w.heap.size w w' := by
  obtain ⟨⟨_, _⟩, ⟨_, _⟩, ⟨_, _⟩, _, _⟩ := sqd_parts h k
  clear h k
  go_enter Try.func48, Try.ntmps48
  go_wp2
  go_ret
  exact ⟨rfl, by go_grown⟩
theorem squaredS (a b c d : Int) (h : okP a b = true) (k : okP c d = true) (w : World) :
    Calls Try.prog 56 #[.agg #[.int .i64 a, .int .i64 b], .agg #[.int .i64 c, .int .i64 d]] w fun e w' => e = .returned (.int .i64 (sqd a b c d)) ∧ Below w.heap.size w w' := by
  obtain ⟨⟨_, _⟩, ⟨_, _⟩, ⟨_, _⟩, _, _⟩ := sqd_parts h k
  clear h k
  go_enter Try.func56, Try.ntmps56
  go_wp2
  go_ret
  exact ⟨rfl, by go_grown⟩
theorem crossI (a b c d e f : Int) (h : okP a b = true) (k : okP c d = true) (l : okP e f = true) (w : World) :
    Calls Try.prog 45 #[.agg #[.int .i64 a, .int .i64 b], .agg #[.int .i64 c, .int .i64 d], .agg #[.int .i64 e, .int .i64 f]] w fun en w' => en = .returned (.int .i64 (crs a b c d e f)) ∧ Below w.heap.size w w' := by
  obtain ⟨⟨_, _⟩, _, _⟩ := crs_parts h k l
  obtain ⟨_, _, _, _⟩ := okP_bd h
  obtain ⟨_, _, _, _⟩ := okP_bd k
  obtain ⟨_, _, _, _⟩ := okP_bd l
  clear h k l
  go_enter Try.func45, Try.ntmps45
  go_wp2
  go_ret
  exact ⟨rfl, by go_grown⟩
theorem crossS (a b c d e f : Int) (h : okP a b = true) (k : okP c d = true) (l : okP e f = true) (w : World) :
    Calls Try.prog 69 #[.agg #[.int .i64 a, .int .i64 b], .agg #[.int .i64 c, .int .i64 d], .agg #[.int .i64 e, .int .i64 f]] w fun en w' => en = .returned (.int .i64 (crs a b c d e f)) ∧ Below w.heap.size w w' := by
  obtain ⟨⟨_, _⟩, _, _⟩ := crs_parts h k l
  obtain ⟨_, _, _, _⟩ := okP_bd h
  obtain ⟨_, _, _, _⟩ := okP_bd k
  obtain ⟨_, _, _, _⟩ := okP_bd l
  clear h k l
  go_enter Try.func69, Try.ntmps69
  go_wp2
  go_ret
  exact ⟨rfl, by go_grown⟩
/-- points lie in a block, one after the other -/
def PtsAt (w : World) (g off : Nat) (ps : List (Int × Int)) : Prop :=
  ∀ (k : Nat) (h : k < ps.length), w.cell? ⟨g, off + k * 2, none⟩ = some (.int .i64 ps[k].1) ∧ w.cell? ⟨g, off + k * 2 + 1, none⟩ = some (.int .i64 ps[k].2)
theorem PtsAt.below {w w' : World} {g off B : Nat} {ps : List (Int × Int)} (h : PtsAt w g off ps) (hb : Below B w w') (hg : g < B) : PtsAt w' g off ps := fun k hk =>
  ⟨(hb.cell (p := ⟨g, off + k * 2, none⟩) hg).trans (h k hk).1, (hb.cell (p := ⟨g, off + k * 2 + 1, none⟩) hg).trans (h k hk).2⟩
theorem arePointsI (g off n c : Nat) (ps : List (Int × Int)) (hn : ps.length = n) (hb : n ≤ 1099511627776) (w : World) (hp : PtsAt w g off ps) (hg : g < w.heap.size) :
    Calls Try.prog 44 #[.slice (some ⟨g, off, none⟩) n c] w fun e w' => e = .returned (.bool (allOk ps)) ∧ Below w.heap.size w w' := by
  subst hn
  have HP := hide hp
  clear hp
  go_enter Try.func44, Try.ntmps44
  go_wp2
  go_loopw [7] (fun i wr => ∃ k : Nat, k ≤ ps.length ∧ Hid (okTo ps k) ∧ Below w.heap.size w wr ∧ i = .int .i64 k) (fun i _ => ps.length - (intOf i).toNat)
  case atStart => exact ⟨0, Nat.zero_le _, hide (okTo_zero ps), Below.refl _ _, rfl⟩
  case round =>
    obtain ⟨k, hk, ht, hbw, rfl⟩ := hrel
    by_cases hlt : k < ps.length
    · obtain ⟨c1, c2⟩ := (HP.out.below hbw hg) k hlt
      have hz := hbw.size
      cases hok : okP ps[k].1 ps[k].2
      · have H := hide (allOk_no hlt hok)
        go_wp2_with (go_at_call 57; refine (okI _ _ _).mono ?_; rintro e w2 ⟨rfl, hb2⟩; have hB2 := below_next (w0 := w) hb2 (by go_grown))
        go_ret
        exact ⟨ret_bool H.out.symm, hB2⟩
      · have H := hide (okTo_succ ht.out hlt hok)
        go_wp2_with (go_at_call 57; refine (okI _ _ _).mono ?_; rintro e w2 ⟨rfl, hb2⟩; have hB2 := below_next (w0 := w) hb2 (by go_grown))
        go_roundw
        case rel => exact ⟨k + 1, by omega, H, hB2, by go_num⟩
        case measure => simp [intOf]; omega
    · obtain rfl : k = ps.length := by omega
      go_wp2
      go_ret
      exact ⟨ret_bool (okTo_done ht.out).symm, hbw⟩
theorem ptsAt_new2 {W : World} {g : Nat} {t : TypeId} {a b c d : Int} (hg : g = W.heap.size) : PtsAt (W.alloc (.cells #[.int .i64 a, .int .i64 b, .int .i64 c, .int .i64 d] t)) g 0 [(a, b), (c, d)] := by
  subst hg
  intro k hk
  rw [cell_of_row _ _ _ _ _ _ (heap_alloc_new W _), cell_of_row _ _ _ _ _ _ (heap_alloc_new W _)]
  match k, hk with
  | 0, _ => exact ⟨rfl, rfl⟩
  | 1, _ => exact ⟨rfl, rfl⟩
theorem ptsAt_new3 {W : World} {g : Nat} {t : TypeId} {a b c d e f : Int} (hg : g = W.heap.size) : PtsAt (W.alloc (.cells #[.int .i64 a, .int .i64 b, .int .i64 c, .int .i64 d, .int .i64 e, .int .i64 f] t)) g 0 [(a, b), (c, d), (e, f)] := by
  subst hg
  intro k hk
  rw [cell_of_row _ _ _ _ _ _ (heap_alloc_new W _), cell_of_row _ _ _ _ _ _ (heap_alloc_new W _)]
  match k, hk with
  | 0, _ => exact ⟨rfl, rfl⟩
  | 1, _ => exact ⟨rfl, rfl⟩
  | 2, _ => exact ⟨rfl, rfl⟩
theorem all2 (a b c d : Int) : allOk [(a, b), (c, d)] = (okP a b && okP c d) := by simp [allOk]
theorem all3 (a b c d e f : Int) : allOk [(a, b), (c, d), (e, f)] = (okP a b && (okP c d && okP e f)) := by simp [allOk]
theorem toPt (a b : Int) (w : World) :
    Calls Try.prog 18 #[.agg #[.int .i64 a, .int .i64 b]] w fun e w' => e = .returned (.agg #[.int .i64 a, .int .i64 b]) ∧ Below w.heap.size w w' := by
  go_enter Try.func18, Try.ntmps18
  go_wp2
  go_returns
  exact ⟨rfl, by go_grown⟩
theorem held1 {w W w1 : World} {a b : Value} (h : Below w.heap.size w W ∧ w.heap.size < W.heap.size ∧ W.cell? ⟨w.heap.size, 0, none⟩ = some a ∧ W.cell? ⟨w.heap.size, 1, none⟩ = some b) (hb : Below W.heap.size W w1) : Below w.heap.size w w1 ∧ w.heap.size < w1.heap.size ∧ w1.cell? ⟨w.heap.size, 0, none⟩ = some a ∧ w1.cell? ⟨w.heap.size, 1, none⟩ = some b := by
  obtain ⟨h1, h2, k0, k1⟩ := h
  have hz := hb.size
  refine ⟨below_next hb h1, by omega, ?_, ?_⟩
  · rw [hb.cell (p := ⟨w.heap.size, 0, none⟩) (by simp; omega)]; exact k0
  · rw [hb.cell (p := ⟨w.heap.size, 1, none⟩) (by simp; omega)]; exact k1
theorem held2 {w W w1 : World} {a b c d : Value} (h : Below w.heap.size w W ∧ w.heap.size + 1 < W.heap.size ∧ W.cell? ⟨w.heap.size, 0, none⟩ = some a ∧ W.cell? ⟨w.heap.size, 1, none⟩ = some b ∧ W.cell? ⟨w.heap.size + 1, 0, none⟩ = some c ∧ W.cell? ⟨w.heap.size + 1, 1, none⟩ = some d) (hb : Below W.heap.size W w1) : Below w.heap.size w w1 ∧ w.heap.size + 1 < w1.heap.size ∧ w1.cell? ⟨w.heap.size, 0, none⟩ = some a ∧ w1.cell? ⟨w.heap.size, 1, none⟩ = some b ∧ w1.cell? ⟨w.heap.size + 1, 0, none⟩ = some c ∧ w1.cell? ⟨w.heap.size + 1, 1, none⟩ = some d := by
  obtain ⟨h1, h2, k0, k1, k2, k3⟩ := h
  have hz := hb.size
  refine ⟨below_next hb h1, by omega, ?_, ?_, ?_, ?_⟩
  · rw [hb.cell (p := ⟨w.heap.size, 0, none⟩) (by simp; omega)]; exact k0
  · rw [hb.cell (p := ⟨w.heap.size, 1, none⟩) (by simp; omega)]; exact k1
  · rw [hb.cell (p := ⟨w.heap.size + 1, 0, none⟩) (by simp; omega)]; exact k2
  · rw [hb.cell (p := ⟨w.heap.size + 1, 1, none⟩) (by simp; omega)]; exact k3
theorem held3 {w W w1 : World} {a b c d e f : Value} (h : Below w.heap.size w W ∧ w.heap.size + 1 + 1 < W.heap.size ∧ W.cell? ⟨w.heap.size, 0, none⟩ = some a ∧ W.cell? ⟨w.heap.size, 1, none⟩ = some b ∧ W.cell? ⟨w.heap.size + 1, 0, none⟩ = some c ∧ W.cell? ⟨w.heap.size + 1, 1, none⟩ = some d ∧ W.cell? ⟨w.heap.size + 1 + 1, 0, none⟩ = some e ∧ W.cell? ⟨w.heap.size + 1 + 1, 1, none⟩ = some f) (hb : Below W.heap.size W w1) : Below w.heap.size w w1 ∧ w.heap.size + 1 + 1 < w1.heap.size ∧ w1.cell? ⟨w.heap.size, 0, none⟩ = some a ∧ w1.cell? ⟨w.heap.size, 1, none⟩ = some b ∧ w1.cell? ⟨w.heap.size + 1, 0, none⟩ = some c ∧ w1.cell? ⟨w.heap.size + 1, 1, none⟩ = some d ∧ w1.cell? ⟨w.heap.size + 1 + 1, 0, none⟩ = some e ∧ w1.cell? ⟨w.heap.size + 1 + 1, 1, none⟩ = some f := by
  obtain ⟨h1, h2, k0, k1, k2, k3, k4, k5⟩ := h
  have hz := hb.size
  refine ⟨below_next hb h1, by omega, ?_, ?_, ?_, ?_, ?_, ?_⟩
  · rw [hb.cell (p := ⟨w.heap.size, 0, none⟩) (by simp; omega)]; exact k0
  · rw [hb.cell (p := ⟨w.heap.size, 1, none⟩) (by simp; omega)]; exact k1
  · rw [hb.cell (p := ⟨w.heap.size + 1, 0, none⟩) (by simp; omega)]; exact k2
  · rw [hb.cell (p := ⟨w.heap.size + 1, 1, none⟩) (by simp; omega)]; exact k3
  · rw [hb.cell (p := ⟨w.heap.size + 1 + 1, 0, none⟩) (by simp; omega)]; exact k4
  · rw [hb.cell (p := ⟨w.heap.size + 1 + 1, 1, none⟩) (by simp; omega)]; exact k5
theorem heldD1 {w W : World} {a b : Value} (h : Below w.heap.size w W ∧ w.heap.size < W.heap.size ∧ W.cell? ⟨w.heap.size, 0, none⟩ = some a ∧ W.cell? ⟨w.heap.size, 1, none⟩ = some b) : Below w.heap.size w W.drew ∧ w.heap.size < W.drew.heap.size ∧ W.drew.cell? ⟨w.heap.size, 0, none⟩ = some a ∧ W.drew.cell? ⟨w.heap.size, 1, none⟩ = some b :=
  ⟨h.1.drew, h.2⟩
theorem heldD2 {w W : World} {a b c d : Value} (h : Below w.heap.size w W ∧ w.heap.size + 1 < W.heap.size ∧ W.cell? ⟨w.heap.size, 0, none⟩ = some a ∧ W.cell? ⟨w.heap.size, 1, none⟩ = some b ∧ W.cell? ⟨w.heap.size + 1, 0, none⟩ = some c ∧ W.cell? ⟨w.heap.size + 1, 1, none⟩ = some d) : Below w.heap.size w W.drew ∧ w.heap.size + 1 < W.drew.heap.size ∧ W.drew.cell? ⟨w.heap.size, 0, none⟩ = some a ∧ W.drew.cell? ⟨w.heap.size, 1, none⟩ = some b ∧ W.drew.cell? ⟨w.heap.size + 1, 0, none⟩ = some c ∧ W.drew.cell? ⟨w.heap.size + 1, 1, none⟩ = some d :=
  ⟨h.1.drew, h.2⟩
theorem heldD3 {w W : World} {a b c d e f : Value} (h : Below w.heap.size w W ∧ w.heap.size + 1 + 1 < W.heap.size ∧ W.cell? ⟨w.heap.size, 0, none⟩ = some a ∧ W.cell? ⟨w.heap.size, 1, none⟩ = some b ∧ W.cell? ⟨w.heap.size + 1, 0, none⟩ = some c ∧ W.cell? ⟨w.heap.size + 1, 1, none⟩ = some d ∧ W.cell? ⟨w.heap.size + 1 + 1, 0, none⟩ = some e ∧ W.cell? ⟨w.heap.size + 1 + 1, 1, none⟩ = some f) : Below w.heap.size w W.drew ∧ w.heap.size + 1 + 1 < W.drew.heap.size ∧ W.drew.cell? ⟨w.heap.size, 0, none⟩ = some a ∧ W.drew.cell? ⟨w.heap.size, 1, none⟩ = some b ∧ W.drew.cell? ⟨w.heap.size + 1, 0, none⟩ = some c ∧ W.drew.cell? ⟨w.heap.size + 1, 1, none⟩ = some d ∧ W.drew.cell? ⟨w.heap.size + 1 + 1, 0, none⟩ = some e ∧ W.drew.cell? ⟨w.heap.size + 1 + 1, 1, none⟩ = some f :=
  ⟨h.1.drew, h.2⟩
/-- the number in a cell -/
def cellInt (w : World) (a : Addr) : Int := match w.cell? a with | some (.int _ n) => n | _ => 0
theorem int_of_cell {w : World} {a : Addr} {n : Int} (h : w.cell? a = some (.int .i64 n)) : w.cell? a = some (.int .i64 (cellInt w a)) := by unfold cellInt; rw [h]
theorem int_below {w w1 : World} {a : Addr} (h : w.cell? a = some (.int .i64 (cellInt w a))) (hc : w1.cell? a = w.cell? a) : w1.cell? a = some (.int .i64 (cellInt w1 a)) := int_of_cell (hc.trans h)
theorem int_set {w : World} {p q : Addr} {n : Int} (h : w.cell? q = some (.int .i64 (cellInt w q))) : (w.setCell p (.int .i64 n)).cell? q = some (.int .i64 (cellInt (w.setCell p (.int .i64 n)) q)) := by
  by_cases e : p = q
  · subst e; exact int_of_cell (World.cell?_setCell_same w p _ h)
  · exact int_of_cell ((World.cell?_setCell_other w p q _ e).trans h)
theorem isSome_int {w : World} {a : Addr} (h : w.cell? a = some (.int .i64 (cellInt w a))) : (w.cell? a).isSome = true := by rw [h]; rfl
theorem set_some {w : World} {p : Addr} {u : Value} (h : ((w.setCell p u).cell? p).isSome = true) : (w.setCell p u).cell? p = some u := by
  cases e : w.cell? p with
  | some v => exact World.cell?_setCell_same w p u e
  | none =>
    exfalso
    unfold World.cell? World.setCell at h
    unfold World.cell? at e
    simp only [Array.getElem?_modify] at h
    cases hb : w.heap[p.block]? with
    | none => simp [hb] at h
    | some o =>
      simp only [hb] at e h
      cases o
      case cells cs t fr =>
        simp at e h
        by_cases hs : p.spot.isSome = true
        · simp [hs] at h
        · simp [hs] at e h
          have := e (by simpa using hs)
          omega
      all_goals simp at h
theorem res_cells {W : World} {g : Nat} {X Y : Value} (h0 : (((W.setCell ⟨g, 0, none⟩ X).setCell ⟨g, 1, none⟩ Y).cell? ⟨g, 0, none⟩).isSome = true)
    (h1 : (((W.setCell ⟨g, 0, none⟩ X).setCell ⟨g, 1, none⟩ Y).cell? ⟨g, 1, none⟩).isSome = true) :
    (W.setCell ⟨g, 0, none⟩ X).cell? ⟨g, 0, none⟩ = some X ∧ ((W.setCell ⟨g, 0, none⟩ X).setCell ⟨g, 1, none⟩ Y).cell? ⟨g, 1, none⟩ = some Y := by
  have hne : (⟨g, 1, none⟩ : Addr) ≠ ⟨g, 0, none⟩ := by simp
  rw [World.cell?_setCell_other _ _ _ _ hne] at h0
  exact ⟨set_some h0, set_some h1⟩
theorem heldR1 {w W w1 : World} {a b : Value} (h : Below w.heap.size w W ∧ w.heap.size + 1 < W.heap.size ∧ W.cell? ⟨w.heap.size, 0, none⟩ = some a ∧ W.cell? ⟨w.heap.size, 1, none⟩ = some b ∧ W.cell? ⟨w.heap.size + 1, 0, none⟩ = some (.int .i64 (cellInt W ⟨w.heap.size + 1, 0, none⟩)) ∧ W.cell? ⟨w.heap.size + 1, 1, none⟩ = some (.int .i64 (cellInt W ⟨w.heap.size + 1, 1, none⟩)) ∧ W.frozen? ⟨w.heap.size + 1, 0, none⟩ = false ∧ W.frozen? ⟨w.heap.size + 1, 1, none⟩ = false) (hb : Below W.heap.size W w1) : Below w.heap.size w w1 ∧ w.heap.size + 1 < w1.heap.size ∧ w1.cell? ⟨w.heap.size, 0, none⟩ = some a ∧ w1.cell? ⟨w.heap.size, 1, none⟩ = some b ∧ w1.cell? ⟨w.heap.size + 1, 0, none⟩ = some (.int .i64 (cellInt w1 ⟨w.heap.size + 1, 0, none⟩)) ∧ w1.cell? ⟨w.heap.size + 1, 1, none⟩ = some (.int .i64 (cellInt w1 ⟨w.heap.size + 1, 1, none⟩)) ∧ w1.frozen? ⟨w.heap.size + 1, 0, none⟩ = false ∧ w1.frozen? ⟨w.heap.size + 1, 1, none⟩ = false := by
  obtain ⟨h1, h2, k0, k1, r0, r1, f0, f1⟩ := h
  have hz := hb.size
  refine ⟨below_next hb h1, by omega, ?_, ?_, ?_, ?_, ?_, ?_⟩
  · rw [hb.cell (p := ⟨w.heap.size, 0, none⟩) (by simp; omega)]; exact k0
  · rw [hb.cell (p := ⟨w.heap.size, 1, none⟩) (by simp; omega)]; exact k1
  · exact int_below r0 (hb.cell (p := ⟨w.heap.size + 1, 0, none⟩) (by simp; omega))
  · exact int_below r1 (hb.cell (p := ⟨w.heap.size + 1, 1, none⟩) (by simp; omega))
  · rw [hb.frozen (p := ⟨w.heap.size + 1, 0, none⟩) (by simp; omega)]; exact f0
  · rw [hb.frozen (p := ⟨w.heap.size + 1, 1, none⟩) (by simp; omega)]; exact f1
theorem heldRD1 {w W : World} {a b : Value} (h : Below w.heap.size w W ∧ w.heap.size + 1 < W.heap.size ∧ W.cell? ⟨w.heap.size, 0, none⟩ = some a ∧ W.cell? ⟨w.heap.size, 1, none⟩ = some b ∧ W.cell? ⟨w.heap.size + 1, 0, none⟩ = some (.int .i64 (cellInt W ⟨w.heap.size + 1, 0, none⟩)) ∧ W.cell? ⟨w.heap.size + 1, 1, none⟩ = some (.int .i64 (cellInt W ⟨w.heap.size + 1, 1, none⟩)) ∧ W.frozen? ⟨w.heap.size + 1, 0, none⟩ = false ∧ W.frozen? ⟨w.heap.size + 1, 1, none⟩ = false) : Below w.heap.size w W.drew ∧ w.heap.size + 1 < W.drew.heap.size ∧ W.drew.cell? ⟨w.heap.size, 0, none⟩ = some a ∧ W.drew.cell? ⟨w.heap.size, 1, none⟩ = some b ∧ W.drew.cell? ⟨w.heap.size + 1, 0, none⟩ = some (.int .i64 (cellInt (W.drew) ⟨w.heap.size + 1, 0, none⟩)) ∧ W.drew.cell? ⟨w.heap.size + 1, 1, none⟩ = some (.int .i64 (cellInt (W.drew) ⟨w.heap.size + 1, 1, none⟩)) ∧ W.drew.frozen? ⟨w.heap.size + 1, 0, none⟩ = false ∧ W.drew.frozen? ⟨w.heap.size + 1, 1, none⟩ = false :=
  ⟨h.1.drew, h.2⟩
theorem heldRS10 {w W : World} {a b : Value} {u : Int} (h : Below w.heap.size w W ∧ w.heap.size + 1 < W.heap.size ∧ W.cell? ⟨w.heap.size, 0, none⟩ = some a ∧ W.cell? ⟨w.heap.size, 1, none⟩ = some b ∧ W.cell? ⟨w.heap.size + 1, 0, none⟩ = some (.int .i64 (cellInt W ⟨w.heap.size + 1, 0, none⟩)) ∧ W.cell? ⟨w.heap.size + 1, 1, none⟩ = some (.int .i64 (cellInt W ⟨w.heap.size + 1, 1, none⟩)) ∧ W.frozen? ⟨w.heap.size + 1, 0, none⟩ = false ∧ W.frozen? ⟨w.heap.size + 1, 1, none⟩ = false) : Below w.heap.size w (W.setCell ⟨w.heap.size + 1, 0, none⟩ (.int .i64 u)) ∧ w.heap.size + 1 < (W.setCell ⟨w.heap.size + 1, 0, none⟩ (.int .i64 u)).heap.size ∧ (W.setCell ⟨w.heap.size + 1, 0, none⟩ (.int .i64 u)).cell? ⟨w.heap.size, 0, none⟩ = some a ∧ (W.setCell ⟨w.heap.size + 1, 0, none⟩ (.int .i64 u)).cell? ⟨w.heap.size, 1, none⟩ = some b ∧ (W.setCell ⟨w.heap.size + 1, 0, none⟩ (.int .i64 u)).cell? ⟨w.heap.size + 1, 0, none⟩ = some (.int .i64 (cellInt (W.setCell ⟨w.heap.size + 1, 0, none⟩ (.int .i64 u)) ⟨w.heap.size + 1, 0, none⟩)) ∧ (W.setCell ⟨w.heap.size + 1, 0, none⟩ (.int .i64 u)).cell? ⟨w.heap.size + 1, 1, none⟩ = some (.int .i64 (cellInt (W.setCell ⟨w.heap.size + 1, 0, none⟩ (.int .i64 u)) ⟨w.heap.size + 1, 1, none⟩)) ∧ (W.setCell ⟨w.heap.size + 1, 0, none⟩ (.int .i64 u)).frozen? ⟨w.heap.size + 1, 0, none⟩ = false ∧ (W.setCell ⟨w.heap.size + 1, 0, none⟩ (.int .i64 u)).frozen? ⟨w.heap.size + 1, 1, none⟩ = false := by
  obtain ⟨h1, h2, k0, k1, r0, r1, f0, f1⟩ := h
  refine ⟨h1.setCell (by simp; try omega) _, by simpa using h2, ?_, ?_, ?_, ?_, ?_, ?_⟩
  · rw [World.cell?_setCell_other _ _ _ _ (by simp)]; exact k0
  · rw [World.cell?_setCell_other _ _ _ _ (by simp)]; exact k1
  · exact int_set r0
  · exact int_set r1
  · rw [World.frozen?_setCell]; exact f0
  · rw [World.frozen?_setCell]; exact f1
theorem heldRS11 {w W : World} {a b : Value} {u : Int} (h : Below w.heap.size w W ∧ w.heap.size + 1 < W.heap.size ∧ W.cell? ⟨w.heap.size, 0, none⟩ = some a ∧ W.cell? ⟨w.heap.size, 1, none⟩ = some b ∧ W.cell? ⟨w.heap.size + 1, 0, none⟩ = some (.int .i64 (cellInt W ⟨w.heap.size + 1, 0, none⟩)) ∧ W.cell? ⟨w.heap.size + 1, 1, none⟩ = some (.int .i64 (cellInt W ⟨w.heap.size + 1, 1, none⟩)) ∧ W.frozen? ⟨w.heap.size + 1, 0, none⟩ = false ∧ W.frozen? ⟨w.heap.size + 1, 1, none⟩ = false) : Below w.heap.size w (W.setCell ⟨w.heap.size + 1, 1, none⟩ (.int .i64 u)) ∧ w.heap.size + 1 < (W.setCell ⟨w.heap.size + 1, 1, none⟩ (.int .i64 u)).heap.size ∧ (W.setCell ⟨w.heap.size + 1, 1, none⟩ (.int .i64 u)).cell? ⟨w.heap.size, 0, none⟩ = some a ∧ (W.setCell ⟨w.heap.size + 1, 1, none⟩ (.int .i64 u)).cell? ⟨w.heap.size, 1, none⟩ = some b ∧ (W.setCell ⟨w.heap.size + 1, 1, none⟩ (.int .i64 u)).cell? ⟨w.heap.size + 1, 0, none⟩ = some (.int .i64 (cellInt (W.setCell ⟨w.heap.size + 1, 1, none⟩ (.int .i64 u)) ⟨w.heap.size + 1, 0, none⟩)) ∧ (W.setCell ⟨w.heap.size + 1, 1, none⟩ (.int .i64 u)).cell? ⟨w.heap.size + 1, 1, none⟩ = some (.int .i64 (cellInt (W.setCell ⟨w.heap.size + 1, 1, none⟩ (.int .i64 u)) ⟨w.heap.size + 1, 1, none⟩)) ∧ (W.setCell ⟨w.heap.size + 1, 1, none⟩ (.int .i64 u)).frozen? ⟨w.heap.size + 1, 0, none⟩ = false ∧ (W.setCell ⟨w.heap.size + 1, 1, none⟩ (.int .i64 u)).frozen? ⟨w.heap.size + 1, 1, none⟩ = false := by
  obtain ⟨h1, h2, k0, k1, r0, r1, f0, f1⟩ := h
  refine ⟨h1.setCell (by simp; try omega) _, by simpa using h2, ?_, ?_, ?_, ?_, ?_, ?_⟩
  · rw [World.cell?_setCell_other _ _ _ _ (by simp)]; exact k0
  · rw [World.cell?_setCell_other _ _ _ _ (by simp)]; exact k1
  · exact int_set r0
  · exact int_set r1
  · rw [World.frozen?_setCell]; exact f0
  · rw [World.frozen?_setCell]; exact f1
theorem heldR2 {w W w1 : World} {a b c d : Value} (h : Below w.heap.size w W ∧ w.heap.size + 1 + 1 < W.heap.size ∧ W.cell? ⟨w.heap.size, 0, none⟩ = some a ∧ W.cell? ⟨w.heap.size, 1, none⟩ = some b ∧ W.cell? ⟨w.heap.size + 1, 0, none⟩ = some c ∧ W.cell? ⟨w.heap.size + 1, 1, none⟩ = some d ∧ W.cell? ⟨w.heap.size + 1 + 1, 0, none⟩ = some (.int .i64 (cellInt W ⟨w.heap.size + 1 + 1, 0, none⟩)) ∧ W.cell? ⟨w.heap.size + 1 + 1, 1, none⟩ = some (.int .i64 (cellInt W ⟨w.heap.size + 1 + 1, 1, none⟩)) ∧ W.frozen? ⟨w.heap.size + 1 + 1, 0, none⟩ = false ∧ W.frozen? ⟨w.heap.size + 1 + 1, 1, none⟩ = false) (hb : Below W.heap.size W w1) : Below w.heap.size w w1 ∧ w.heap.size + 1 + 1 < w1.heap.size ∧ w1.cell? ⟨w.heap.size, 0, none⟩ = some a ∧ w1.cell? ⟨w.heap.size, 1, none⟩ = some b ∧ w1.cell? ⟨w.heap.size + 1, 0, none⟩ = some c ∧ w1.cell? ⟨w.heap.size + 1, 1, none⟩ = some d ∧ w1.cell? ⟨w.heap.size + 1 + 1, 0, none⟩ = some (.int .i64 (cellInt w1 ⟨w.heap.size + 1 + 1, 0, none⟩)) ∧ w1.cell? ⟨w.heap.size + 1 + 1, 1, none⟩ = some (.int .i64 (cellInt w1 ⟨w.heap.size + 1 + 1, 1, none⟩)) ∧ w1.frozen? ⟨w.heap.size + 1 + 1, 0, none⟩ = false ∧ w1.frozen? ⟨w.heap.size + 1 + 1, 1, none⟩ = false := by
  obtain ⟨h1, h2, k0, k1, k2, k3, r0, r1, f0, f1⟩ := h
  have hz := hb.size
  refine ⟨below_next hb h1, by omega, ?_, ?_, ?_, ?_, ?_, ?_, ?_, ?_⟩
  · rw [hb.cell (p := ⟨w.heap.size, 0, none⟩) (by simp; omega)]; exact k0
  · rw [hb.cell (p := ⟨w.heap.size, 1, none⟩) (by simp; omega)]; exact k1
  · rw [hb.cell (p := ⟨w.heap.size + 1, 0, none⟩) (by simp; omega)]; exact k2
  · rw [hb.cell (p := ⟨w.heap.size + 1, 1, none⟩) (by simp; omega)]; exact k3
  · exact int_below r0 (hb.cell (p := ⟨w.heap.size + 1 + 1, 0, none⟩) (by simp; omega))
  · exact int_below r1 (hb.cell (p := ⟨w.heap.size + 1 + 1, 1, none⟩) (by simp; omega))
  · rw [hb.frozen (p := ⟨w.heap.size + 1 + 1, 0, none⟩) (by simp; omega)]; exact f0
  · rw [hb.frozen (p := ⟨w.heap.size + 1 + 1, 1, none⟩) (by simp; omega)]; exact f1
theorem heldRD2 {w W : World} {a b c d : Value} (h : Below w.heap.size w W ∧ w.heap.size + 1 + 1 < W.heap.size ∧ W.cell? ⟨w.heap.size, 0, none⟩ = some a ∧ W.cell? ⟨w.heap.size, 1, none⟩ = some b ∧ W.cell? ⟨w.heap.size + 1, 0, none⟩ = some c ∧ W.cell? ⟨w.heap.size + 1, 1, none⟩ = some d ∧ W.cell? ⟨w.heap.size + 1 + 1, 0, none⟩ = some (.int .i64 (cellInt W ⟨w.heap.size + 1 + 1, 0, none⟩)) ∧ W.cell? ⟨w.heap.size + 1 + 1, 1, none⟩ = some (.int .i64 (cellInt W ⟨w.heap.size + 1 + 1, 1, none⟩)) ∧ W.frozen? ⟨w.heap.size + 1 + 1, 0, none⟩ = false ∧ W.frozen? ⟨w.heap.size + 1 + 1, 1, none⟩ = false) : Below w.heap.size w W.drew ∧ w.heap.size + 1 + 1 < W.drew.heap.size ∧ W.drew.cell? ⟨w.heap.size, 0, none⟩ = some a ∧ W.drew.cell? ⟨w.heap.size, 1, none⟩ = some b ∧ W.drew.cell? ⟨w.heap.size + 1, 0, none⟩ = some c ∧ W.drew.cell? ⟨w.heap.size + 1, 1, none⟩ = some d ∧ W.drew.cell? ⟨w.heap.size + 1 + 1, 0, none⟩ = some (.int .i64 (cellInt (W.drew) ⟨w.heap.size + 1 + 1, 0, none⟩)) ∧ W.drew.cell? ⟨w.heap.size + 1 + 1, 1, none⟩ = some (.int .i64 (cellInt (W.drew) ⟨w.heap.size + 1 + 1, 1, none⟩)) ∧ W.drew.frozen? ⟨w.heap.size + 1 + 1, 0, none⟩ = false ∧ W.drew.frozen? ⟨w.heap.size + 1 + 1, 1, none⟩ = false :=
  ⟨h.1.drew, h.2⟩
theorem heldRS20 {w W : World} {a b c d : Value} {u : Int} (h : Below w.heap.size w W ∧ w.heap.size + 1 + 1 < W.heap.size ∧ W.cell? ⟨w.heap.size, 0, none⟩ = some a ∧ W.cell? ⟨w.heap.size, 1, none⟩ = some b ∧ W.cell? ⟨w.heap.size + 1, 0, none⟩ = some c ∧ W.cell? ⟨w.heap.size + 1, 1, none⟩ = some d ∧ W.cell? ⟨w.heap.size + 1 + 1, 0, none⟩ = some (.int .i64 (cellInt W ⟨w.heap.size + 1 + 1, 0, none⟩)) ∧ W.cell? ⟨w.heap.size + 1 + 1, 1, none⟩ = some (.int .i64 (cellInt W ⟨w.heap.size + 1 + 1, 1, none⟩)) ∧ W.frozen? ⟨w.heap.size + 1 + 1, 0, none⟩ = false ∧ W.frozen? ⟨w.heap.size + 1 + 1, 1, none⟩ = false) : Below w.heap.size w (W.setCell ⟨w.heap.size + 1 + 1, 0, none⟩ (.int .i64 u)) ∧ w.heap.size + 1 + 1 < (W.setCell ⟨w.heap.size + 1 + 1, 0, none⟩ (.int .i64 u)).heap.size ∧ (W.setCell ⟨w.heap.size + 1 + 1, 0, none⟩ (.int .i64 u)).cell? ⟨w.heap.size, 0, none⟩ = some a ∧ (W.setCell ⟨w.heap.size + 1 + 1, 0, none⟩ (.int .i64 u)).cell? ⟨w.heap.size, 1, none⟩ = some b ∧ (W.setCell ⟨w.heap.size + 1 + 1, 0, none⟩ (.int .i64 u)).cell? ⟨w.heap.size + 1, 0, none⟩ = some c ∧ (W.setCell ⟨w.heap.size + 1 + 1, 0, none⟩ (.int .i64 u)).cell? ⟨w.heap.size + 1, 1, none⟩ = some d ∧ (W.setCell ⟨w.heap.size + 1 + 1, 0, none⟩ (.int .i64 u)).cell? ⟨w.heap.size + 1 + 1, 0, none⟩ = some (.int .i64 (cellInt (W.setCell ⟨w.heap.size + 1 + 1, 0, none⟩ (.int .i64 u)) ⟨w.heap.size + 1 + 1, 0, none⟩)) ∧ (W.setCell ⟨w.heap.size + 1 + 1, 0, none⟩ (.int .i64 u)).cell? ⟨w.heap.size + 1 + 1, 1, none⟩ = some (.int .i64 (cellInt (W.setCell ⟨w.heap.size + 1 + 1, 0, none⟩ (.int .i64 u)) ⟨w.heap.size + 1 + 1, 1, none⟩)) ∧ (W.setCell ⟨w.heap.size + 1 + 1, 0, none⟩ (.int .i64 u)).frozen? ⟨w.heap.size + 1 + 1, 0, none⟩ = false ∧ (W.setCell ⟨w.heap.size + 1 + 1, 0, none⟩ (.int .i64 u)).frozen? ⟨w.heap.size + 1 + 1, 1, none⟩ = false := by
  obtain ⟨h1, h2, k0, k1, k2, k3, r0, r1, f0, f1⟩ := h
  refine ⟨h1.setCell (by simp; try omega) _, by simpa using h2, ?_, ?_, ?_, ?_, ?_, ?_, ?_, ?_⟩
  · rw [World.cell?_setCell_other _ _ _ _ (by simp)]; exact k0
  · rw [World.cell?_setCell_other _ _ _ _ (by simp)]; exact k1
  · rw [World.cell?_setCell_other _ _ _ _ (by simp)]; exact k2
  · rw [World.cell?_setCell_other _ _ _ _ (by simp)]; exact k3
  · exact int_set r0
  · exact int_set r1
  · rw [World.frozen?_setCell]; exact f0
  · rw [World.frozen?_setCell]; exact f1
theorem heldRS21 {w W : World} {a b c d : Value} {u : Int} (h : Below w.heap.size w W ∧ w.heap.size + 1 + 1 < W.heap.size ∧ W.cell? ⟨w.heap.size, 0, none⟩ = some a ∧ W.cell? ⟨w.heap.size, 1, none⟩ = some b ∧ W.cell? ⟨w.heap.size + 1, 0, none⟩ = some c ∧ W.cell? ⟨w.heap.size + 1, 1, none⟩ = some d ∧ W.cell? ⟨w.heap.size + 1 + 1, 0, none⟩ = some (.int .i64 (cellInt W ⟨w.heap.size + 1 + 1, 0, none⟩)) ∧ W.cell? ⟨w.heap.size + 1 + 1, 1, none⟩ = some (.int .i64 (cellInt W ⟨w.heap.size + 1 + 1, 1, none⟩)) ∧ W.frozen? ⟨w.heap.size + 1 + 1, 0, none⟩ = false ∧ W.frozen? ⟨w.heap.size + 1 + 1, 1, none⟩ = false) : Below w.heap.size w (W.setCell ⟨w.heap.size + 1 + 1, 1, none⟩ (.int .i64 u)) ∧ w.heap.size + 1 + 1 < (W.setCell ⟨w.heap.size + 1 + 1, 1, none⟩ (.int .i64 u)).heap.size ∧ (W.setCell ⟨w.heap.size + 1 + 1, 1, none⟩ (.int .i64 u)).cell? ⟨w.heap.size, 0, none⟩ = some a ∧ (W.setCell ⟨w.heap.size + 1 + 1, 1, none⟩ (.int .i64 u)).cell? ⟨w.heap.size, 1, none⟩ = some b ∧ (W.setCell ⟨w.heap.size + 1 + 1, 1, none⟩ (.int .i64 u)).cell? ⟨w.heap.size + 1, 0, none⟩ = some c ∧ (W.setCell ⟨w.heap.size + 1 + 1, 1, none⟩ (.int .i64 u)).cell? ⟨w.heap.size + 1, 1, none⟩ = some d ∧ (W.setCell ⟨w.heap.size + 1 + 1, 1, none⟩ (.int .i64 u)).cell? ⟨w.heap.size + 1 + 1, 0, none⟩ = some (.int .i64 (cellInt (W.setCell ⟨w.heap.size + 1 + 1, 1, none⟩ (.int .i64 u)) ⟨w.heap.size + 1 + 1, 0, none⟩)) ∧ (W.setCell ⟨w.heap.size + 1 + 1, 1, none⟩ (.int .i64 u)).cell? ⟨w.heap.size + 1 + 1, 1, none⟩ = some (.int .i64 (cellInt (W.setCell ⟨w.heap.size + 1 + 1, 1, none⟩ (.int .i64 u)) ⟨w.heap.size + 1 + 1, 1, none⟩)) ∧ (W.setCell ⟨w.heap.size + 1 + 1, 1, none⟩ (.int .i64 u)).frozen? ⟨w.heap.size + 1 + 1, 0, none⟩ = false ∧ (W.setCell ⟨w.heap.size + 1 + 1, 1, none⟩ (.int .i64 u)).frozen? ⟨w.heap.size + 1 + 1, 1, none⟩ = false := by
  obtain ⟨h1, h2, k0, k1, k2, k3, r0, r1, f0, f1⟩ := h
  refine ⟨h1.setCell (by simp; try omega) _, by simpa using h2, ?_, ?_, ?_, ?_, ?_, ?_, ?_, ?_⟩
  · rw [World.cell?_setCell_other _ _ _ _ (by simp)]; exact k0
  · rw [World.cell?_setCell_other _ _ _ _ (by simp)]; exact k1
  · rw [World.cell?_setCell_other _ _ _ _ (by simp)]; exact k2
  · rw [World.cell?_setCell_other _ _ _ _ (by simp)]; exact k3
  · exact int_set r0
  · exact int_set r1
  · rw [World.frozen?_setCell]; exact f0
  · rw [World.frozen?_setCell]; exact f1
theorem heldQ2 {w W w1 : World} {g : Nat} {a b c d x y : Value} (h : Below w.heap.size w W ∧ w.heap.size + 1 < W.heap.size ∧ W.cell? ⟨w.heap.size, 0, none⟩ = some a ∧ W.cell? ⟨w.heap.size, 1, none⟩ = some b ∧ W.cell? ⟨w.heap.size + 1, 0, none⟩ = some c ∧ W.cell? ⟨w.heap.size + 1, 1, none⟩ = some d ∧ g < W.heap.size ∧ W.cell? ⟨g, 0, none⟩ = some x ∧ W.cell? ⟨g, 1, none⟩ = some y) (hb : Below W.heap.size W w1) : Below w.heap.size w w1 ∧ w.heap.size + 1 < w1.heap.size ∧ w1.cell? ⟨w.heap.size, 0, none⟩ = some a ∧ w1.cell? ⟨w.heap.size, 1, none⟩ = some b ∧ w1.cell? ⟨w.heap.size + 1, 0, none⟩ = some c ∧ w1.cell? ⟨w.heap.size + 1, 1, none⟩ = some d ∧ g < w1.heap.size ∧ w1.cell? ⟨g, 0, none⟩ = some x ∧ w1.cell? ⟨g, 1, none⟩ = some y := by
  obtain ⟨h1, h2, k0, k1, k2, k3, hg, q0, q1⟩ := h
  have hz := hb.size
  refine ⟨below_next hb h1, by omega, ?_, ?_, ?_, ?_, by omega, ?_, ?_⟩
  · rw [hb.cell (p := ⟨w.heap.size, 0, none⟩) (by simp; omega)]; exact k0
  · rw [hb.cell (p := ⟨w.heap.size, 1, none⟩) (by simp; omega)]; exact k1
  · rw [hb.cell (p := ⟨w.heap.size + 1, 0, none⟩) (by simp; omega)]; exact k2
  · rw [hb.cell (p := ⟨w.heap.size + 1, 1, none⟩) (by simp; omega)]; exact k3
  · rw [hb.cell (p := ⟨g, 0, none⟩) (by simp; omega)]; exact q0
  · rw [hb.cell (p := ⟨g, 1, none⟩) (by simp; omega)]; exact q1
theorem heldQD2 {w W : World} {g : Nat} {a b c d x y : Value} (h : Below w.heap.size w W ∧ w.heap.size + 1 < W.heap.size ∧ W.cell? ⟨w.heap.size, 0, none⟩ = some a ∧ W.cell? ⟨w.heap.size, 1, none⟩ = some b ∧ W.cell? ⟨w.heap.size + 1, 0, none⟩ = some c ∧ W.cell? ⟨w.heap.size + 1, 1, none⟩ = some d ∧ g < W.heap.size ∧ W.cell? ⟨g, 0, none⟩ = some x ∧ W.cell? ⟨g, 1, none⟩ = some y) : Below w.heap.size w W.drew ∧ w.heap.size + 1 < W.drew.heap.size ∧ W.drew.cell? ⟨w.heap.size, 0, none⟩ = some a ∧ W.drew.cell? ⟨w.heap.size, 1, none⟩ = some b ∧ W.drew.cell? ⟨w.heap.size + 1, 0, none⟩ = some c ∧ W.drew.cell? ⟨w.heap.size + 1, 1, none⟩ = some d ∧ g < W.drew.heap.size ∧ W.drew.cell? ⟨g, 0, none⟩ = some x ∧ W.drew.cell? ⟨g, 1, none⟩ = some y :=
  ⟨h.1.drew, h.2⟩
end Go.Proofs.Ytnmihmjgmanllaa
