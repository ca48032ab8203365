--%!
/- The walk of the law on points between two points: it returns true. Own work. -/
import Derived.Test.YtnmihmjgmanllaaBetwLaw
import Derived.Test.YtnmihmjgmanllaaPtArg
import Derived.Deep.DeepCutAuto
namespace Go.Proofs.Ytnmihmjgmanllaa
open Go.ChangeShapes Go.WideShapes Go.ChangeAt Go.RowKit
set_option linter.unusedVariables false
set_option maxRecDepth 100000
set_option maxHeartbeats 2000000

theorem keep_cellB {W w1 : World} {g o : Nat} {v : Value} (h : W.cell? ⟨g, o, none⟩ = some v) (hb : Below W.heap.size W w1) : w1.cell? ⟨g, o, none⟩ = some v := (hb.cell (p := ⟨g, o, none⟩) (World.block_lt_of_cell? W _ h)).trans h
/-- the boxes of the two points, and the call's own blocks above them -/
def Bx (w W : World) (a b c d : Int) : Prop := Below w.heap.size w W ∧ w.heap.size + 1 < W.heap.size ∧ W.cell? ⟨w.heap.size, 0, none⟩ = some (.int .i64 a) ∧ W.cell? ⟨w.heap.size, 1, none⟩ = some (.int .i64 b) ∧ W.cell? ⟨w.heap.size + 1, 0, none⟩ = some (.int .i64 c) ∧ W.cell? ⟨w.heap.size + 1, 1, none⟩ = some (.int .i64 d)
theorem bx_next {w W w1 : World} {a b c d : Int} (h : Bx w W a b c d) (hb : Below W.heap.size W w1) : Bx w w1 a b c d :=
  ⟨below_next hb h.1, Nat.lt_of_lt_of_le h.2.1 hb.size, keep_cellB h.2.2.1 hb, keep_cellB h.2.2.2.1 hb, keep_cellB h.2.2.2.2.1 hb, keep_cellB h.2.2.2.2.2 hb⟩
theorem bx_drew {w W : World} {a b c d : Int} (h : Bx w W a b c d) : Bx w W.drew a b c d := ⟨h.1.drew, h.2⟩
theorem bx_alloc {w W : World} {a b c d : Int} (h : Bx w W a b c d) (o : Obj) : Bx w (W.alloc o) a b c d := bx_next h ((Below.refl _ _).alloc (Nat.le_refl _) _)
theorem bx_set {w W : World} {a b c d : Int} (h : Bx w W a b c d) {g : Nat} (hg : w.heap.size + 1 < g) (o : Nat) (v : Value) : Bx w (W.setCell ⟨g, o, none⟩ v) a b c d := by
  obtain ⟨h1, h2, k0, k1, k2, k3⟩ := h
  have ne : ∀ x y : Nat, x ≠ g → (⟨g, o, none⟩ : Addr) ≠ ⟨x, y, none⟩ := fun x y h e => h (by injection e with e; exact e.symm)
  refine ⟨h1.setCell (by show w.heap.size ≤ g; omega) _, by simpa using h2, ?_, ?_, ?_, ?_⟩
  · rw [World.cell?_setCell_other _ _ _ _ (ne _ _ (by omega))]; exact k0
  · rw [World.cell?_setCell_other _ _ _ _ (ne _ _ (by omega))]; exact k1
  · rw [World.cell?_setCell_other _ _ _ _ (ne _ _ (by omega))]; exact k2
  · rw [World.cell?_setCell_other _ _ _ _ (ne _ _ (by omega))]; exact k3
theorem bx_new {w : World} {a b c d : Int} {t : TypeId} : Bx w ((w.alloc (.cells #[.int .i64 a, .int .i64 b] t)).alloc (.cells #[.int .i64 c, .int .i64 d] t)) a b c d := by
  have h1 : Below w.heap.size w (w.alloc (.cells #[.int .i64 a, .int .i64 b] t)) := (Below.refl _ _).alloc (Nat.le_refl _) _
  have h2 : Below (w.alloc (.cells #[.int .i64 a, .int .i64 b] t)).heap.size (w.alloc (.cells #[.int .i64 a, .int .i64 b] t)) ((w.alloc (.cells #[.int .i64 a, .int .i64 b] t)).alloc (.cells #[.int .i64 c, .int .i64 d] t)) := (Below.refl _ _).alloc (Nat.le_refl _) _
  have hz : (w.alloc (.cells #[.int .i64 a, .int .i64 b] t)).heap.size = w.heap.size + 1 := by simp
  refine ⟨below_next h2 h1, by simp, keep_cellB (cell_of_row _ w.heap.size 0 _ _ _ (heap_alloc_new w _)) h2, keep_cellB (cell_of_row _ w.heap.size 1 _ _ _ (heap_alloc_new w _)) h2, ?_, ?_⟩
  · have := cell_of_row _ _ 0 _ _ _ (heap_alloc_new (w.alloc (.cells #[.int .i64 a, .int .i64 b] t)) (.cells #[.int .i64 c, .int .i64 d] t))
    rw [hz] at this; exact this
  · have := cell_of_row _ _ 1 _ _ _ (heap_alloc_new (w.alloc (.cells #[.int .i64 a, .int .i64 b] t)) (.cells #[.int .i64 c, .int .i64 d] t))
    rw [hz] at this; exact this
theorem betwRes_form (a b c d i n : Int) : ∃ u v r : Int, betwRes a b c d i n = .tuple #[.agg #[.int .i64 u, .int .i64 v], .int .i64 r] := by
  unfold betwRes
  repeat' split
  all_goals exact ⟨_, _, _, rfl⟩
/-- a box of the call's own with its two numbers -/
def Rs (w W : World) (g : Nat) (u v : Int) : Prop := w.heap.size ≤ g ∧ g < W.heap.size ∧ W.cell? ⟨g, 0, none⟩ = some (.int .i64 u) ∧ W.cell? ⟨g, 1, none⟩ = some (.int .i64 v)
/-- the same, said of a later world -/
def By (z W : World) (p q : Nat) (a b c d : Int) : Prop := Below z.heap.size z W ∧ W.cell? ⟨p, 0, none⟩ = some (.int .i64 a) ∧ W.cell? ⟨p, 1, none⟩ = some (.int .i64 b) ∧ W.cell? ⟨q, 0, none⟩ = some (.int .i64 c) ∧ W.cell? ⟨q, 1, none⟩ = some (.int .i64 d)
theorem by_next {z W w1 : World} {p q : Nat} {a b c d : Int} (h : By z W p q a b c d) (hb : Below W.heap.size W w1) : By z w1 p q a b c d :=
  ⟨below_next hb h.1, keep_cellB h.2.1 hb, keep_cellB h.2.2.1 hb, keep_cellB h.2.2.2.1 hb, keep_cellB h.2.2.2.2 hb⟩
theorem by_drew {z W : World} {p q : Nat} {a b c d : Int} (h : By z W p q a b c d) : By z W.drew p q a b c d := ⟨h.1.drew, h.2⟩
theorem by_alloc {z W : World} {p q : Nat} {a b c d : Int} (h : By z W p q a b c d) (o : Obj) : By z (W.alloc o) p q a b c d := by_next h ((Below.refl _ _).alloc (Nat.le_refl _) _)
theorem by_set {z W : World} {p q : Nat} {a b c d : Int} (h : By z W p q a b c d) (hp : p < z.heap.size) (hq : q < z.heap.size) {g : Nat} (hg : z.heap.size ≤ g) (o : Nat) (v : Value) : By z (W.setCell ⟨g, o, none⟩ v) p q a b c d := by
  obtain ⟨h1, k0, k1, k2, k3⟩ := h
  have ne : ∀ x y : Nat, x ≠ g → (⟨g, o, none⟩ : Addr) ≠ ⟨x, y, none⟩ := fun x y h e => h (by injection e with e; exact e.symm)
  refine ⟨h1.setCell hg _, ?_, ?_, ?_, ?_⟩
  · rw [World.cell?_setCell_other _ _ _ _ (ne _ _ (by omega))]; exact k0
  · rw [World.cell?_setCell_other _ _ _ _ (ne _ _ (by omega))]; exact k1
  · rw [World.cell?_setCell_other _ _ _ _ (ne _ _ (by omega))]; exact k2
  · rw [World.cell?_setCell_other _ _ _ _ (ne _ _ (by omega))]; exact k3
theorem rs_under {w z W : World} {g : Nat} {u v : Int} (h : Rs w z g u v) (hb : Below z.heap.size z W) : Rs w W g u v :=
  ⟨h.1, Nat.lt_of_lt_of_le h.2.1 hb.size, keep_cellB h.2.2.1 hb, keep_cellB h.2.2.2 hb⟩
theorem fnExactBetween_walk (a b : Int) (_ : -9223372036854775808 ≤ a) (_ : a ≤ 9223372036854775807) (_ : -9223372036854775808 ≤ b) (_ : b ≤ 9223372036854775807) (c d : Int) (_ : -9223372036854775808 ≤ c) (_ : c ≤ 9223372036854775807) (_ : -9223372036854775808 ≤ d) (_ : d ≤ 9223372036854775807) (i : Int) (_ : -9223372036854775808 ≤ i) (_ : i ≤ 9223372036854775807) (n : Int) (_ : -9223372036854775808 ≤ n) (_ : n ≤ 9223372036854775807) (w : World) :
    Calls Try.prog 7 #[.agg #[.int .i64 a, .int .i64 b], .agg #[.int .i64 c, .int .i64 d], .int .i64 i, .int .i64 n] w fun e w' => e = .returned (.bool true) ∧ Below w.heap.size w w' := by
  obtain ⟨u, v, r, huv⟩ := betwRes_form a b c d i n
  have CS := betweenS a b c d i n
  have CI := betweenI a b c d i n
  rw [huv] at CS CI
  have HCS := hide CS
  have HCI := hide CI
  have hS0 := hide (bx_new (w := w) (a := a) (b := b) (c := c) (d := d) (t := 25))
  clear CS CI huv
  go_enter Try.func7, Try.ntmps7
  go_wp2_with fail
  go_cut [9, 10] (fun s t wr => ∃ g, s = .pointer (some ⟨g, 0, none⟩) ∧ t = .int .i64 r ∧ Hid (Bx w wr a b c d) ∧ Hid (Rs w wr g u v))
  case first =>
    go_region_held3 (fun w' => Below w.heap.size w w' ∧ w.heap.size + 1 < w'.heap.size ∧ w'.cell? ⟨w.heap.size, 0, none⟩ = some (.int .i64 a) ∧ w'.cell? ⟨w.heap.size, 1, none⟩ = some (.int .i64 b) ∧ w'.cell? ⟨w.heap.size + 1, 0, none⟩ = some (.int .i64 c) ∧ w'.cell? ⟨w.heap.size + 1, 1, none⟩ = some (.int .i64 d)) (first | exact bx_drew hS0.out | exact hS1.out | exact bx_alloc hS1.out _ | exact bx_alloc (bx_drew hS0.out) _ | exact bx_set (bx_set hS1.out (by first | omega | (simp; omega)) _ _) (by first | omega | (simp; omega)) _ _ | go_keep) (first | (go_at_call 18; refine (toPt _ _ _).mono ?_; rintro e w1 ⟨rfl, hb1⟩; obtain ⟨hc1, hf1⟩ := bcell hb1; have hz1 := hb1.size; (try simp at hz1); (try (have lt2 : w.heap.size + 1 + 1 < w1.heap.size := by omega)); (try (have lt4 := Nat.lt_of_lt_of_le lt4 hz1)); (try (have lt4 := Nat.lt_of_lt_of_le lt3 hz1)); (try (have lt3 := Nat.lt_of_succ_le hz1)); have hS1 := hide (bx_next (by assumption) hb1); have hl1 := (Hid.out hS1).2.1) | (go_at_call 22; refine (HCS.out _).mono ?_; rintro e w1 ⟨rfl, hb1⟩; obtain ⟨hc1, hf1⟩ := bcell hb1; have hz1 := hb1.size; (try simp at hz1); (try (have lt2 : w.heap.size + 1 + 1 < w1.heap.size := by omega)); (try (have lt4 := Nat.lt_of_lt_of_le lt4 hz1)); (try (have lt4 := Nat.lt_of_lt_of_le lt3 hz1)); (try (have lt3 := Nat.lt_of_succ_le hz1)); have hS1 := hide (bx_next (by assumption) hb1); have hl1 := (Hid.out hS1).2.1))
    all_goals
      have hS2 := hide (by assumption : Bx w _ a b c d)
      go_wp2_with fail
      go_meet
      case rel => exact ⟨_, rfl, rfl, hS2, hide ⟨by first | omega | (simp; omega), by first | omega | (simp; done) | (simp; omega), by go_simp, by go_simp⟩⟩
  case rest =>
    obtain ⟨g, rfl, rfl, hbx, hrs⟩ := hcut
    have hp := Nat.lt_of_succ_lt hbx.out.2.1
    have hq := hbx.out.2.1
    have hS0 : Hid (By wc wc w.heap.size (w.heap.size + 1) a b c d) := hide ⟨Below.refl _ _, hbx.out.2.2⟩
    have hBW := hbx.out.1
    clear HCS hbx
    obtain ⟨z, hz⟩ : ∃ z, wc = z := ⟨_, rfl⟩
    rw [hz] at hS0 hp hq hrs hBW ⊢
    clear hz
    go_wp2_with fail
    go_cut [11, 12] (fun s t wr => ∃ h, s = .pointer (some ⟨h, 0, none⟩) ∧ t = .int .i64 r ∧ Hid (Below z.heap.size z wr) ∧ Hid (Rs w wr h u v))
    case first =>
      go_region_held3 (fun w' => Below z.heap.size z w' ∧ w'.cell? ⟨w.heap.size, 0, none⟩ = some (.int .i64 a) ∧ w'.cell? ⟨w.heap.size, 1, none⟩ = some (.int .i64 b) ∧ w'.cell? ⟨w.heap.size + 1, 0, none⟩ = some (.int .i64 c) ∧ w'.cell? ⟨w.heap.size + 1, 1, none⟩ = some (.int .i64 d)) (first | exact by_drew hS0.out | exact hS1.out | exact by_alloc hS1.out _ | exact by_alloc (by_drew hS0.out) _ | exact by_set (by_set hS1.out hp hq (by first | omega | (simp; omega)) _ _) hp hq (by first | omega | (simp; omega)) _ _ | go_keep) (first | (go_at_call 18; refine (toPt _ _ _).mono ?_; rintro e w1 ⟨rfl, hb1⟩; obtain ⟨hc1, hf1⟩ := bcell hb1; have hz1 := hb1.size; (try simp at hz1); (try (have lt4 := Nat.lt_of_lt_of_le lt4 hz1)); (try (have lt4 := Nat.lt_of_lt_of_le lt3 hz1)); (try (have lt3 := Nat.lt_of_succ_le hz1)); have hS1 := hide (by_next (by assumption) hb1); have hl1 := (Hid.out hS1).1.size) | (go_at_call 23; refine (HCI.out _).mono ?_; rintro e w1 ⟨rfl, hb1⟩; obtain ⟨hc1, hf1⟩ := bcell hb1; have hz1 := hb1.size; (try simp at hz1); (try (have lt4 := Nat.lt_of_lt_of_le lt4 hz1)); (try (have lt4 := Nat.lt_of_lt_of_le lt3 hz1)); (try (have lt3 := Nat.lt_of_succ_le hz1)); have hS1 := hide (by_next (by assumption) hb1); have hl1 := (Hid.out hS1).1.size))
      all_goals
        have hS2 := hide (And.left (by assumption : By z _ w.heap.size (w.heap.size + 1) a b c d))
        have hwz := hBW.size
        go_wp2_with fail
        go_meet
        case rel => exact ⟨_, rfl, rfl, hS2, hide ⟨by first | omega | (simp; omega), by first | omega | (simp; done) | (simp; omega), by go_simp, by go_simp⟩⟩
    case rest =>
      obtain ⟨h, rfl, rfl, hbz, hrh⟩ := hcut
      obtain ⟨-, -, d0, d1⟩ := id hrh.out
      obtain ⟨-, -, c0, c1⟩ := rs_under hrs.out hbz.out
      have hB := below_next hbz.out hBW
      have z1 : (r != r) = false := by simp
      go_wp2_with fail
      refine (eqPoint1 _ _ _).mono ?_
      rintro e w4 ⟨rfl, hb4⟩
      have hB4 := below_next (w0 := w) hb4 hB
      go_wp2_with fail
      go_ret
      exact ⟨rfl, hB4⟩
end Go.Proofs.Ytnmihmjgmanllaa
