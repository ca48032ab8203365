--%!
/- Lists of one-cell elements of any kind that a call makes for itself. Own work. -/
import Derived.Test.YtklmoeolehdjeaaOwn
namespace Go.Proofs.Ytklmoeolehdjeaa
open Go.ChangeShapes Go.WideShapes Go.ChangeAt Go.RowKit
set_option linter.unusedVariables false

/-- a slice value holds a list of the call's own, one cell an element -/
def OwnsA {α : Type} (w : World) (B : Nat) (t : TypeId) (v : Value) (f : α → Value) (l : List α) : Prop := w.ownsRow B t 1 v l.length (l.map f)
section
variable {α : Type} {f : α → Value} {l : List α} {B : Nat} {t : TypeId} {v v' : Value} {w w' W w1 : World}
theorem OwnsA.snoc {b : α} (h : w.ownsRow B t 1 v (l.length + 1) (l.map f ++ [f b])) : OwnsA w B t v f (l ++ [b]) := by
  unfold OwnsA; simpa using h
theorem OwnsA.empty (h : B ≤ w.heap.size) : OwnsA (w.alloc (.cells #[] t)) B t (.slice (some ⟨w.heap.size, 0, none⟩) 0 0) f [] := World.ownsRow_lit w #[] 0 h (Nat.zero_le _) rfl
/-- a list lies in a block from its head on, one cell an element -/
def AtA (w : World) (g : Nat) (l : List α) (f : α → Value) : Prop := ∀ (k : Nat) (hk : k < l.length), w.cell? ⟨g, k, none⟩ = some (f l[k])
theorem AtA.below {g : Nat} (h : AtA w g l f) (hb : Below B w w') (hg : g < B) : AtA w' g l f := fun k hk => (hb.cell (p := ⟨g, k, none⟩) hg).trans (h k hk)
/-- how an owned list's value looks: a slice of its own block, or (an empty one) nil -/
theorem OwnsA.form (h : OwnsA w B t v f l) : (v = .slice none 0 0 ∧ l = []) ∨ ∃ g c, v = .slice (some ⟨g, 0, none⟩) l.length c ∧ l.length ≤ c ∧ c ≤ maxLen ∧ B ≤ g ∧ g < w.heap.size ∧ AtA w g l f := by
  by_cases h1 : 1 ≤ l.length
  · right
    obtain ⟨g, c, rfl, h2, h3⟩ := World.ownsRow.form h h1
    have h4 : AtA w g l f := fun k hk => by
      rw [World.ownsRow.cellAt h k (by omega), List.getElem?_map, List.getElem?_eq_getElem hk]
      rfl
    rcases h.2 with ⟨e, _⟩ | ⟨g', c', cur, e, _, _, hc, hm, _⟩
    · cases e
    · injection e with e1 e2 e3
      subst e3
      exact ⟨g, c, rfl, hc, hm, h2, h3, h4⟩
  · have hl : l = [] := List.eq_nil_of_length_eq_zero (by omega)
    subst hl
    rcases h.2 with ⟨e, _⟩ | ⟨g', c', cur, e, hB, hh, hc, hm, _⟩
    · exact .inl ⟨e, rfl⟩
    · refine .inr ⟨g', c', e, hc, hm, hB, ?_, fun k hk => absurd hk (by simp)⟩
      rcases Nat.lt_or_ge g' w.heap.size with k | k
      · exact k
      · rw [Array.getElem?_eq_none k] at hh; cases hh
theorem OwnsA.below (h : OwnsA w B t v f l) (hb : Below w.heap.size w w') : OwnsA w' B t v f l :=
  World.ownsRow.kept (row := none) h ⟨hb.os, hb.tape, hb.output, hb.size, fun i hi _ => hb.block i hi⟩ (by cases hv : v.ownBlock <;> simp)
/-- one element more: what is owned, and below -/
theorem push_A {b : α} {o : Obj} (hown : OwnsA W B t v f l) (hown' : w1.ownsRow B t 1 v' (l.length + 1) (l.map f ++ [f b]))
    (hgrow : (W.alloc o).grownBy w1 v.ownBlock) (hb : Below B w W) (hB : B ≤ W.heap.size) : OwnsA w1 B t v' f (l ++ [b]) ∧ Below B w w1 :=
  ⟨OwnsA.snoc hown', ((hb.alloc hB o).grown hgrow (Nat.le_trans hB (by simp)) fun k hk => (World.ownsRow.lt hown k hk).1)⟩
/-- a list that the call does not own stays, as long as it lies below -/
theorem AtA.push {g : Nat} {o : Obj} {β : Type} {f' : β → Value} {l' : List β} (h : AtA w g l f) (hb : Below B w w1) (hg : g < B) : AtA w1 g l f := h.below hb hg
end
def strA (s : ByteArray) : Value := .string s
def intA (n : Int) : Value := .int .i64 n
end Go.Proofs.Ytklmoeolehdjeaa
