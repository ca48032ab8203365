--%!
/- Lists of one-cell elements that a call makes for itself: what it owns, how it grows by one element. Own work. -/
import Derived.Test.YtklmoeolehdjeaaBase
import Derived.Deep.AppendLies
import Derived.Laws.OwnMore
namespace Go.Proofs.Ytklmoeolehdjeaa
open Go.ChangeShapes Go.WideShapes Go.ChangeAt Go.RowKit
set_option linter.unusedVariables false

def byteV (b : UInt8) : Value := .int .u8 b.toNat
/-- a slice value holds a list of the call's own, one cell an element -/
def Owns (w : World) (B : Nat) (t : TypeId) (v : Value) (f : UInt8 → Value) (l : List UInt8) : Prop := w.ownsRow B t 1 v l.length (l.map f)
theorem Owns.snoc {w : World} {B : Nat} {t : TypeId} {v : Value} {f : UInt8 → Value} {l : List UInt8} {b : UInt8} (h : w.ownsRow B t 1 v (l.length + 1) (l.map f ++ [f b])) : Owns w B t v f (l ++ [b]) := by
  unfold Owns; simpa using h
theorem Owns.empty {w : World} {B : Nat} {t : TypeId} {f : UInt8 → Value} (h : B ≤ w.heap.size) : Owns (w.alloc (.cells #[] t)) B t (.slice (some ⟨w.heap.size, 0, none⟩) 0 0) f [] := World.ownsRow_lit w #[] 0 h (Nat.zero_le _) rfl
theorem Owns.form {w : World} {B : Nat} {t : TypeId} {v : Value} {f : UInt8 → Value} {l : List UInt8} (h : Owns w B t v f l) (h1 : 1 ≤ l.length) : ∃ g c, v = .slice (some ⟨g, 0, none⟩) l.length c ∧ B ≤ g ∧ g < w.heap.size ∧ ∀ (k : Nat) (hk : k < l.length), w.cell? ⟨g, k, none⟩ = some (f l[k]) := by
  obtain ⟨g, c, rfl, h2, h3⟩ := World.ownsRow.form h h1
  refine ⟨g, c, rfl, h2, h3, fun k hk => ?_⟩
  rw [World.ownsRow.cellAt h k (by omega), List.getElem?_map, List.getElem?_eq_getElem hk]
  rfl
/-- a list lies in a block, one cell an element -/
def TAt (w : World) (g : Nat) (l : List UInt8) (f : UInt8 → Value) : Prop := ∀ (k : Nat) (hk : k < l.length), w.cell? ⟨g, k, none⟩ = some (f l[k])
theorem TAt.below {w w' : World} {g B : Nat} {l : List UInt8} {f : UInt8 → Value} (h : TAt w g l f) (hb : Below B w w') (hg : g < B) : TAt w' g l f := fun k hk => (hb.cell (p := ⟨g, k, none⟩) hg).trans (h k hk)
theorem TAt.take {w : World} {g : Nat} {l : List UInt8} {f : UInt8 → Value} (h : TAt w g l f) (n : Nat) : TAt w g (l.take n) f := fun k hk => by
  rw [List.getElem_take]
  exact h k (by rw [List.length_take] at hk; omega)
theorem Owns.form' {w : World} {B : Nat} {t : TypeId} {v : Value} {f : UInt8 → Value} {l : List UInt8} (h : Owns w B t v f l) (h1 : 1 ≤ l.length) : ∃ g c, v = .slice (some ⟨g, 0, none⟩) l.length c ∧ l.length ≤ c ∧ c ≤ maxLen ∧ B ≤ g ∧ g < w.heap.size ∧ TAt w g l f := by
  obtain ⟨g, c, rfl, h2, h3, h4⟩ := Owns.form h h1
  rcases h.2 with ⟨e, _⟩ | ⟨g', c', cur, e, _, _, hc, hm, _⟩
  · cases e
  · injection e with e1 e2 e3
    subst e3
    exact ⟨g, c, rfl, hc, hm, h2, h3, h4⟩
theorem new_cell {w : World} {t : TypeId} {u : Value} : ∀ j x, [u][j]? = some x → (w.alloc (.cells #[u] t)).cell? ((⟨w.heap.size, 0, none⟩ : Addr).add j) = some x := by
  intro j x hj
  match j, hj with
  | 0, hj =>
    simp only [List.getElem?_cons_zero, Option.some.injEq] at hj
    subst hj
    exact cell_of_row _ _ _ _ _ _ (heap_alloc_new w _)
/-- a block known whole -/
def BlkIs (w : World) (g : Nat) (t : TypeId) (cs : Array Value) : Prop := w.heap[g]? = some (.cells cs t (0, 0))
theorem BlkIs.lt {w : World} {g : Nat} {t : TypeId} {cs : Array Value} (h : BlkIs w g t cs) : g < w.heap.size := by
  rcases Nat.lt_or_ge g w.heap.size with k | k
  · exact k
  · unfold BlkIs at h; rw [Array.getElem?_eq_none k] at h; cases h
theorem BlkIs.apart {w : World} {g B n : Nat} {t e : TypeId} {cs : Array Value} {v : Value} {xs : List Value} (h : BlkIs w g t cs) (o : w.ownsRow B e 1 v n xs) (ne : e ≠ t) : v.ownBlock ≠ some g := by
  rcases o.2 with ⟨rfl, _⟩ | ⟨g', cap, cur, rfl, _, hh, _⟩
  · simp [Value.ownBlock]
  · intro k
    have : g' = g := by simpa [Value.ownBlock] using k
    subst this
    unfold BlkIs at h
    rw [h] at hh
    injection hh with hh
    injection hh with _ hh
    exact ne hh.symm
theorem BlkIs.grown {w w' : World} {g : Nat} {t : TypeId} {cs : Array Value} {row : Option Nat} (h : BlkIs w g t cs) (hb : w.grownBy w' row) (hg : some g ≠ row) : BlkIs w' g t cs := (hb.block g h.lt hg).trans h
theorem BlkIs.alloc {w : World} {g : Nat} {t : TypeId} {cs : Array Value} (h : BlkIs w g t cs) (o : Obj) : BlkIs (w.alloc o) g t cs := (Below.heap_alloc w o g h.lt).trans h
/-- one element more: what is owned, and below -/
theorem own_push {w W w1 : World} {B : Nat} {t : TypeId} {v v' : Value} {f : UInt8 → Value} {l : List UInt8} {b : UInt8} {o : Obj} (hown : Owns W B t v f l) (hown' : w1.ownsRow B t 1 v' (l.length + 1) (l.map f ++ [f b]))
    (hgrow : (W.alloc o).grownBy w1 v.ownBlock) (hb : Below B w W) (hB : B ≤ W.heap.size) : Owns w1 B t v' f (l ++ [b]) ∧ Below B w w1 :=
  ⟨Owns.snoc hown', ((hb.alloc hB o).grown hgrow (Nat.le_trans hB (by simp)) fun k hk => (World.ownsRow.lt hown k hk).1)⟩
theorem own_push_blk {W w1 : World} {B : Nat} {t e : TypeId} {v : Value} {f : UInt8 → Value} {l : List UInt8} {o : Obj} {g : Nat} {cs : Array Value} (hown : Owns W B t v f l)
    (hgrow : (W.alloc o).grownBy w1 v.ownBlock) (h : BlkIs W g e cs) (ne : t ≠ e) : BlkIs w1 g e cs := (h.alloc o).grown hgrow fun k => h.apart hown ne k.symm
theorem str_info : (Try.prog.info? 9).map (fun i => (i.zero, i.size, i.bytes)) = some (some (.string ByteArray.empty), 1, 16) := by kernel_rfl
theorem u8_info : (Try.prog.info? 5).map (fun i => (i.zero, i.size, i.bytes)) = some (some (.int .u8 0), 1, 1) := by kernel_rfl
end Go.Proofs.Ytklmoeolehdjeaa
