--%!
/- Plain laws on joined phases and rotated lists; rows of phases that a call makes for itself. Own work. -/
import Derived.Test.YtklmoeolehdjeaaPhAt
namespace Go.Proofs.Ytklmoeolehdjeaa
open Go.ChangeShapes Go.WideShapes Go.ChangeAt Go.RowKit
set_option linter.unusedVariables false
set_option maxRecDepth 100000
set_option maxHeartbeats 1000000

/-- one tenth more, joined to the phases so far -/
def jn (out : List (ByteArray × Int)) (s : ByteArray) : List (ByteArray × Int) :=
  if h : ∃ h : 0 < out.length, (out[out.length - 1]'(by omega)).1 = s then out.set (out.length - 1) (s, (out[out.length - 1]'(by have := h.1; omega)).2 + 1) else out ++ [(s, 1)]
def joinB (l : List UInt8) : List (ByteArray × Int) := l.foldl (fun o b => jn o (nameOf b)) []
theorem joinB_snoc (l : List UInt8) (b : UInt8) : joinB (l ++ [b]) = jn (joinB l) (nameOf b) := by unfold joinB; rw [List.foldl_append]; rfl
theorem joinB_take {l : List UInt8} {k : Nat} (h : k < l.length) : joinB (l.take (k + 1)) = jn (joinB (l.take k)) (nameOf l[k]) := by rw [List.take_succ_eq_append_getElem h, joinB_snoc]
theorem jn_same {out : List (ByteArray × Int)} {s : ByteArray} (h : 0 < out.length) (e : (out[out.length - 1]'(by omega)).1 = s) : jn out s = out.set (out.length - 1) (s, (out[out.length - 1]'(by omega)).2 + 1) := by
  unfold jn
  rw [dif_pos ⟨h, e⟩]
theorem jn_diff {out : List (ByteArray × Int)} {s : ByteArray} (h : 0 < out.length) (e : (out[out.length - 1]'(by omega)).1 ≠ s) : jn out s = out ++ [(s, 1)] := by
  unfold jn
  rw [dif_neg (fun k => e k.2)]
theorem jn_nil {out : List (ByteArray × Int)} {s : ByteArray} (h : out.length = 0) : jn out s = out ++ [(s, 1)] := by
  unfold jn
  rw [dif_neg (fun k => by have := k.1; omega)]
/-- how long joined phases are, and how many -/
def jBd (out : List (ByteArray × Int)) (n : Nat) : Prop := out.length ≤ n ∧ ∀ p ∈ out, 0 ≤ p.2 ∧ p.2 ≤ (n : Int)
theorem jn_bd {out : List (ByteArray × Int)} {n : Nat} (h : jBd out n) (s : ByteArray) : jBd (jn out s) (n + 1) := by
  by_cases q : ∃ h : 0 < out.length, (out[out.length - 1]'(by omega)).1 = s
  · rw [jn_same q.1 q.2]
    refine ⟨by rw [List.length_set]; have := h.1; omega, fun p hp => ?_⟩
    rcases List.mem_or_eq_of_mem_set hp with k | k
    · have := h.2 p k; omega
    · have := h.2 _ (List.getElem_mem (show out.length - 1 < out.length by have := q.1; omega))
      subst k
      simp only
      omega
  · have e : jn out s = out ++ [(s, 1)] := by unfold jn; rw [dif_neg q]
    rw [e]
    refine ⟨by rw [List.length_append, List.length_singleton]; have := h.1; omega, fun p hp => ?_⟩
    rcases List.mem_append.1 hp with k | k
    · have := h.2 p k; omega
    · rw [List.mem_singleton.1 k]; simp only; omega
theorem joinB_bd (l : List UInt8) (k : Nat) (hk : k ≤ l.length) : jBd (joinB (l.take k)) k := by
  induction k with
  | zero => exact ⟨Nat.le_refl _, fun p hp => by cases hp⟩
  | succ k ih =>
    rw [joinB_take (show k < l.length by omega)]
    exact jn_bd (ih (by omega)) _
theorem joinB_len (l : List UInt8) : (joinB l).length ≤ l.length := by
  have := (joinB_bd l l.length (Nat.le_refl _)).1
  rwa [List.take_length] at this
/-- a list from a place on, and then from its beginning -/
def rot (l : List UInt8) (k : Nat) : List UInt8 := l.drop k ++ l.take k
theorem rot_len (l : List UInt8) (k : Nat) (h : k ≤ l.length) : (rot l k).length = l.length := by unfold rot; rw [List.length_append, List.length_drop, List.length_take]; omega
theorem rot_at {l : List UInt8} {k i : Nat} (h : k ≤ l.length) (hi : i < l.length) : (rot l k)[i]'(by rw [rot_len _ _ h]; exact hi) = l[(k + i) % l.length]'(Nat.mod_lt _ (by omega)) := by
  unfold rot
  by_cases q : k + i < l.length
  · rw [List.getElem_append_left (by rw [List.length_drop]; omega), List.getElem_drop]
    congr 1
    rw [Nat.mod_eq_of_lt q]
  · rw [List.getElem_append_right (by rw [List.length_drop]; omega), List.getElem_take]
    congr 1
    rw [List.length_drop, Nat.mod_eq_sub_mod (by omega), Nat.mod_eq_of_lt (by omega)]
    omega

/-- phases as cells -/
def phC (out : List (ByteArray × Int)) : List Value := out.flatMap fun p => [.string p.1, .int .i64 p.2]
theorem phC_len (out : List (ByteArray × Int)) : (phC out).length = out.length * 2 := by
  induction out with
  | nil => rfl
  | cons p ps ih => unfold phC at ih ⊢; rw [List.flatMap_cons, List.length_append, ih, List.length_cons]; simp; omega
theorem phC_snoc (out : List (ByteArray × Int)) (s : ByteArray) (n : Int) : phC (out ++ [(s, n)]) = phC out ++ [.string s, .int .i64 n] := by unfold phC; rw [List.flatMap_append]; rfl
theorem phC_cons (p : ByteArray × Int) (out : List (ByteArray × Int)) : phC (p :: out) = .string p.1 :: .int .i64 p.2 :: phC out := rfl
theorem phC_at (out : List (ByteArray × Int)) : ∀ (k : Nat) (h : k < out.length), (phC out)[k * 2]? = some (.string out[k].1) ∧ (phC out)[k * 2 + 1]? = some (.int .i64 out[k].2) := by
  induction out with
  | nil => intro k h; cases h
  | cons p ps ih =>
    intro k h
    rw [phC_cons]
    cases k with
    | zero => exact ⟨rfl, rfl⟩
    | succ k =>
      have := ih k (by simp at h; omega)
      rw [show (k + 1) * 2 = k * 2 + 1 + 1 by omega]
      exact this
theorem phC_set (out : List (ByteArray × Int)) : ∀ (k : Nat) (h : k < out.length) (n : Int), (phC out).set (k * 2 + 1) (.int .i64 n) = phC (out.set k (out[k].1, n)) := by
  induction out with
  | nil => intro k h; cases h
  | cons p ps ih =>
    intro k h n
    cases k with
    | zero => rfl
    | succ k =>
      rw [phC_cons, show (k + 1) * 2 + 1 = (k * 2 + 1) + 1 + 1 by omega, List.set_cons_succ, List.set_cons_succ, ih k (by simp at h; omega)]
      rfl
/-- a slice value holds phases of the call's own -/
def OwnsP (w : World) (B : Nat) (t : TypeId) (v : Value) (out : List (ByteArray × Int)) : Prop := w.ownsRow B t 2 v out.length (phC out)
theorem OwnsP.empty {w : World} {B : Nat} {t : TypeId} (h : B ≤ w.heap.size) : OwnsP (w.alloc (.cells #[] t)) B t (.slice (some ⟨w.heap.size, 0, none⟩) 0 0) [] := World.ownsRow_lit w #[] 0 h (Nat.zero_le _) rfl
theorem OwnsP.at_ {w : World} {B : Nat} {t : TypeId} {g c : Nat} {out : List (ByteArray × Int)} (h : OwnsP w B t (.slice (some ⟨g, 0, none⟩) out.length c) out) : PhAt w g 0 out := fun k hk => by
  obtain ⟨h1, h2⟩ := phC_at out k hk
  rw [Nat.zero_add, World.ownsRow.cellAt h (k * 2) (by omega), World.ownsRow.cellAt h (k * 2 + 1) (by omega)]
  exact ⟨h1, h2⟩
/-- how an owned list's value looks: a slice of its own block, or (an empty one) nil -/
theorem OwnsP.form {w : World} {B : Nat} {t : TypeId} {v : Value} {out : List (ByteArray × Int)} (h : OwnsP w B t v out) (h1 : 0 < out.length) :
    ∃ g c, v = .slice (some ⟨g, 0, none⟩) out.length c ∧ B ≤ g ∧ g < w.heap.size ∧ PhAt w g 0 out ∧ ∀ o, w.frozen? ⟨g, o, none⟩ = false := by
  obtain ⟨g, c, rfl, h2, h3⟩ := World.ownsRow.form h h1
  exact ⟨g, c, rfl, h2, h3, OwnsP.at_ h, fun o => World.ownsRow.frozenAt h o⟩
theorem OwnsP.below {w w' : World} {B : Nat} {t : TypeId} {v : Value} {out : List (ByteArray × Int)} (h : OwnsP w B t v out) (hb : Below w.heap.size w w') : OwnsP w' B t v out :=
  World.ownsRow.kept (row := none) h ⟨hb.os, hb.tape, hb.output, hb.size, fun i hi _ => hb.block i hi⟩ (by cases hv : v.ownBlock <;> simp)
theorem new_two {w : World} {t : TypeId} {u x : Value} : ∀ j y, [u, x][j]? = some y → (w.alloc (.cells #[u, x] t)).cell? ((⟨w.heap.size, 0, none⟩ : Addr).add j) = some y := by
  intro j y hj
  match j, hj with
  | 0, hj =>
    simp only [List.getElem?_cons_zero, Option.some.injEq] at hj
    subst hj
    exact cell_of_row _ _ _ _ _ _ (heap_alloc_new w _)
  | 1, hj =>
    simp only [List.getElem?_cons_succ, List.getElem?_cons_zero, Option.some.injEq] at hj
    subst hj
    exact cell_of_row _ _ _ _ _ _ (heap_alloc_new w _)
/-- one phase more: what is owned, and below -/
theorem push_P {w W w1 : World} {B : Nat} {t : TypeId} {v v' : Value} {out : List (ByteArray × Int)} {s : ByteArray} {n : Int} {o : Obj} (hown : OwnsP W B t v out) (hown' : w1.ownsRow B t 2 v' (out.length + 1) (phC out ++ [.string s, .int .i64 n]))
    (hgrow : (W.alloc o).grownBy w1 v.ownBlock) (hb : Below B w W) (hB : B ≤ W.heap.size) : OwnsP w1 B t v' (out ++ [(s, n)]) ∧ Below B w w1 :=
  ⟨by unfold OwnsP; rw [phC_snoc, List.length_append]; exact hown', ((hb.alloc hB o).grown hgrow (Nat.le_trans hB (by simp)) fun k hk => (World.ownsRow.lt hown k hk).1)⟩
/-- the last phase a tenth longer -/
theorem last_P {w W : World} {B : Nat} {t : TypeId} {g c k : Nat} {out : List (ByteArray × Int)} (hown : OwnsP W B t (.slice (some ⟨g, 0, none⟩) out.length c) out) (hk : k < out.length) (n : Int) (hb : Below B w W) (hB : B ≤ g) :
    OwnsP (W.setCell ⟨g, k * 2 + 1, none⟩ (.int .i64 n)) B t (.slice (some ⟨g, 0, none⟩) out.length c) (out.set k (out[k].1, n)) ∧ Below B w (W.setCell ⟨g, k * 2 + 1, none⟩ (.int .i64 n)) := by
  refine ⟨?_, hb.setCell hB _⟩
  unfold OwnsP
  rw [← phC_set out k hk, List.length_set]
  exact (World.ownsRow.stored hown (k * 2 + 1) _).1
/-- a list of phases of the call's own: it reads, and can be written -/
def LsPh (w : World) (B : Nat) (A : Option Addr) (l : List (ByteArray × Int)) : Prop := 0 < l.length → ∃ g, A = some ⟨g, 0, none⟩ ∧ B ≤ g ∧ g < w.heap.size ∧ PhAt w g 0 l ∧ ∀ o, w.frozen? ⟨g, o, none⟩ = false
theorem LsPh.below {w w' : World} {B : Nat} {A : Option Addr} {l : List (ByteArray × Int)} (h : LsPh w B A l) (hb : Below w.heap.size w w') : LsPh w' B A l := fun h0 => by
  obtain ⟨g, e, h1, hg, hp, hf⟩ := h h0
  exact ⟨g, e, h1, Nat.lt_of_lt_of_le hg hb.size, hp.below hb hg, fun o => (hb.frozen (p := ⟨g, o, none⟩) hg).trans (hf o)⟩
theorem LsPh.less {w : World} {B B' : Nat} {A : Option Addr} {l : List (ByteArray × Int)} (h : LsPh w B A l) (hB : B' ≤ B) : LsPh w B' A l := fun h0 => by
  obtain ⟨g, e, h1, hg, hp, hf⟩ := h h0
  exact ⟨g, e, by omega, hg, hp, hf⟩
theorem LsPh.nil (w : World) (B : Nat) (A : Option Addr) : LsPh w B A [] := fun h0 => absurd h0 (by simp)
theorem OwnsP.ls {w : World} {B : Nat} {t : TypeId} {v : Value} {l : List (ByteArray × Int)} (h : OwnsP w B t v l) : ∃ A c, v = .slice A l.length c ∧ LsPh w B A l := by
  by_cases h1 : 0 < l.length
  · obtain ⟨g, c, rfl, h2, h3, h4, h5⟩ := OwnsP.form h h1
    exact ⟨_, c, rfl, fun _ => ⟨g, rfl, h2, h3, h4, h5⟩⟩
  · have e : l = [] := List.eq_nil_of_length_eq_zero (by omega)
    subst e
    rcases h.2 with ⟨rfl, _⟩ | ⟨g, c, cur, rfl, _⟩
    · exact ⟨none, 0, rfl, LsPh.nil _ _ _⟩
    · exact ⟨_, c, rfl, LsPh.nil _ _ _⟩
end Go.Proofs.Ytklmoeolehdjeaa
