--%!
/- Plain laws on splitting a text at a byte: the reference's loop, the library's split. No program in sight. Own work. -/
import Derived.Lib.Split
namespace Go.Proofs.YtphlbpailmdndaaDoor
set_option linter.unusedVariables false
open Go.Lib

/-- the pieces laid so far, and the open one -/
def splS (c : UInt8) (p : List (List UInt8) × List UInt8) (l : List UInt8) : List (List UInt8) × List UInt8 := l.foldl (fun p b => if b = c then (p.1 ++ [p.2], []) else (p.1, p.2 ++ [b])) p
def spl (c : UInt8) (l : List UInt8) : List (List UInt8) := (splS c ([], []) l).1 ++ [(splS c ([], []) l).2]
theorem splS_snoc (c : UInt8) (p : List (List UInt8) × List UInt8) (l : List UInt8) (b : UInt8) : splS c p (l ++ [b]) = if b = c then ((splS c p l).1 ++ [(splS c p l).2], []) else ((splS c p l).1, (splS c p l).2 ++ [b]) := by
  unfold splS; rw [List.foldl_append]; rfl
theorem splS_app (c : UInt8) (p : List (List UInt8) × List UInt8) (a b : List UInt8) : splS c p (a ++ b) = splS c (splS c p a) b := by unfold splS; rw [List.foldl_append]
theorem splS_no {c : UInt8} {l : List UInt8} (h : c ∉ l) (p : List (List UInt8) × List UInt8) : splS c p l = (p.1, p.2 ++ l) := by
  induction l generalizing p with
  | nil => simp [splS]
  | cons b l ih =>
    rw [List.mem_cons, not_or] at h
    show splS c (if b = c then (p.1 ++ [p.2], []) else (p.1, p.2 ++ [b])) l = _
    rw [if_neg (fun e => h.1 e.symm), ih h.2]
    simp
/-- laid pieces stay in front -/
theorem splS_front (c : UInt8) (o : List (List UInt8)) (x : List UInt8) (l : List UInt8) : splS c (o, x) l = (o ++ (splS c ([], x) l).1, (splS c ([], x) l).2) := by
  induction l generalizing o x with
  | nil => simp [splS]
  | cons b l ih =>
    by_cases e : b = c
    · show splS c (if b = c then _ else _) l = _
      rw [if_pos e]
      have h2 : splS c ([], x) (b :: l) = splS c ([x], []) l := by show splS c (if b = c then _ else _) l = _; rw [if_pos e]; rfl
      rw [h2, ih, ih [x]]
      simp
    · show splS c (if b = c then _ else _) l = _
      rw [if_neg e]
      have h2 : splS c ([], x) (b :: l) = splS c ([], x ++ [b]) l := by show splS c (if b = c then _ else _) l = _; rw [if_neg e]
      rw [h2, ih]
theorem spl_no {c : UInt8} {l : List UInt8} (h : c ∉ l) : spl c l = [l] := by unfold spl; rw [splS_no h]; rfl
theorem spl_at {c : UInt8} {a r : List UInt8} (h : c ∉ a) : spl c (a ++ c :: r) = a :: spl c r := by
  have e0 : splS c ([], []) (a ++ c :: r) = splS c ([a], []) r := by
    rw [splS_app, splS_no h]
    show splS c (if c = c then _ else _) r = _
    rw [if_pos rfl]
    rfl
  unfold spl
  rw [e0, splS_front]
  rfl
theorem spl_len (c : UInt8) (l : List UInt8) : (spl c l).length ≤ l.length + 1 := by
  have : ∀ p, (splS c p l).1.length ≤ p.1.length + l.length := by
    induction l with
    | nil => intro p; simp [splS]
    | cons b l ih =>
      intro p
      show (splS c (if b = c then _ else _) l).1.length ≤ _
      have := ih (if b = c then (p.1 ++ [p.2], []) else (p.1, p.2 ++ [b]))
      split <;> rename_i e <;> simp only [e, if_true, if_false] at this ⊢ <;> simp at this ⊢ <;> omega
  have := this ([], [])
  unfold spl
  simp at this ⊢
  omega
theorem spl_ne (c : UInt8) (l : List UInt8) : spl c l ≠ [] := by unfold spl; simp
theorem mem_cut {c : UInt8} {l : List UInt8} (h : c ∈ l) : ∃ a r, l = a ++ c :: r ∧ c ∉ a := by
  induction l with
  | nil => cases h
  | cons b l ih =>
    by_cases e : b = c
    · subst e; exact ⟨[], l, rfl, by simp⟩
    · have : c ∈ l := by
        rcases List.mem_cons.1 h with k | k
        · exact absurd k.symm e
        · exact k
      obtain ⟨a, r, rfl, ha⟩ := ih this
      exact ⟨b :: a, r, rfl, by rw [List.mem_cons, not_or]; exact ⟨fun k => e k.symm, ha⟩⟩
theorem spl_piece (c : UInt8) (l : List UInt8) : ∀ x ∈ spl c l, x.length ≤ l.length := by
  have : ∀ n, ∀ l : List UInt8, l.length ≤ n → ∀ x ∈ spl c l, x.length ≤ l.length := by
    intro n
    induction n with
    | zero =>
      intro l hl x hx
      obtain rfl : l = [] := List.eq_nil_of_length_eq_zero (by omega)
      rw [spl_no (by simp)] at hx
      simp at hx; subst hx; simp
    | succ n ih =>
      intro l hl x hx
      by_cases h : c ∈ l
      · obtain ⟨a, r, rfl, ha⟩ := mem_cut h
        rw [List.length_append, List.length_cons] at hl ⊢
        rw [spl_at ha] at hx
        rcases List.mem_cons.1 hx with k | k
        · subst k; omega
        · have := ih r (by omega) x k; omega
      · rw [spl_no h] at hx
        simp at hx; subst hx; exact Nat.le_refl _
  exact this _ l (Nat.le_refl _)
theorem index_one_no {c : UInt8} {l : List UInt8} (h : c ∉ l) : index l [c] = -1 := by
  induction l with
  | nil => rfl
  | cons b l ih =>
    rw [List.mem_cons, not_or] at h
    unfold index
    rw [if_neg (by simp; exact h.1), ih h.2]
    rfl
theorem index_one_at {c : UInt8} {a r : List UInt8} (h : c ∉ a) : index (a ++ c :: r) [c] = a.length := by
  induction a with
  | nil => unfold index; simp
  | cons b a ih =>
    rw [List.mem_cons, not_or] at h
    rw [List.cons_append]
    unfold index
    rw [if_neg (by simp; exact h.1), ih h.2]
    have : ¬ ((a.length : Int) == -1) = true := by intro e; have := beq_iff_eq.1 e; omega
    rw [if_neg this, List.length_cons]
    omega
theorem splitK_spl (c : UInt8) : ∀ (n : Nat) (l : List UInt8), l.length ≤ n → ∀ k, l.length ≤ k → splitK [c] 0 k l = spl c l := by
  intro n
  induction n with
  | zero =>
    intro l hl k hk
    obtain rfl : l = [] := List.eq_nil_of_length_eq_zero (by omega)
    rw [spl_no (by simp)]
    cases k with
    | zero => rfl
    | succ k => unfold splitK; rfl
  | succ n ih =>
    intro l hl k hk
    by_cases h : c ∈ l
    · obtain ⟨a, r, rfl, ha⟩ := mem_cut h
      rw [List.length_append, List.length_cons] at hl hk
      cases k with
      | zero => omega
      | succ k =>
        rw [spl_at ha]
        unfold splitK
        have hi := index_one_at (r := r) ha
        have : ¬ ((a.length : Int) == -1) = true := by intro e; have := beq_iff_eq.1 e; omega
        rw [hi, if_neg this]
        have e1 : (a ++ c :: r).take ((a.length : Int).toNat + 0) = a := by simp
        have e2 : (a ++ c :: r).drop ((a.length : Int).toNat + [c].length) = r := by simp
        rw [e1, e2, ih r (by omega) k (by omega)]
    · rw [spl_no h]
      cases k with
      | zero => rfl
      | succ k => unfold splitK; rw [index_one_no h]; rfl
theorem countFrom_spl (c : UInt8) : ∀ (fuel : Nat) (l : List UInt8), l.length < fuel → ∀ k, k = countFrom [c] fuel l → splitK [c] 0 k l = spl c l ∧ (spl c l).length = k + 1 := by
  intro fuel
  induction fuel with
  | zero => intro l hl; omega
  | succ fuel ih =>
    intro l hl k hk
    subst hk
    by_cases h : c ∈ l
    · obtain ⟨a, r, rfl, ha⟩ := mem_cut h
      rw [List.length_append, List.length_cons] at hl
      have hi := index_one_at (r := r) ha
      have hne : ¬ ((a.length : Int) == -1) = true := by intro e; have := beq_iff_eq.1 e; omega
      have e1 : (a ++ c :: r).take ((a.length : Int).toNat + 0) = a := by simp
      have e2 : (a ++ c :: r).drop ((a.length : Int).toNat + [c].length) = r := by simp
      have hc : countFrom [c] (fuel + 1) (a ++ c :: r) = 1 + countFrom [c] fuel r := by
        rw [countFrom, hi, if_neg hne, e2]
      obtain ⟨i1, i2⟩ := ih r (by omega) _ rfl
      rw [hc, spl_at ha, Nat.add_comm 1]
      refine ⟨?_, by rw [List.length_cons, i2]⟩
      unfold splitK
      rw [hi, if_neg hne, e1, e2, i1]
    · have hc : countFrom [c] (fuel + 1) l = 0 := by rw [countFrom, index_one_no h]; rfl
      rw [hc, spl_no h]
      exact ⟨rfl, rfl⟩
theorem split_spl (c : UInt8) (l : List UInt8) : splitK [c] 0 (count l [c]) l = spl c l ∧ (spl c l).length = count l [c] + 1 := countFrom_spl c _ l (by omega) _ rfl
/-- the pieces as texts -/
noncomputable def splB (c : UInt8) (s : ByteArray) : List ByteArray := (spl c s.data.toList).map fun l => ⟨l.toArray⟩
theorem splB_len (c : UInt8) (s : ByteArray) : (splB c s).length ≤ s.size + 1 := by
  unfold splB; rw [List.length_map]
  have := spl_len c s.data.toList
  rw [Array.length_toList] at this
  exact this
theorem splB_pos (c : UInt8) (s : ByteArray) : 1 ≤ (splB c s).length := by
  unfold splB; rw [List.length_map]
  exact List.length_pos_iff.2 (spl_ne c _)
theorem toA (s : ByteArray) : (⟨s.data.toList.toArray⟩ : ByteArray) = s := by cases s; simp
theorem splitB_splB (c : UInt8) (s : ByteArray) : splitB ⟨#[c]⟩ 0 (countB s ⟨#[c]⟩) s = splB c s ∧ (splB c s).length = countB s ⟨#[c]⟩ + 1 := by
  have h := splitB_data ⟨#[c]⟩ 0 (countB s ⟨#[c]⟩) s
  have hc : countB s ⟨#[c]⟩ = count s.data.toList [c] := rfl
  obtain ⟨h1, h2⟩ := split_spl c s.data.toList
  rw [hc] at h ⊢
  rw [show (⟨#[c]⟩ : ByteArray).data.toList = [c] from rfl, h1] at h
  refine ⟨?_, by unfold splB; rw [List.length_map, h2]⟩
  unfold splB
  rw [← h, List.map_map]
  have : ((fun l : List UInt8 => (⟨l.toArray⟩ : ByteArray)) ∘ fun x : ByteArray => x.data.toList) = id := by funext x; exact toA x
  rw [this, List.map_id]
end Go.Proofs.YtphlbpailmdndaaDoor
