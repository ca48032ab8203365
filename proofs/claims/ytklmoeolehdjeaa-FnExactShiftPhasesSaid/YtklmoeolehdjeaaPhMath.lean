--%!
/- Plain laws on phases: when they are valid, their tenths, the least time after which they repeat. No program in sight. Own work. -/
import Derived.Test.YtklmoeolehdjeaaMath
import Derived.WalkKit
import Derived.Lib.SmallJoins
namespace Go.Proofs.Ytklmoeolehdjeaa
set_option linter.unusedVariables false

/-- is a text a color? -/
def colB (s : ByteArray) : Bool := decide (s = ⟨#[87]⟩ ∨ s = ⟨#[82]⟩ ∨ s = ⟨#[71]⟩ ∨ s = ⟨#[89]⟩)
def colOk (s : ByteArray) : Bool := decide (s = ByteArray.empty) || colB s
def elOk (p : ByteArray × Int) : Bool := inB p.2 1 600 && colOk p.1
def sm (ps : List (ByteArray × Int)) : Int := (ps.map (·.2)).sum
def okPh (ps : List (ByteArray × Int)) : Bool := ps.all elOk && (decide (1 ≤ ps.length ∧ ps.length ≤ 40) && decide (sm ps ≤ 600))
theorem sm_nil : sm [] = 0 := rfl
theorem sm_succ (ps : List (ByteArray × Int)) (k : Nat) (h : k < ps.length) : sm (ps.take (k + 1)) = sm (ps.take k) + ps[k].2 := by
  unfold sm
  rw [List.take_succ_eq_append_getElem h, List.map_append, List.sum_append]
  simp only [List.map_cons, List.map_nil, List.sum_cons, List.sum_nil]
  omega
theorem sm_full (ps : List (ByteArray × Int)) : sm (ps.take ps.length) = sm ps := by rw [List.take_length]
theorem all_take_succ {α : Type} {f : α → Bool} {ps : List α} {k : Nat} (h : (ps.take k).all f = true) (hk : k < ps.length) (e : f ps[k] = true) : (ps.take (k + 1)).all f = true := by
  rw [List.take_succ_eq_append_getElem hk, List.all_append, h]; simp [e]
theorem all_no {α : Type} {f : α → Bool} {ps : List α} {k : Nat} (hk : k < ps.length) (e : f ps[k] = false) : ps.all f = false := by
  cases h : ps.all f with
  | false => rfl
  | true => rw [List.all_eq_true.1 h _ (List.getElem_mem hk)] at e; cases e
theorem all_full {α : Type} {f : α → Bool} {ps : List α} (h : (ps.take ps.length).all f = true) : ps.all f = true := by rwa [List.take_length] at h
theorem sm_bd {ps : List (ByteArray × Int)} {k : Nat} (h : (ps.take k).all elOk = true) : 0 ≤ sm (ps.take k) ∧ sm (ps.take k) ≤ 600 * (k : Int) := by
  induction k with
  | zero => simp [sm]
  | succ k ih =>
    by_cases hk : k < ps.length
    · have e := sm_succ ps k hk
      rw [List.take_succ_eq_append_getElem hk, List.all_append, Bool.and_eq_true] at h
      have i := ih h.1
      have b : elOk ps[k] = true := by simpa using h.2
      unfold elOk at b
      rw [Bool.and_eq_true, inB_iff] at b
      omega
    · rw [List.take_of_length_le (by omega)] at h ⊢
      rw [List.take_of_length_le (by omega)] at ih
      have := ih h
      omega
theorem elOk_parts {p : ByteArray × Int} (h : elOk p = true) : 1 ≤ p.2 ∧ p.2 ≤ 600 ∧ colOk p.1 = true := by
  unfold elOk at h
  rw [Bool.and_eq_true, inB_iff] at h
  exact ⟨h.1.1, h.1.2, h.2⟩
theorem elOk_n {p : ByteArray × Int} (h : inB p.2 1 600 = false) : elOk p = false := by unfold elOk; rw [h]; rfl
theorem elOk_c {p : ByteArray × Int} (h : inB p.2 1 600 = true) : elOk p = colOk p.1 := by unfold elOk; rw [h]; rfl
theorem colOk_e {s : ByteArray} (h : s = ByteArray.empty) : colOk s = true := by unfold colOk; rw [decide_eq_true h]; rfl
theorem colOk_c {s : ByteArray} (h : s ≠ ByteArray.empty) : colOk s = colB s := by unfold colOk; rw [decide_eq_false h]; rfl
theorem okPh_a {ps : List (ByteArray × Int)} (h : ps.all elOk = false) : okPh ps = false := by unfold okPh; rw [h]; rfl
theorem okPh_b {ps : List (ByteArray × Int)} (h : ¬ (1 ≤ ps.length ∧ ps.length ≤ 40)) : okPh ps = false := by unfold okPh; rw [decide_eq_false h]; simp
theorem okPh_c {ps : List (ByteArray × Int)} (h : ps.all elOk = true) (h1 : 1 ≤ ps.length) (h2 : ps.length ≤ 40) : okPh ps = decide (sm ps ≤ 600) := by
  unfold okPh; rw [h, decide_eq_true (⟨h1, h2⟩ : 1 ≤ ps.length ∧ ps.length ≤ 40)]; simp
theorem okPh_parts {ps : List (ByteArray × Int)} (h : okPh ps = true) : ps.all elOk = true ∧ 1 ≤ ps.length ∧ ps.length ≤ 40 ∧ sm ps ≤ 600 := by
  unfold okPh at h
  rw [Bool.and_eq_true, Bool.and_eq_true, decide_eq_true_iff, decide_eq_true_iff] at h
  exact ⟨h.1, h.2.1.1, h.2.1.2, h.2.2⟩
theorem one_byte {s : ByteArray} (h : s.size = 1) : ∃ c : UInt8, s = ⟨#[c]⟩ := by
  cases s with
  | mk d => cases d with
    | mk l =>
      match l, h with
      | [c], _ => exact ⟨c, rfl⟩
theorem colB_size {s : ByteArray} (h : s.size ≠ 1) : colB s = false := by
  refine decide_eq_false fun c => h ?_
  rcases c with rfl | rfl | rfl | rfl <;> rfl
theorem mk1_inj {a b : UInt8} (h : (⟨#[a]⟩ : ByteArray) = ⟨#[b]⟩) : a = b := by injection h with h; simpa using h
theorem colB_one (c : UInt8) : colB ⟨#[c]⟩ = decide (c = 87 ∨ c = 82 ∨ c = 71 ∨ c = 89) := by
  unfold colB
  rw [decide_eq_decide]
  constructor
  · rintro (h | h | h | h)
    · exact .inl (mk1_inj h)
    · exact .inr (.inl (mk1_inj h))
    · exact .inr (.inr (.inl (mk1_inj h)))
    · exact .inr (.inr (.inr (mk1_inj h)))
  · rintro (rfl | rfl | rfl | rfl)
    · exact .inl rfl
    · exact .inr (.inl rfl)
    · exact .inr (.inr (.inl rfl))
    · exact .inr (.inr (.inr rfl))
end Go.Proofs.Ytklmoeolehdjeaa
