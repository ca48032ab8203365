--%!
/- Contract: the reference's reading of a decimal number out of a text. Own work. -/
import Derived.Test.YtklmoeolehdjeaaNums
import Derived.Test.YtklmoeolehdjeaaNumMath
namespace Go.Proofs.Ytklmoeolehdjeaa
open Go.ChangeShapes Go.WideShapes Go.ChangeAt Go.RowKit
set_option linter.unusedVariables false
set_option maxRecDepth 100000
set_option maxHeartbeats 4000000

theorem retTwo {a b c d : Value} (h : a = c) (k : b = d) : Ending.returned (.tuple #[a, b]) = .returned (.tuple #[c, d]) := by rw [h, k]
theorem intEq {k : IntKind} {a b : Int} (h : a = b) : Value.int k a = .int k b := by rw [h]
theorem boolEq {a b : Bool} (h : a = b) : Value.bool a = .bool b := by rw [h]
theorem len_list (s : ByteArray) : s.data.toList.length = s.size := by rw [Array.length_toList]; rfl
theorem at_list (s : ByteArray) (k : Nat) (h : k < s.size) : s.data.toList[k]'(by rw [len_list]; exact h) = s[k] := rfl
/-- the value of a text's digits from a place on, up to another -/
def pre (l : List UInt8) (a k : Nat) : Nat := dv 0 ((l.take k).drop a)
theorem pre_step {l : List UInt8} {a k : Nat} (h : k < l.length) (ha : a ≤ k) : pre l a (k + 1) = 10 * pre l a k + (l[k].toNat - 48) := by
  unfold pre
  rw [List.take_succ_eq_append_getElem h, List.drop_append_of_le_length (by rw [List.length_take]; omega), dv_snoc]
theorem pre_start (l : List UInt8) (a : Nat) : pre l a a = 0 := by unfold pre; rw [List.drop_take]; simp [dv]
theorem pre_end (l : List UInt8) (a : Nat) : pre l a l.length = dv 0 (l.drop a) := by unfold pre; rw [List.take_length]
def digsTo (l : List UInt8) (a k : Nat) : Prop := ∀ t, a ≤ t → t < k → ∀ h : t < l.length, digB l[t] = true
theorem pre_bd {l : List UInt8} {a k : Nat} (h : digsTo l a k) (hk : k ≤ l.length) (ha : a ≤ k) (h18 : k - a ≤ 18) : pre l a k < 1000000000000000000 := by
  have e : ((l.take k).drop a).all digB = true := by
    refine List.all_eq_true.2 fun x hx => ?_
    obtain ⟨i, hi, rfl⟩ := List.getElem_of_mem hx
    rw [List.getElem_drop, List.getElem_take]
    rw [List.length_drop, List.length_take] at hi
    exact h (a + i) (by omega) (by omega) (by omega)
  have h := dv_lt e (show 0 < 10 ^ 0 by decide)
  rw [List.length_drop, List.length_take] at h
  have h2 : 10 ^ (0 + (min k l.length - a)) ≤ 10 ^ 18 := Nat.pow_le_pow_right (by decide) (by omega)
  exact Nat.lt_of_lt_of_le h (Nat.le_trans h2 (by decide))
theorem pre_bd17 {l : List UInt8} {a k : Nat} (h : digsTo l a k) (hk : k ≤ l.length) (ha : a ≤ k) (h17 : k - a ≤ 17) : pre l a k < 100000000000000000 := by
  have e : ((l.take k).drop a).all digB = true := by
    refine List.all_eq_true.2 fun x hx => ?_
    obtain ⟨i, hi, rfl⟩ := List.getElem_of_mem hx
    rw [List.getElem_drop, List.getElem_take]
    rw [List.length_drop, List.length_take] at hi
    exact h (a + i) (by omega) (by omega) (by omega)
  have h := dv_lt e (show 0 < 10 ^ 0 by decide)
  rw [List.length_drop, List.length_take] at h
  have h2 : 10 ^ (0 + (min k l.length - a)) ≤ 10 ^ 17 := Nat.pow_le_pow_right (by decide) (by omega)
  exact Nat.lt_of_lt_of_le h (Nat.le_trans h2 (by decide))
theorem digs_all {l : List UInt8} {a : Nat} (h : digsTo l a l.length) : (l.drop a).all digB = true := by
  refine List.all_eq_true.2 fun x hx => ?_
  obtain ⟨i, hi, rfl⟩ := List.getElem_of_mem hx
  rw [List.getElem_drop]
  rw [List.length_drop] at hi
  exact h (a + i) (by omega) (by omega) (by omega)
theorem digs_no {l : List UInt8} {a k : Nat} (ha : a ≤ k) (hk : k < l.length) (h : digB l[k] = false) : (l.drop a).all digB = false := by
  cases e : (l.drop a).all digB with
  | false => rfl
  | true =>
    have hm : l[k] ∈ l.drop a := by
      have : l[k] = (l.drop a)[k - a]'(by rw [List.length_drop]; omega) := by
        rw [List.getElem_drop]
        congr 1; omega
      rw [this]; exact List.getElem_mem _
    rw [List.all_eq_true.1 e _ hm] at h; cases h
theorem numB_digits {l : List UInt8} (h : (bodyOf l).all digB = false) : numB l = false := by unfold numB; rw [h, Bool.and_false]
theorem body_0 {l : List UInt8} (h : (hl : 0 < l.length) → l[0]'hl ≠ 45) : negB l = false ∧ bodyOf l = l.drop 0 := by
  have hn : negB l = false := by
    unfold negB
    refine decide_eq_false fun e => ?_
    cases l with
    | nil => cases e
    | cons c r => exact h (by simp) (by simpa using e)
  exact ⟨hn, by unfold bodyOf; rw [hn]; rfl⟩
theorem body_1 {l : List UInt8} (hl : 0 < l.length) (h : l[0] = 45) : negB l = true ∧ bodyOf l = l.drop 1 := by
  cases l with
  | nil => cases hl
  | cons c r =>
    have hn : negB (c :: r) = true := by
      unfold negB
      exact decide_eq_true (by simp only [List.getElem_cons_zero] at h; rw [h]; rfl)
    exact ⟨hn, by unfold bodyOf; rw [hn]; rfl⟩
end Go.Proofs.Ytklmoeolehdjeaa
