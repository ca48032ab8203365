--%!
/- Plain laws on the least time after which a list repeats: it divides the list's length. No program in sight. Own work. -/
import Derived.Test.YtklmoeolehdjeaaMath
import Derived.WalkKit
namespace Go.Proofs.Ytklmoeolehdjeaa
set_option linter.unusedVariables false

/-- the list turned by n is the list -/
def Rep (l : List UInt8) (n : Nat) : Prop := ∀ t, t < l.length → l.getD t 0 = l.getD ((t + n) % l.length) 0
noncomputable def repB (l : List UInt8) (n : Nat) : Bool := @decide (Rep l n) (Classical.propDecidable _)
theorem repB_t {l : List UInt8} {n : Nat} (h : Rep l n) : repB l n = true := @decide_eq_true _ (Classical.propDecidable _) h
theorem repB_f {l : List UInt8} {n : Nat} (h : ¬ Rep l n) : repB l n = false := @decide_eq_false _ (Classical.propDecidable _) h
theorem rep_of {l : List UInt8} {n : Nat} (h : repB l n = true) : Rep l n := @of_decide_eq_true _ (Classical.propDecidable _) h
theorem not_rep {l : List UInt8} {n : Nat} (h : repB l n = false) : ¬ Rep l n := fun k => by rw [repB_t k] at h; cases h
theorem repB_no {l : List UInt8} {n t : Nat} (h : t < l.length) (e : l.getD t 0 ≠ l.getD ((t + n) % l.length) 0) : repB l n = false := repB_f fun k => e (k t h)
theorem rep_full (l : List UInt8) : Rep l l.length := fun t h => by rw [Nat.add_mod_right, Nat.mod_eq_of_lt h]
theorem rep_shift {l : List UInt8} {n : Nat} (h : Rep l n) (hl : 1 ≤ l.length) (i : Nat) : l.getD (i % l.length) 0 = l.getD ((i + n) % l.length) 0 := by
  rw [h (i % l.length) (Nat.mod_lt _ hl), Nat.mod_add_mod]
theorem rep_mul {l : List UInt8} {n : Nat} (h : Rep l n) (hl : 1 ≤ l.length) (i m : Nat) : l.getD (i % l.length) 0 = l.getD ((i + n * m) % l.length) 0 := by
  induction m with
  | zero => rw [Nat.mul_zero, Nat.add_zero]
  | succ m ih => rw [ih, rep_shift h hl (i + n * m), Nat.mul_succ, Nat.add_assoc]
theorem least_ex (P : Nat → Prop) (n : Nat) (h : P n) : ∃ m, m ≤ n ∧ P m ∧ ∀ k, k < m → ¬ P k := by
  induction n using Nat.strongRecOn with
  | ind n ih =>
    by_cases hk : ∃ k, k < n ∧ P k
    · obtain ⟨k, hk, hp⟩ := hk
      obtain ⟨m, h1, h2, h3⟩ := ih k hk hp
      exact ⟨m, by omega, h2, h3⟩
    · exact ⟨n, Nat.le_refl _, h, fun k hkn hp => hk ⟨k, hkn, hp⟩⟩
structure IsPer (l : List UInt8) (p : Nat) : Prop where
  pos : 1 ≤ p
  le : p ≤ l.length
  rep : Rep l p
  least : ∀ m, 1 ≤ m → m < p → ¬ Rep l m
theorem isPer_ex {l : List UInt8} (h : 1 ≤ l.length) : ∃ p, IsPer l p := by
  obtain ⟨m, h1, ⟨h2, h3⟩, h4⟩ := least_ex (fun n => 1 ≤ n ∧ Rep l n) l.length ⟨h, rep_full l⟩
  exact ⟨m, h2, h1, h3, fun k k1 k2 k3 => h4 k k2 ⟨k1, k3⟩⟩
noncomputable def per (l : List UInt8) : Nat := open Classical in if h : ∃ p, IsPer l p then Classical.choose h else 0
theorem per_spec {l : List UInt8} (h : 1 ≤ l.length) : IsPer l (per l) := by
  have e := isPer_ex h
  unfold per
  rw [dif_pos e]
  exact Classical.choose_spec e
theorem IsPer.dvd {l : List UInt8} {p : Nat} (h : IsPer l p) : l.length % p = 0 := by
  have hl : 1 ≤ l.length := Nat.le_trans h.pos h.le
  by_cases h0 : l.length % p = 0
  · exact h0
  · exfalso
    refine h.least (l.length % p) (by omega) (Nat.mod_lt _ h.pos) fun t ht => ?_
    have e1 := rep_mul h.rep hl (t + l.length % p) (l.length / p)
    rw [Nat.add_assoc, Nat.mod_add_div, Nat.add_mod_right, Nat.mod_eq_of_lt ht] at e1
    exact e1.symm
/-- a list is the same a step further on, inside -/
def Sh (l : List UInt8) (n q : Nat) : Prop := ∀ t, t < q → t + n < l.length → l.getD t 0 = l.getD (t + n) 0
theorem sh_zero (l : List UInt8) (n : Nat) : Sh l n 0 := fun t h => absurd h (by omega)
theorem sh_succ {l : List UInt8} {n q : Nat} (h : Sh l n q) (e : l.getD q 0 = l.getD (q + n) 0) : Sh l n (q + 1) := fun t ht hn => by
  by_cases k : t = q
  · subst k; exact e
  · exact h t (by omega) hn
theorem sh_mul {l : List UInt8} {n q : Nat} (h : Sh l n q) (hq : l.length ≤ q + n) (r m : Nat) (hr : r + n * m < l.length) : l.getD r 0 = l.getD (r + n * m) 0 := by
  induction m with
  | zero => rw [Nat.mul_zero, Nat.add_zero]
  | succ m ih =>
    rw [Nat.mul_succ, ← Nat.add_assoc] at hr ⊢
    rw [ih (by omega), h (r + n * m) (by omega) hr]
theorem rep_of_sh {l : List UInt8} {n q : Nat} (h : Sh l n q) (hq : l.length ≤ q + n) (hn : 1 ≤ n) (hl : n ≤ l.length) (hd : l.length % n = 0) : Rep l n := by
  intro t ht
  by_cases k : t + n < l.length
  · rw [Nat.mod_eq_of_lt k]
    exact h t (by omega) k
  · have e : (t + n) % l.length = t + n - l.length := by
      rw [Nat.mod_eq_sub_mod (by omega), Nat.mod_eq_of_lt (by omega)]
    rw [e]
    have hm := Nat.mod_add_div l.length n
    rw [hd, Nat.zero_add] at hm
    have h1 : 1 ≤ l.length / n := Nat.div_pos hl hn
    have h2 : n * (l.length / n - 1) = l.length - n := by rw [Nat.mul_sub, Nat.mul_one, hm]
    have e2 : t + n - l.length + n * (l.length / n - 1) = t := by rw [h2]; omega
    have := sh_mul h hq (t + n - l.length) (l.length / n - 1) (by rw [e2]; exact ht)
    rw [e2] at this
    exact this.symm
theorem not_rep_of {l : List UInt8} {n t : Nat} (ht : t + n < l.length) (e : l.getD t 0 ≠ l.getD (t + n) 0) : ¬ Rep l n := fun h => e (by
  have := h t (by omega)
  rwa [Nat.mod_eq_of_lt ht] at this)
theorem IsPer.next {l : List UInt8} {p k : Nat} (h : IsPer l p) (hk : k ≤ p) (hn : ¬ Rep l k) : k + 1 ≤ p := by
  by_cases e : k = p
  · subst e; exact absurd h.rep hn
  · omega
theorem IsPer.next' {l : List UInt8} {p k : Nat} (h : IsPer l p) (hk : k ≤ p) (hn : l.length % k ≠ 0) : k + 1 ≤ p := by
  by_cases e : k = p
  · subst e; exact absurd h.dvd hn
  · omega
theorem IsPer.found {l : List UInt8} {p k : Nat} (h : IsPer l p) (hk : k ≤ p) (h1 : 1 ≤ k) (hn : Rep l k) : p = k := by
  by_cases e : k = p
  · exact e.symm
  · exact absurd hn (h.least k h1 (by omega))
end Go.Proofs.Ytklmoeolehdjeaa
