--%!
/- Plain laws on decimal digits. No program in sight. Own work. -/
import Derived.Test.YtklmoeolehdjeaaMath
import Derived.WalkKit
import Derived.Lib.ItoaNum
namespace Go.Proofs.Ytklmoeolehdjeaa
set_option linter.unusedVariables false

/-- the digits of a number, the last one first; none of 0 -/
def rd (u : Nat) : List UInt8 := if h : u = 0 then [] else UInt8.ofNat (48 + u % 10) :: rd (u / 10)
termination_by u
decreasing_by omega
theorem rd_zero : rd 0 = [] := by rw [rd]; simp
theorem rd_step {u : Nat} (h : u ≠ 0) : rd u = UInt8.ofNat (48 + u % 10) :: rd (u / 10) := by rw [rd]; simp [h]
theorem rd_rev {u : Nat} (h : u ≠ 0) : (rd u).reverse = Lib.decDigits u := by
  induction u using Nat.strongRecOn with
  | ind u ih =>
    rw [rd_step h, List.reverse_cons, Lib.decDigits]
    by_cases k : u < 10
    · rw [dif_pos k, show u / 10 = 0 by omega, rd_zero, show u % 10 = u by omega]; rfl
    · rw [dif_neg k, ih (u / 10) (by omega) (by omega)]
theorem rd_len (u : Nat) : (rd u).length ≤ u := by
  induction u using Nat.strongRecOn with
  | ind u ih =>
    by_cases h : u = 0
    · subst h; rw [rd_zero]; simp
    · rw [rd_step h, List.length_cons]
      have := ih (u / 10) (by omega)
      omega
/-- a number below ten to the k has at most k digits -/
theorem rd_len_pow (k u : Nat) (h : u < 10 ^ k) : (rd u).length ≤ k := by
  induction k generalizing u with
  | zero =>
    have : u = 0 := by simpa using h
    subst this; rw [rd_zero]; simp
  | succ k ih =>
    by_cases h0 : u = 0
    · subst h0; rw [rd_zero]; simp
    · rw [rd_step h0, List.length_cons]
      have := ih (u / 10) (by rw [Nat.pow_succ] at h; omega)
      omega
theorem natAbs_div (m : Int) : (m.tdiv 10).natAbs = m.natAbs / 10 := Int.natAbs_tdiv m 10
theorem natAbs_rem (m : Int) : (m.tmod 10).natAbs = m.natAbs % 10 := by
  rcases Int.le_total 0 m with h | h
  · rw [Int.tmod_eq_emod_of_nonneg h]; omega
  · have := Int.neg_tmod (-m) 10
    rw [Int.neg_neg] at this
    rw [this, Int.tmod_eq_emod_of_nonneg (by omega)]; omega
theorem rem_bd (m : Int) : -9 ≤ m.tmod 10 ∧ m.tmod 10 ≤ 9 := by have := natAbs_rem m; omega
theorem div_bd (m : Int) (h0 : -9223372036854775808 ≤ m) (h1 : m ≤ 9223372036854775807) : -922337203685477580 ≤ m.tdiv 10 ∧ m.tdiv 10 ≤ 922337203685477580 := by have := natAbs_div m; omega
theorem dig_nat (d : Nat) (h : d ≤ 9) : (UInt8.ofNat (48 + d)).toNat = 48 + d := by
  rw [UInt8.toNat_ofNat']; omega
end Go.Proofs.Ytklmoeolehdjeaa
