/- The sun, in numbers. Own work. -/
import Derived.Test.YtnpoemhpfaiooaaCalMath
import Derived.Test.YtnpoemhpfaiooaaTrigMath
import Derived.Test.YtnpoemhpfaiooaaMath
namespace Go.Proofs.Ytnpoemhpfaiooaa
set_option linter.unusedVariables false
set_option maxRecDepth 100000

theorem dr_mono {a a' b : Int} (hb : 0 < b) (h : a ≤ a') : dr a b ≤ dr a' b := by
  have e : ∀ x, dr x b = drp x b := fun x => if_neg (by omega)
  rw [e, e]
  unfold drp
  by_cases h1 : a < 0
  · rw [if_pos h1]
    have p1 : 0 ≤ (b - 2 * a) / (2 * b) := Int.ediv_nonneg (by omega) (by omega)
    by_cases h2 : a' < 0
    · rw [if_pos h2]
      have := Int.ediv_le_ediv (show 0 < 2 * b by omega) (show b - 2 * a' ≤ b - 2 * a by omega)
      omega
    · rw [if_neg h2]
      have p2 : 0 ≤ (2 * a' + b) / (2 * b) := Int.ediv_nonneg (by omega) (by omega)
      omega
  · rw [if_neg h1, if_neg (show ¬ a' < 0 by omega)]
    exact Int.ediv_le_ediv (by omega) (by omega)
open Classical in
noncomputable def doy (n : Int) : Int := if h : ∃ y, ∃ m d, IsDate n y m d then n - fd (Classical.choose h) + 1 else 0
theorem doy_of {n y m d : Int} (h : IsDate n y m d) : n - fd y + 1 = doy n := by
  unfold doy
  have e : ∃ y, ∃ m d, IsDate n y m d := ⟨y, m, d, h⟩
  rw [dif_pos e]
  obtain ⟨m', d', h'⟩ := Classical.choose_spec e
  rw [(isDate_unique h h').1]
theorem doy_bd (n : Int) (h0 : 0 ≤ n) (h1 : n ≤ 99999) : -100000 ≤ doy n ∧ doy n ≤ 100000 := by
  unfold doy
  split
  · rename_i h
    obtain ⟨m', d', h'⟩ := Classical.choose_spec h
    have := fd_lo _ h'.1
    have := h'.2.1
    omega
  · omega
noncomputable def decl (n : Int) : Int := -dr (234 * cosine (dr (360 * (doy n + 10)) 365)) 1000000
theorem decl_parts (n : Int) (h0 : 0 ≤ n) (h1 : n ≤ 99999) : (-100000 ≤ doy n ∧ doy n ≤ 100000) ∧ (-36003600 ≤ dr (360 * (doy n + 10)) 365 ∧ dr (360 * (doy n + 10)) 365 ≤ 36003600) ∧
    (-1000000 ≤ cosine (dr (360 * (doy n + 10)) 365) ∧ cosine (dr (360 * (doy n + 10)) 365) ≤ 1000000) ∧
    -234 ≤ dr (234 * cosine (dr (360 * (doy n + 10)) 365)) 1000000 ∧ dr (234 * cosine (dr (360 * (doy n + 10)) 365)) 1000000 ≤ 234 := by
  have h := doy_bd n h0 h1
  have c := cosine_bd (dr (360 * (doy n + 10)) 365)
  exact ⟨h, dr_bd _ _ _ (by decide) (by omega) (by omega), c, dr_bd _ _ _ (by decide) (by omega) (by omega)⟩
theorem decl_bd (n : Int) (h0 : 0 ≤ n) (h1 : n ≤ 99999) : -234 ≤ decl n ∧ decl n ≤ 234 := by
  have := (decl_parts n h0 h1).2.2.2
  unfold decl; omega

end Go.Proofs.Ytnpoemhpfaiooaa
