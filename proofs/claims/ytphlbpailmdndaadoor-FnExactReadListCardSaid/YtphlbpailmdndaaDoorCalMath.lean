--%!
/- Plain laws on the calendar of the years 2000 to 2273: leap years, days of months, the day's number of a date. No program in sight. -/
import Derived.Below
namespace Go.Proofs.YtphlbpailmdndaaDoor
set_option linter.unusedVariables false

/-- does a year have 366 days? -/
def leapB (y : Int) : Bool := decide ((y % 4 = 0 ∧ y % 100 ≠ 0) ∨ y % 400 = 0)
theorem leapB_true {y : Int} (h : (y % 4 = 0 ∧ y % 100 ≠ 0) ∨ y % 400 = 0) : leapB y = true := decide_eq_true h
theorem leapB_false {y : Int} (h : ¬ ((y % 4 = 0 ∧ y % 100 ≠ 0) ∨ y % 400 = 0)) : leapB y = false := decide_eq_false h
theorem leapB_iff (y : Int) : leapB y = true ↔ (y % 4 = 0 ∧ y % 100 ≠ 0) ∨ y % 400 = 0 := decide_eq_true_iff
def lp (y : Int) : Int := if (y % 4 = 0 ∧ y % 100 ≠ 0) ∨ y % 400 = 0 then 1 else 0
theorem lp_true {y : Int} (h : leapB y = true) : lp y = 1 := if_pos ((leapB_iff y).1 h)
theorem lp_false {y : Int} (h : leapB y = false) : lp y = 0 := if_neg (fun c => by rw [(leapB_iff y).2 c] at h; cases h)
theorem lp_bd (y : Int) : 0 ≤ lp y ∧ lp y ≤ 1 := by unfold lp; split <;> omega
/-- the days of a month -/
def dim (y m : Int) : Int := if m = 2 then 28 + lp y else if m = 4 ∨ m = 6 ∨ m = 9 ∨ m = 11 then 30 else 31
theorem dim_bd (y m : Int) : 28 ≤ dim y m ∧ dim y m ≤ 31 := by have := lp_bd y; unfold dim; split <;> (try split) <;> omega
/-- the first day of a year -/
def fd (y : Int) : Int := 365 * (y - 2000) + (y - 1) / 4 - (y - 1) / 100 + (y - 1) / 400 - 484
theorem fd_2000 : fd 2000 = 0 := by decide
theorem fd_succ (y : Int) : fd (y + 1) = fd y + 365 + lp y := by unfold fd lp; split <;> omega
theorem fd_lo (y : Int) (h : 2000 ≤ y) : 365 * (y - 2000) ≤ fd y ∧ fd y ≤ 366 * (y - 2000) := by unfold fd; omega
theorem fd_mono {a b : Int} (h : a ≤ b) : fd a ≤ fd b := by unfold fd; omega
theorem fd_year {y : Int} (h0 : 2000 ≤ y) (h : fd y ≤ 99999) : y ≤ 2273 := by unfold fd at h; omega
theorem fd_year' {y : Int} (h0 : 2000 ≤ y) (h : fd y ≤ 102000) : y ≤ 2279 := by unfold fd at h; omega
/-- the days of a year ahead of a month -/
def cum (y m : Int) : Int :=
  if m ≤ 1 then 0 else if m = 2 then 31 else (if m = 3 then 59 else if m = 4 then 90 else if m = 5 then 120 else if m = 6 then 151 else if m = 7 then 181 else if m = 8 then 212 else if m = 9 then 243 else
    if m = 10 then 273 else if m = 11 then 304 else if m = 12 then 334 else 365) + lp y
theorem cum_1 (y : Int) : cum y 1 = 0 := rfl
theorem cum_13 (y : Int) : cum y 13 = 365 + lp y := rfl
theorem cum_succ (y m : Int) (h1 : 1 ≤ m) (h2 : m ≤ 12) : cum y (m + 1) = cum y m + dim y m := by
  rcases (by omega : m = 1 ∨ m = 2 ∨ m = 3 ∨ m = 4 ∨ m = 5 ∨ m = 6 ∨ m = 7 ∨ m = 8 ∨ m = 9 ∨ m = 10 ∨ m = 11 ∨ m = 12) with rfl | rfl | rfl | rfl | rfl | rfl | rfl | rfl | rfl | rfl | rfl | rfl <;> simp [cum, dim] <;> omega
theorem cum_bd (y m : Int) (h1 : 1 ≤ m) (h2 : m ≤ 13) : 0 ≤ cum y m ∧ cum y m ≤ 366 := by
  have := lp_bd y
  rcases (by omega : m = 1 ∨ m = 2 ∨ m = 3 ∨ m = 4 ∨ m = 5 ∨ m = 6 ∨ m = 7 ∨ m = 8 ∨ m = 9 ∨ m = 10 ∨ m = 11 ∨ m = 12 ∨ m = 13) with rfl | rfl | rfl | rfl | rfl | rfl | rfl | rfl | rfl | rfl | rfl | rfl | rfl <;> simp [cum] <;> omega
theorem cum_lt (y a b : Int) (h1 : 1 ≤ a) (h : a < b) (h2 : b ≤ 13) : cum y a + dim y a ≤ cum y b := by
  rw [← cum_succ y a h1 (by omega)]
  have key : ∀ k : Nat, ∀ m : Int, 1 ≤ m → m + k ≤ 13 → cum y m ≤ cum y (m + k) := by
    intro k
    induction k with
    | zero => intro m _ _; simp
    | succ k ih =>
      intro m h1 h2
      have h3 := ih m h1 (by omega)
      have h4 := cum_succ y (m + k) (by omega) (by omega)
      have h5 := dim_bd y (m + k)
      rw [show m + ((k + 1 : Nat) : Int) = m + (k : Int) + 1 by omega, h4]; omega
  have h3 := key (b - (a + 1)).toNat (a + 1) (by omega) (by omega)
  rw [show a + 1 + ((b - (a + 1)).toNat : Int) = b by omega] at h3
  exact h3
/-- the number of a date -/
def num (y m d : Int) : Int := fd y + cum y m + (d - 1)
/-- y, m, d are the date of a day -/
def IsDate (n y m d : Int) : Prop := 2000 ≤ y ∧ y ≤ 2273 ∧ 1 ≤ m ∧ m ≤ 12 ∧ 1 ≤ d ∧ d ≤ dim y m ∧ num y m d = n

theorem num_year {y m d : Int} (h1 : 1 ≤ m) (h2 : m ≤ 12) (h3 : 1 ≤ d) (h4 : d ≤ dim y m) : fd y ≤ num y m d ∧ num y m d < fd (y + 1) := by
  have a := cum_bd y m h1 (by omega)
  have b := cum_lt y m 13 h1 (by omega) (by omega)
  have c := fd_succ y
  rw [cum_13] at b
  unfold num; omega
theorem isDate_unique {n y m d y' m' d' : Int} (h : IsDate n y m d) (k : IsDate n y' m' d') : y = y' ∧ m = m' ∧ d = d' := by
  obtain ⟨_, _, h1, h2, h3, h4, h5⟩ := h
  obtain ⟨_, _, k1, k2, k3, k4, k5⟩ := k
  have a := num_year h1 h2 h3 h4
  have b := num_year k1 k2 k3 k4
  obtain rfl : y = y' := by
    by_cases c : y < y'
    · have := fd_mono (show y + 1 ≤ y' by omega); omega
    · by_cases c' : y' < y
      · have := fd_mono (show y' + 1 ≤ y by omega); omega
      · omega
  obtain rfl : m = m' := by
    unfold num at h5 k5
    by_cases c : m < m'
    · have := cum_lt y m m' h1 c (by omega); omega
    · by_cases c' : m' < m
      · have := cum_lt y m' m k1 c' (by omega); omega
      · omega
  unfold num at h5 k5
  exact ⟨rfl, rfl, by omega⟩
theorem num_bd {y m d : Int} (h1 : 2000 ≤ y) (h2 : y ≤ 2273) (h3 : 1 ≤ m) (h4 : m ≤ 12) (h5 : 1 ≤ d) (h6 : d ≤ dim y m) : 0 ≤ num y m d ∧ num y m d ≤ 200000 := by
  have a := num_year h3 h4 h5 h6
  have b := fd_lo y h1
  have c := fd_lo (y + 1) (by omega)
  omega
end Go.Proofs.YtphlbpailmdndaaDoor
