--%!
/- Plain laws on integers: remainders, the nearest quotient, square roots rounded down. No program in sight. -/
import Derived.Below
namespace Go.Proofs.Ytgmkkmkmaamlnaa
set_option linter.unusedVariables false

theorem tmod_cases (a m : Int) (hm : 0 < m) : a.tmod m = a % m ∨ a.tmod m = a % m - m := by
  rw [Int.tmod_eq_emod]
  split
  · left; omega
  · right; omega
theorem tmod_bd (a m : Int) (hm : 0 < m) : -m < a.tmod m ∧ a.tmod m < m := by
  have h1 := Int.emod_nonneg a (show m ≠ 0 by omega)
  have h2 := Int.emod_lt_of_pos a hm
  refine ⟨?_, Int.tmod_lt_of_pos a hm⟩
  rw [Int.tmod_eq_emod]
  split
  · omega
  · rename_i h
    have h3 : a % m ≠ 0 := fun h0 => h (.inr (Int.dvd_of_emod_eq_zero h0))
    omega
theorem norm_mod (a m : Int) (hm : 0 < m) : (a.tmod m + m) % m = a % m := by
  rcases tmod_cases a m hm with h | h <;> rw [h]
  · rw [Int.add_emod_right, Int.emod_emod]
  · rw [Int.sub_add_cancel, Int.emod_emod]

/-! The nearest quotient, halves away from 0. -/
def drp (a b : Int) : Int := if a < 0 then -((b - 2 * a) / (2 * b)) else (2 * a + b) / (2 * b)
def dr (a b : Int) : Int := if b < 0 then drp (-a) (-b) else drp a b
/-- by quotient and rest, for a of at least 0 -/
def drq (a b : Int) : Int := if b - a % b ≤ a % b then a / b + 1 else a / b

theorem half_up (a b : Int) (ha : 0 ≤ a) (hb : 0 < b) : (2 * a + b) / (2 * b) = drq a b := by
  have h1 := Int.emod_nonneg a (show b ≠ 0 by omega)
  have h2 := Int.emod_lt_of_pos a hb
  have h3 := Int.mul_ediv_add_emod a b
  have e : 2 * a + b = (2 * (a % b) + b) + 2 * b * (a / b) := by
    have : 2 * b * (a / b) = 2 * (b * (a / b)) := by rw [Int.mul_assoc]
    omega
  rw [e, Int.add_mul_ediv_left _ _ (show 2 * b ≠ 0 by omega)]
  unfold drq
  split
  · rw [show 2 * (a % b) + b = (2 * (a % b) - b) + 2 * b * 1 by omega, Int.add_mul_ediv_left _ _ (show 2 * b ≠ 0 by omega), Int.ediv_eq_zero_of_lt (by omega) (by omega)]
    omega
  · rw [Int.ediv_eq_zero_of_lt (by omega) (by omega)]
    omega
theorem dr_pp (a b : Int) (ha : 0 ≤ a) (hb : 0 < b) : dr a b = drq a b := by
  unfold dr drp; rw [if_neg (by omega), if_neg (by omega)]; exact half_up a b ha hb
theorem dr_np (a b : Int) (ha : a < 0) (hb : 0 < b) : dr a b = -drq (-a) b := by
  unfold dr drp; rw [if_neg (by omega), if_pos ha, ← half_up (-a) b (by omega) hb, show b - 2 * a = 2 * -a + b by omega]
theorem dr_pn (a b : Int) (ha : 0 < a) (hb : b < 0) : dr a b = -drq a (-b) := by
  unfold dr drp; rw [if_pos hb, if_pos (by omega), ← half_up a (-b) (by omega) (by omega), show -b - 2 * -a = 2 * a + -b by omega]
theorem drq_zero (b : Int) (hb : 0 < b) : drq 0 b = 0 := by
  unfold drq; rw [Int.zero_emod, if_neg (by omega), Int.zero_ediv]
theorem dr_zn (b : Int) (hb : b < 0) : dr 0 b = drq 0 (-b) := by
  unfold dr drp; rw [if_pos hb, if_neg (by omega), ← half_up 0 (-b) (by omega) (by omega), show 2 * -(0 : Int) + -b = 2 * 0 + -b by omega]
theorem dr_zpn (a b : Int) (ha : 0 ≤ a) (hb : b < 0) : dr a b = -drq a (-b) := by
  by_cases h : a = 0
  · subst h; rw [dr_zn b hb, drq_zero _ (by omega)]; rfl
  · exact dr_pn a b (by omega) hb
theorem dr_nn (a b : Int) (ha : a < 0) (hb : b < 0) : dr a b = drq (-a) (-b) := by
  unfold dr drp; rw [if_pos hb, if_neg (by omega), ← half_up (-a) (-b) (by omega) (by omega)]
theorem drq_bd (a b : Int) (ha : 0 ≤ a) (hb : 0 < b) : 0 ≤ drq a b ∧ drq a b ≤ a + 1 := by
  have h1 : 0 ≤ a / b := Int.ediv_nonneg ha (by omega)
  have h2 : a / b ≤ a := Int.ediv_le_self b ha
  unfold drq; split <;> omega
theorem drq_le (a b c : Int) (ha : 0 ≤ a) (hb : 0 < b) (h : a ≤ c * b) : drq a b ≤ c := by
  rw [← half_up a b ha hb]
  have h1 : (2 * a + b) / (2 * b) < c + 1 := Int.ediv_lt_of_lt_mul (by omega) (by
    have : (c + 1) * (2 * b) = 2 * (c * b) + 2 * b := by rw [Int.add_mul, Int.one_mul, Int.mul_left_comm]
    omega)
  omega
/-- the nearest quotient lies between whole bounds that the quotient lies between -/
theorem dr_bd (a b c : Int) (hb : 0 < b) (h1 : -(c * b) ≤ a) (h2 : a ≤ c * b) : -c ≤ dr a b ∧ dr a b ≤ c := by
  by_cases ha : 0 ≤ a
  · have h := drq_le a b c ha hb h2
    have h0 := (drq_bd a b ha hb).1
    rw [dr_pp a b ha hb]; omega
  · have h := drq_le (-a) b c (by omega) hb (by omega)
    have h0 := (drq_bd (-a) b (by omega) hb).1
    rw [dr_np a b (by omega) hb]; omega
theorem dr_abs (a b : Int) (hb : 0 < b) : -(a.natAbs : Int) ≤ dr a b ∧ dr a b ≤ (a.natAbs : Int) := by
  have h : (a.natAbs : Int) ≤ (a.natAbs : Int) * b := by
    have := Int.mul_le_mul_of_nonneg_left (show (1 : Int) ≤ b by omega) (show (0 : Int) ≤ (a.natAbs : Int) by omega)
    omega
  exact dr_bd a b a.natAbs hb (by omega) (by omega)

/-! The square root, rounded down: 0 for negative numbers. -/
def bis (n : Int) : Nat → Int → Int → Int
  | 0, lo, _ => lo
  | f + 1, lo, hi => if lo < hi then (if (lo + hi + 1) / 2 * ((lo + hi + 1) / 2) ≤ n then bis n f ((lo + hi + 1) / 2) hi else bis n f lo ((lo + hi + 1) / 2 - 1)) else lo
def rt (n : Int) : Int := bis n 32 0 3037000499

theorem sq_lt {a b : Int} (ha : 0 ≤ a) (h : a < b) : a * a < b * b := by
  have h1 := Int.mul_le_mul_of_nonneg_left (show a ≤ b by omega) ha
  have h2 := Int.mul_lt_mul_of_pos_right h (show 0 < b by omega)
  omega
theorem sq_le {a b : Int} (ha : 0 ≤ a) (h : a ≤ b) : a * a ≤ b * b := by
  by_cases e : a = b
  · rw [e]; omega
  · have := sq_lt ha (show a < b by omega); omega
theorem bis_spec (n : Int) : ∀ (f : Nat) (lo hi : Int), 0 ≤ lo → lo ≤ hi → hi - lo < 2 ^ f → (0 < lo → lo * lo ≤ n) → n < (hi + 1) * (hi + 1) →
    0 ≤ bis n f lo hi ∧ (0 < bis n f lo hi → bis n f lo hi * bis n f lo hi ≤ n) ∧ n < (bis n f lo hi + 1) * (bis n f lo hi + 1) := by
  intro f
  induction f with
  | zero =>
    intro lo hi h0 h1 h2 h3 h4
    obtain rfl : lo = hi := by simp at h2; omega
    exact ⟨h0, h3, h4⟩
  | succ f ih =>
    intro lo hi h0 h1 h2 h3 h4
    have hp : (2 : Int) ^ (f + 1) = 2 * 2 ^ f := by rw [Int.pow_succ]; omega
    rw [hp] at h2
    unfold bis
    split
    · split
      · rename_i h5 h6
        exact ih _ _ (by omega) (by omega) (by omega) (fun _ => h6) h4
      · rename_i h5 h6
        refine ih _ _ h0 (by omega) (by omega) h3 ?_
        rw [show (lo + hi + 1) / 2 - 1 + 1 = (lo + hi + 1) / 2 by omega]
        omega
    · rename_i h5
      obtain rfl : lo = hi := by omega
      exact ⟨h0, h3, h4⟩
theorem rt_spec (n : Int) (hn : n ≤ 9223372036854775807) : 0 ≤ rt n ∧ (0 < rt n → rt n * rt n ≤ n) ∧ n < (rt n + 1) * (rt n + 1) :=
  bis_spec n 32 0 3037000499 (by decide) (by decide) (by decide) (fun h => absurd h (by decide)) (by omega)
theorem root_unique (n r s : Int) (h1 : 0 ≤ r) (h2 : 0 < r → r * r ≤ n) (h3 : n < (r + 1) * (r + 1)) (k1 : 0 ≤ s) (k2 : 0 < s → s * s ≤ n) (k3 : n < (s + 1) * (s + 1)) : r = s := by
  by_cases h : r < s
  · have := sq_le (show 0 ≤ r + 1 by omega) (show r + 1 ≤ s by omega)
    have := k2 (by omega)
    omega
  · by_cases h' : s < r
    · have := sq_le (show 0 ≤ s + 1 by omega) (show s + 1 ≤ r by omega)
      have := h2 (by omega)
      omega
    · omega
theorem rt_of (n r : Int) (hn : n ≤ 9223372036854775807) (h1 : 0 ≤ r) (h2 : 0 < r → r * r ≤ n) (h3 : n < (r + 1) * (r + 1)) : r = rt n :=
  root_unique n r (rt n) h1 h2 h3 (rt_spec n hn).1 (rt_spec n hn).2.1 (rt_spec n hn).2.2
theorem rt_neg (n : Int) (hn : n < 0) : rt n = 0 := by
  have h := rt_spec n (by omega)
  by_cases h0 : 0 < rt n
  · have := h.2.1 h0
    have := Int.mul_pos h0 h0
    omega
  · omega

/-- what a search for the root knows -/
def RootIn (n a b : Int) : Prop := (0 < a → a * a ≤ n) ∧ n < (b + 1) * (b + 1)
theorem rootIn_start {n : Int} (h : n ≤ 9223372036854775807) : RootIn n 0 3037000499 := ⟨fun h => absurd h (by decide), by omega⟩
theorem RootIn.up {n a b m : Int} (h : RootIn n a b) (hm : m * m ≤ n) : RootIn n m b := ⟨fun _ => hm, h.2⟩
theorem RootIn.down {n a b m : Int} (h : RootIn n a b) (hm : n < m * m) : RootIn n a (m - 1) := ⟨h.1, by rw [show m - 1 + 1 = m by omega]; exact hm⟩
theorem RootIn.done {n a : Int} (h : RootIn n a a) (hn : n ≤ 9223372036854775807) (ha : 0 ≤ a) : a = rt n := rt_of n a hn ha h.1 h.2
theorem mid_bd {a b : Int} (ha : 0 ≤ a) (h : a < b) (hb : b ≤ 3037000499) :
    a < (a + b + 1) / 2 ∧ (a + b + 1) / 2 ≤ b ∧ 0 ≤ (a + b + 1) / 2 * ((a + b + 1) / 2) ∧ (a + b + 1) / 2 * ((a + b + 1) / 2) ≤ 9223372030926249001 := by
  refine ⟨by omega, by omega, Int.mul_nonneg (by omega) (by omega), ?_⟩
  exact sq_le (a := (a + b + 1) / 2) (b := 3037000499) (by omega) (by omega)
theorem qr_bd (a b : Int) (ha : 0 ≤ a) (hb : 1 ≤ b) : 0 ≤ a / b ∧ a / b ≤ a ∧ 0 ≤ a % b ∧ a % b < b :=
  ⟨Int.ediv_nonneg ha (by omega), Int.ediv_le_self b ha, Int.emod_nonneg a (by omega), Int.emod_lt_of_pos a (by omega)⟩

theorem quot_bd (a b : Int) (ha : 0 ≤ a) (hb : 1 ≤ b) : 0 ≤ a / b ∧ a / b ≤ a := ⟨Int.ediv_nonneg ha (by omega), Int.ediv_le_self b ha⟩

/-! Angles. -/
def turnOf (a b : Int) : Int := if 180 < (a - b) % 360 then 360 - (a - b) % 360 else (a - b) % 360
end Go.Proofs.Ytgmkkmkmaamlnaa
