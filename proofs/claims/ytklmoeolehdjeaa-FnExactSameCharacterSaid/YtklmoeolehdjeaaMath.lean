--%!
/- Plain laws on integers: remainders, the nearest quotient, square roots rounded down. No program in sight. -/
import Derived.Below
namespace Go.Proofs.Ytklmoeolehdjeaa
set_option linter.unusedVariables false

theorem tmod_cases (a m : Int) (hm : 0 < m) : a.tmod m = a % m ∨ a.tmod m = a % m - m := by
  rw [Int.tmod_eq_emod]
  split
  · left; omega
  · right; omega
theorem tmod_bd (a m : Int) (hm : 0 < m) : -m < a.tmod m ∧ a.tmod m < m := by
  have h1 := Int.emod_nonneg a (show m ≠ 0 by omega)
  have h2 := Int.emod_lt_of_pos a hm
  refine ⟨?_, Int.tmod_lt_of_pos a hm⟩
  rw [Int.tmod_eq_emod]
  split
  · omega
  · rename_i h
    have h3 : a % m ≠ 0 := fun h0 => h (.inr (Int.dvd_of_emod_eq_zero h0))
    omega
theorem norm_mod (a m : Int) (hm : 0 < m) : (a.tmod m + m) % m = a % m := by
  rcases tmod_cases a m hm with h | h <;> rw [h]
  · rw [Int.add_emod_right, Int.emod_emod]
  · rw [Int.sub_add_cancel, Int.emod_emod]

/-! The nearest quotient, halves away from 0. -/
def drp (a b : Int) : Int := if a < 0 then -((b - 2 * a) / (2 * b)) else (2 * a + b) / (2 * b)
def dr (a b : Int) : Int := if b < 0 then drp (-a) (-b) else drp a b
/-- by quotient and rest, for a of at least 0 -/
def drq (a b : Int) : Int := if b - a % b ≤ a % b then a / b + 1 else a / b

theorem half_up (a b : Int) (ha : 0 ≤ a) (hb : 0 < b) : (2 * a + b) / (2 * b) = drq a b := by
  have h1 := Int.emod_nonneg a (show b ≠ 0 by omega)
  have h2 := Int.emod_lt_of_pos a hb
  have h3 := Int.mul_ediv_add_emod a b
  have e : 2 * a + b = (2 * (a % b) + b) + 2 * b * (a / b) := by
    have : 2 * b * (a / b) = 2 * (b * (a / b)) := by rw [Int.mul_assoc]
    omega
  rw [e, Int.add_mul_ediv_left _ _ (show 2 * b ≠ 0 by omega)]
  unfold drq
  split
  · rw [show 2 * (a % b) + b = (2 * (a % b) - b) + 2 * b * 1 by omega, Int.add_mul_ediv_left _ _ (show 2 * b ≠ 0 by omega), Int.ediv_eq_zero_of_lt (by omega) (by omega)]
    omega
  · rw [Int.ediv_eq_zero_of_lt (by omega) (by omega)]
    omega
theorem dr_pp (a b : Int) (ha : 0 ≤ a) (hb : 0 < b) : dr a b = drq a b := by
  unfold dr drp; rw [if_neg (by omega), if_neg (by omega)]; exact half_up a b ha hb
theorem dr_np (a b : Int) (ha : a < 0) (hb : 0 < b) : dr a b = -drq (-a) b := by
  unfold dr drp; rw [if_neg (by omega), if_pos ha, ← half_up (-a) b (by omega) hb, show b - 2 * a = 2 * -a + b by omega]
theorem dr_pn (a b : Int) (ha : 0 < a) (hb : b < 0) : dr a b = -drq a (-b) := by
  unfold dr drp; rw [if_pos hb, if_pos (by omega), ← half_up a (-b) (by omega) (by omega), show -b - 2 * -a = 2 * a + -b by omega]
theorem drq_zero (b : Int) (hb : 0 < b) : drq 0 b = 0 := by
  unfold drq; rw [Int.zero_emod, if_neg (by omega), Int.zero_ediv]
theorem dr_zn (b : Int) (hb : b < 0) : dr 0 b = drq 0 (-b) := by
  unfold dr drp; rw [if_pos hb, if_neg (by omega), ← half_up 0 (-b) (by omega) (by omega), show 2 * -(0 : Int) + -b = 2 * 0 + -b by omega]
theorem dr_zpn (a b : Int) (ha : 0 ≤ a) (hb : b < 0) : dr a b = -drq a (-b) := by
  by_cases h : a = 0
  · subst h; rw [dr_zn b hb, drq_zero _ (by omega)]; rfl
  · exact dr_pn a b (by omega) hb
theorem dr_nn (a b : Int) (ha : a < 0) (hb : b < 0) : dr a b = drq (-a) (-b) := by
  unfold dr drp; rw [if_pos hb, if_neg (by omega), ← half_up (-a) (-b) (by omega) (by omega)]
theorem drq_bd (a b : Int) (ha : 0 ≤ a) (hb : 0 < b) : 0 ≤ drq a b ∧ drq a b ≤ a + 1 := by
  have h1 : 0 ≤ a / b := Int.ediv_nonneg ha (by omega)
  have h2 : a / b ≤ a := Int.ediv_le_self b ha
  unfold drq; split <;> omega
theorem drq_le (a b c : Int) (ha : 0 ≤ a) (hb : 0 < b) (h : a ≤ c * b) : drq a b ≤ c := by
  rw [← half_up a b ha hb]
  have h1 : (2 * a + b) / (2 * b) < c + 1 := Int.ediv_lt_of_lt_mul (by omega) (by
    have : (c + 1) * (2 * b) = 2 * (c * b) + 2 * b := by rw [Int.add_mul, Int.one_mul, Int.mul_left_comm]
    omega)
  omega
/-- the nearest quotient lies between whole bounds that the quotient lies between -/
theorem dr_bd (a b c : Int) (hb : 0 < b) (h1 : -(c * b) ≤ a) (h2 : a ≤ c * b) : -c ≤ dr a b ∧ dr a b ≤ c := by
  by_cases ha : 0 ≤ a
  · have h := drq_le a b c ha hb h2
    have h0 := (drq_bd a b ha hb).1
    rw [dr_pp a b ha hb]; omega
  · have h := drq_le (-a) b c (by omega) hb (by omega)
    have h0 := (drq_bd (-a) b (by omega) hb).1
    rw [dr_np a b (by omega) hb]; omega
theorem dr_abs (a b : Int) (hb : 0 < b) : -(a.natAbs : Int) ≤ dr a b ∧ dr a b ≤ (a.natAbs : Int) := by
  have h : (a.natAbs : Int) ≤ (a.natAbs : Int) * b := by
    have := Int.mul_le_mul_of_nonneg_left (show (1 : Int) ≤ b by omega) (show (0 : Int) ≤ (a.natAbs : Int) by omega)
    omega
  exact dr_bd a b a.natAbs hb (by omega) (by omega)

/-! The square root, rounded down: 0 for negative numbers. -/
def bis (n : Int) : Nat → Int → Int → Int
  | 0, lo, _ => lo
  | f + 1, lo, hi => if lo < hi then (if (lo + hi + 1) / 2 * ((lo + hi + 1) / 2) ≤ n then bis n f ((lo + hi + 1) / 2) hi else bis n f lo ((lo + hi + 1) / 2 - 1)) else lo
def rt (n : Int) : Int := bis n 32 0 3037000499

theorem sq_lt {a b : Int} (ha : 0 ≤ a) (h : a < b) : a * a < b * b := by
  have h1 := Int.mul_le_mul_of_nonneg_left (show a ≤ b by omega) ha
  have h2 := Int.mul_lt_mul_of_pos_right h (show 0 < b by omega)
  omega
theorem sq_le {a b : Int} (ha : 0 ≤ a) (h : a ≤ b) : a * a ≤ b * b := by
  by_cases e : a = b
  · rw [e]; omega
  · have := sq_lt ha (show a < b by omega); omega
theorem bis_spec (n : Int) : ∀ (f : Nat) (lo hi : Int), 0 ≤ lo → lo ≤ hi → hi - lo < 2 ^ f → (0 < lo → lo * lo ≤ n) → n < (hi + 1) * (hi + 1) →
    0 ≤ bis n f lo hi ∧ (0 < bis n f lo hi → bis n f lo hi * bis n f lo hi ≤ n) ∧ n < (bis n f lo hi + 1) * (bis n f lo hi + 1) := by
  intro f
  induction f with
  | zero =>
    intro lo hi h0 h1 h2 h3 h4
    obtain rfl : lo = hi := by simp at h2; omega
    exact ⟨h0, h3, h4⟩
  | succ f ih =>
    intro lo hi h0 h1 h2 h3 h4
    have hp : (2 : Int) ^ (f + 1) = 2 * 2 ^ f := by rw [Int.pow_succ]; omega
    rw [hp] at h2
    unfold bis
    split
    · split
      · rename_i h5 h6
        exact ih _ _ (by omega) (by omega) (by omega) (fun _ => h6) h4
      · rename_i h5 h6
        refine ih _ _ h0 (by omega) (by omega) h3 ?_
        rw [show (lo + hi + 1) / 2 - 1 + 1 = (lo + hi + 1) / 2 by omega]
        omega
    · rename_i h5
      obtain rfl : lo = hi := by omega
      exact ⟨h0, h3, h4⟩
theorem rt_spec (n : Int) (hn : n ≤ 9223372036854775807) : 0 ≤ rt n ∧ (0 < rt n → rt n * rt n ≤ n) ∧ n < (rt n + 1) * (rt n + 1) :=
  bis_spec n 32 0 3037000499 (by decide) (by decide) (by decide) (fun h => absurd h (by decide)) (by omega)
theorem root_unique (n r s : Int) (h1 : 0 ≤ r) (h2 : 0 < r → r * r ≤ n) (h3 : n < (r + 1) * (r + 1)) (k1 : 0 ≤ s) (k2 : 0 < s → s * s ≤ n) (k3 : n < (s + 1) * (s + 1)) : r = s := by
  by_cases h : r < s
  · have := sq_le (show 0 ≤ r + 1 by omega) (show r + 1 ≤ s by omega)
    have := k2 (by omega)
    omega
  · by_cases h' : s < r
    · have := sq_le (show 0 ≤ s + 1 by omega) (show s + 1 ≤ r by omega)
      have := h2 (by omega)
      omega
    · omega
theorem rt_of (n r : Int) (hn : n ≤ 9223372036854775807) (h1 : 0 ≤ r) (h2 : 0 < r → r * r ≤ n) (h3 : n < (r + 1) * (r + 1)) : r = rt n :=
  root_unique n r (rt n) h1 h2 h3 (rt_spec n hn).1 (rt_spec n hn).2.1 (rt_spec n hn).2.2
theorem rt_neg (n : Int) (hn : n < 0) : rt n = 0 := by
  have h := rt_spec n (by omega)
  by_cases h0 : 0 < rt n
  · have := h.2.1 h0
    have := Int.mul_pos h0 h0
    omega
  · omega

/-- what a search for the root knows -/
def RootIn (n a b : Int) : Prop := (0 < a → a * a ≤ n) ∧ n < (b + 1) * (b + 1)
theorem rootIn_start {n : Int} (h : n ≤ 9223372036854775807) : RootIn n 0 3037000499 := ⟨fun h => absurd h (by decide), by omega⟩
theorem RootIn.up {n a b m : Int} (h : RootIn n a b) (hm : m * m ≤ n) : RootIn n m b := ⟨fun _ => hm, h.2⟩
theorem RootIn.down {n a b m : Int} (h : RootIn n a b) (hm : n < m * m) : RootIn n a (m - 1) := ⟨h.1, by rw [show m - 1 + 1 = m by omega]; exact hm⟩
theorem RootIn.done {n a : Int} (h : RootIn n a a) (hn : n ≤ 9223372036854775807) (ha : 0 ≤ a) : a = rt n := rt_of n a hn ha h.1 h.2
theorem mid_bd {a b : Int} (ha : 0 ≤ a) (h : a < b) (hb : b ≤ 3037000499) :
    a < (a + b + 1) / 2 ∧ (a + b + 1) / 2 ≤ b ∧ 0 ≤ (a + b + 1) / 2 * ((a + b + 1) / 2) ∧ (a + b + 1) / 2 * ((a + b + 1) / 2) ≤ 9223372030926249001 := by
  refine ⟨by omega, by omega, Int.mul_nonneg (by omega) (by omega), ?_⟩
  exact sq_le (a := (a + b + 1) / 2) (b := 3037000499) (by omega) (by omega)
theorem qr_bd (a b : Int) (ha : 0 ≤ a) (hb : 1 ≤ b) : 0 ≤ a / b ∧ a / b ≤ a ∧ 0 ≤ a % b ∧ a % b < b :=
  ⟨Int.ediv_nonneg ha (by omega), Int.ediv_le_self b ha, Int.emod_nonneg a (by omega), Int.emod_lt_of_pos a (by omega)⟩

theorem quot_bd (a b : Int) (ha : 0 ≤ a) (hb : 1 ≤ b) : 0 ≤ a / b ∧ a / b ≤ a := ⟨Int.ediv_nonneg ha (by omega), Int.ediv_le_self b ha⟩

/-! Ranges, points, names, check values. -/
/-- is a number in a range? -/
def inB (n lo hi : Int) : Bool := decide (lo ≤ n ∧ n ≤ hi)
theorem inB_iff (n lo hi : Int) : inB n lo hi = true ↔ lo ≤ n ∧ n ≤ hi := decide_eq_true_iff
theorem inB_true {n lo hi : Int} (h1 : lo ≤ n) (h2 : n ≤ hi) : inB n lo hi = true := (inB_iff n lo hi).2 ⟨h1, h2⟩
theorem inB_false {n lo hi : Int} (h : ¬ (lo ≤ n ∧ n ≤ hi)) : inB n lo hi = false := decide_eq_false h
theorem inB_no {n lo hi : Int} (h : inB n lo hi = false) : n < lo ∨ hi < n := by
  have := of_decide_eq_false h; omega
/-- is a point valid? -/
def okP (x y : Int) : Bool := inB x 0 200000 && inB y 0 200000
theorem okP_iff (x y : Int) : okP x y = true ↔ (0 ≤ x ∧ x ≤ 200000) ∧ 0 ≤ y ∧ y ≤ 200000 := by unfold okP; rw [Bool.and_eq_true, inB_iff, inB_iff]
theorem okP_bd {x y : Int} (h : okP x y = true) : 0 ≤ x ∧ x ≤ 200000 ∧ 0 ≤ y ∧ y ≤ 200000 := by have := (okP_iff x y).1 h; omega
theorem okP_true {x y : Int} (h1 : inB x 0 200000 = true) (h2 : inB y 0 200000 = true) : okP x y = true := by unfold okP; rw [h1, h2]; rfl
theorem okP_f1 {x y : Int} (h1 : inB x 0 200000 = false) : okP x y = false := by unfold okP; rw [h1]; rfl
theorem okP_f2 {x y : Int} (h1 : inB y 0 200000 = false) : okP x y = false := by unfold okP; rw [h1, Bool.and_false]

/-- a byte of a name at a place -/
def nameAt (k : Nat) (c : UInt8) : Prop := (97 ≤ c.toNat ∧ c.toNat ≤ 122) ∨ (k ≠ 0 ∧ 48 ≤ c.toNat ∧ c.toNat ≤ 57)
def nameTo (s : ByteArray) (n : Nat) : Prop := ∀ (k : Nat) (h : k < s.size), k < n → nameAt k s[k]
def NameOk (s : ByteArray) : Prop := s.size ≠ 0 ∧ s.size ≤ 10 ∧ nameTo s s.size
open Classical in
noncomputable def nameB (s : ByteArray) : Bool := decide (NameOk s)
theorem nameB_true {s : ByteArray} (h : NameOk s) : nameB s = true := @decide_eq_true _ (Classical.propDecidable _) h
theorem nameB_false {s : ByteArray} (h : ¬ NameOk s) : nameB s = false := @decide_eq_false _ (Classical.propDecidable _) h
theorem nameTo_zero (s : ByteArray) : nameTo s 0 := fun _ _ h => absurd h (by omega)
theorem nameTo_succ {s : ByteArray} {n : Nat} (h : nameTo s n) (hn : n < s.size) (hc : nameAt n s[n]) : nameTo s (n + 1) := fun k hk hkn => by
  by_cases e : k = n
  · subst e; exact hc
  · exact h k hk (by omega)
theorem not_name {s : ByteArray} {n : Nat} (hn : n < s.size) (hc : ¬ nameAt n s[n]) : nameB s = false := nameB_false fun h => hc (h.2.2 n hn hn)
theorem name_done {s : ByteArray} (h0 : s.size ≠ 0) (h1 : s.size ≤ 10) (h : nameTo s s.size) : nameB s = true := nameB_true ⟨h0, h1, h⟩
theorem name_long {s : ByteArray} (h : 10 < s.size) : nameB s = false := nameB_false fun k => by have := k.2.1; omega
theorem name_empty {s : ByteArray} (h : s.size = 0) : nameB s = false := nameB_false fun k => k.1 h

def smallB (c : UInt8) : Bool := decide (97 ≤ c.toNat ∧ c.toNat ≤ 122)
theorem smallB_iff {c : UInt8} : smallB c = true ↔ 97 ≤ c.toNat ∧ c.toNat ≤ 122 := decide_eq_true_iff
theorem smallB_true {c : UInt8} (h1 : 97 ≤ c.toNat) (h2 : c.toNat ≤ 122) : smallB c = true := smallB_iff.2 ⟨h1, h2⟩
theorem smallB_false {c : UInt8} (h : ¬ (97 ≤ c.toNat ∧ c.toNat ≤ 122)) : smallB c = false := decide_eq_false h
def digitB (c : UInt8) : Bool := decide (48 ≤ c.toNat ∧ c.toNat ≤ 57)
theorem digitB_iff {c : UInt8} : digitB c = true ↔ 48 ≤ c.toNat ∧ c.toNat ≤ 57 := decide_eq_true_iff
theorem digitB_true {c : UInt8} (h1 : 48 ≤ c.toNat) (h2 : c.toNat ≤ 57) : digitB c = true := digitB_iff.2 ⟨h1, h2⟩
theorem digitB_false {c : UInt8} (h : ¬ (48 ≤ c.toNat ∧ c.toNat ≤ 57)) : digitB c = false := decide_eq_false h

/-- one bit of the check value -/
def crcBit (n : Nat) : Nat := if 65535 < 2 * n then ((2 * n) &&& 65535) ^^^ 4129 else 2 * n
theorem crcBit_lt (n : Nat) : crcBit n < 65536 := by
  unfold crcBit; split
  · exact Nat.xor_lt_two_pow (n := 16) (Nat.and_lt_two_pow (n := 16) _ (by decide)) (by decide)
  · omega
def crcBits : Nat → Nat → Nat
  | 0, n => n
  | k + 1, n => crcBit (crcBits k n)
theorem crcBits_lt (k n : Nat) (h : n < 65536) : crcBits k n < 65536 := by cases k; exact h; exact crcBit_lt _
def crcByte (n : Nat) (c : UInt8) : Nat := crcBits 8 (n ^^^ (c.toNat * 256))
theorem crcMix_lt (n : Nat) (c : UInt8) (h : n < 65536) : n ^^^ (c.toNat * 256) < 65536 := by
  have := c.toNat_lt
  exact Nat.xor_lt_two_pow (n := 16) h (by omega)
theorem crcByte_lt (n : Nat) (c : UInt8) (h : n < 65536) : crcByte n c < 65536 := crcBits_lt 8 _ (crcMix_lt n c h)
def crcTo (s : ByteArray) : Nat → Nat → Nat
  | 0, n => n
  | k + 1, n => if h : k < s.size then crcByte (crcTo s k n) s[k] else crcTo s k n
theorem crcTo_lt (s : ByteArray) (k n : Nat) (h : n < 65536) : crcTo s k n < 65536 := by
  induction k with
  | zero => exact h
  | succ k ih => unfold crcTo; split; exact crcByte_lt _ _ ih; exact ih
theorem crcTo_succ (s : ByteArray) (k n : Nat) (h : k < s.size) : crcTo s (k + 1) n = crcByte (crcTo s k n) s[k] := dif_pos h

/-- the value of a line through two points -/
def lineOf (x0 y0 x1 y1 x : Int) : Int := if x ≤ x0 ∨ x1 ≤ x0 then y0 else if x1 ≤ x then y1 else y0 + dr ((y1 - y0) * (x - x0)) (x1 - x0)
def blendOf (x0 y0 x1 y1 x : Int) : Int := if inB x0 (-1000000) 1000000 = true ∧ inB y0 (-1000000) 1000000 = true ∧ inB x1 (-1000000) 1000000 = true ∧ inB y1 (-1000000) 1000000 = true then lineOf x0 y0 x1 y1 x else 0
theorem mul_bd {a b A B : Int} (ha : 0 ≤ A) (h1 : -A ≤ a) (h2 : a ≤ A) (h3 : 0 ≤ b) (h4 : b ≤ B) : -(A * B) ≤ a * b ∧ a * b ≤ A * B := by
  have e1 : a * b ≤ A * b := Int.mul_le_mul_of_nonneg_right h2 h3
  have e2 : A * b ≤ A * B := Int.mul_le_mul_of_nonneg_left h4 ha
  have e3 : -A * b ≤ a * b := Int.mul_le_mul_of_nonneg_right h1 h3
  rw [Int.neg_mul] at e3
  omega
/-- a product of two numbers within bounds -/
theorem mul_abs {a b A B : Int} (hA : 0 ≤ A) (hB : 0 ≤ B) (h1 : -A ≤ a) (h2 : a ≤ A) (h3 : -B ≤ b) (h4 : b ≤ B) : -(A * B) ≤ a * b ∧ a * b ≤ A * B := by
  by_cases h : 0 ≤ b
  · exact mul_bd hA h1 h2 h h4
  · have := mul_bd (a := a) (b := -b) hA h1 h2 (show 0 ≤ -b by omega) (show -b ≤ B by omega)
    rw [Int.mul_neg] at this
    omega

/-! Angles. -/
def turnOf (a b : Int) : Int := if 180 < (a - b) % 360 then 360 - (a - b) % 360 else (a - b) % 360
end Go.Proofs.Ytklmoeolehdjeaa
