--%!
/- The walks of the law on the distance from a segment that the seat has: it returns true. -/
import Derived.Test.YtnmihmjgmanllaaPts
import Derived.Test.YtnmihmjgmanllaaPlaces
namespace Go.Proofs.Ytnmihmjgmanllaa
open Go.ChangeShapes Go.WideShapes Go.ChangeAt Go.RowKit
set_option linter.unusedVariables false
set_option maxRecDepth 100000
set_option maxHeartbeats 2000000

/-- the greatest r with r * r * L at most X -/
def IsSeg (X L r : Int) : Prop := 0 ≤ r ∧ r * r * L ≤ X ∧ X < (r + 1) * (r + 1) * L
theorem isSeg_unique {X L r s : Int} (hL : 0 ≤ L) (h : IsSeg X L r) (k : IsSeg X L s) : r = s := by
  obtain ⟨h1, h2, h3⟩ := h
  obtain ⟨k1, k2, k3⟩ := k
  by_cases c : r < s
  · have := Int.mul_le_mul_of_nonneg_right (sq_le (show 0 ≤ r + 1 by omega) (show r + 1 ≤ s by omega)) hL; omega
  · by_cases c' : s < r
    · have := Int.mul_le_mul_of_nonneg_right (sq_le (show 0 ≤ s + 1 by omega) (show s + 1 ≤ r by omega)) hL; omega
    · omega
open Classical in
noncomputable def segR (X L : Int) : Int := if h : ∃ r, IsSeg X L r then Classical.choose h else 0
theorem seg_of {X L r : Int} (hL : 0 ≤ L) (h : IsSeg X L r) : r = segR X L := by
  unfold segR
  rw [dif_pos ⟨r, h⟩]
  exact isSeg_unique hL h (Classical.choose_spec (⟨r, h⟩ : ∃ r, IsSeg X L r))
/-- what a search knows -/
def SegIn (X L a b : Int) : Prop := a * a * L ≤ X ∧ X < (b + 1) * (b + 1) * L
theorem SegIn.up {X L a b m : Int} (h : SegIn X L a b) (hm : m * m * L ≤ X) : SegIn X L m b := ⟨hm, h.2⟩
theorem SegIn.down {X L a b m : Int} (h : SegIn X L a b) (hm : X < m * m * L) : SegIn X L a (m - 1) := ⟨h.1, by rw [show m - 1 + 1 = m by omega]; exact hm⟩
theorem SegIn.done {X L a : Int} (h : SegIn X L a a) (hL : 0 ≤ L) (ha : 0 ≤ a) : a = segR X L := seg_of hL ⟨ha, h.1, h.2⟩
theorem segIn_start {X L K B : Int} (h0 : 0 ≤ X) (hX : X ≤ B * L) (hL : 1 ≤ L) (hB : B < (K + 1) * (K + 1)) : SegIn X L 0 K := by
  refine ⟨by simp; exact h0, ?_⟩
  have := Int.mul_lt_mul_of_pos_right hB (show 0 < L by omega)
  omega
theorem mid_seg {a b K : Int} (ha : 0 ≤ a) (h : a < b) (hb : b ≤ K) :
    a < (a + b + 1) / 2 ∧ (a + b + 1) / 2 ≤ b ∧ 0 ≤ (a + b + 1) / 2 * ((a + b + 1) / 2) ∧ (a + b + 1) / 2 * ((a + b + 1) / 2) ≤ K * K :=
  ⟨by omega, by omega, Int.mul_nonneg (by omega) (by omega), sq_le (by omega) (by omega)⟩
def leB (x y : Int) : Bool := decide (x ≤ y)
theorem leB_true {x y : Int} (h : x ≤ y) : leB x y = true := decide_eq_true h
theorem leB_false {x y : Int} (h : ¬ x ≤ y) : leB x y = false := decide_eq_false h

theorem prod20 (a b : Int) : a / 1048576 * b + a % 1048576 * b / 1048576 = a * b / 1048576 ∧ a % 1048576 * b % 1048576 = a * b % 1048576 := by
  have e : a * b = a % 1048576 * b + 1048576 * (a / 1048576 * b) := by
    have h : a = a % 1048576 + 1048576 * (a / 1048576) := by omega
    calc a * b = (a % 1048576 + 1048576 * (a / 1048576)) * b := by rw [← h]
      _ = _ := by rw [Int.add_mul, Int.mul_assoc]
  rw [e, Int.add_mul_ediv_left _ _ (by decide), Int.add_mul_emod_self_left]
  exact ⟨by omega, rfl⟩
theorem prodE (a b : Int) : a / 1000000 * (b / 1000000) + (((a / 1000000 * (b % 1000000) + a % 1000000 * (b / 1000000)) * 1000000 + a % 1000000 * (b % 1000000)) / 1000000000000) = a * b / 1000000000000 ∧
    ((a / 1000000 * (b % 1000000) + a % 1000000 * (b / 1000000)) * 1000000 + a % 1000000 * (b % 1000000)) % 1000000000000 = a * b % 1000000000000 := by
  have e : a * b = ((a / 1000000 * (b % 1000000) + a % 1000000 * (b / 1000000)) * 1000000 + a % 1000000 * (b % 1000000)) + 1000000000000 * (a / 1000000 * (b / 1000000)) := by
    obtain ⟨p, hp⟩ : ∃ p, a / 1000000 = p := ⟨_, rfl⟩
    obtain ⟨q, hq⟩ : ∃ q, a % 1000000 = q := ⟨_, rfl⟩
    obtain ⟨r, hr⟩ : ∃ r, b / 1000000 = r := ⟨_, rfl⟩
    obtain ⟨s, hs⟩ : ∃ s, b % 1000000 = s := ⟨_, rfl⟩
    have ha : a = 1000000 * p + q := by omega
    have hb : b = 1000000 * r + s := by omega
    rw [hp, hq, hr, hs, ha, hb]
    simp only [Int.add_mul, Int.mul_add, Int.mul_assoc, Int.mul_comm, Int.mul_left_comm, Int.reduceMul]
    omega
  rw [e, Int.add_mul_ediv_left _ _ (by decide), Int.add_mul_emod_self_left]
  exact ⟨by omega, rfl⟩
theorem prodI (a b : Int) (h0 : 0 ≤ a) (h1 : a ≤ 1099511627775) (h2 : 0 ≤ b) (h3 : b ≤ 1099511627775) (w : World) :
    Calls Try.prog 74 #[.int .i64 a, .int .i64 b] w fun e w' => e = .returned (.tuple #[.int .i64 (a * b / 1048576), .int .i64 (a * b % 1048576)]) ∧ w = w' := by
  obtain ⟨e1, e2⟩ := prod20 a b
  have E1 := hide e1
  have E2 := hide e2
  have b1 := mul_bd (a := a % 1048576) (b := b) (A := 1048576) (B := 1099511627775) (by omega) (by omega) (by omega) h2 h3
  have b2 := mul_bd (a := a / 1048576) (b := b) (A := 1048576) (B := 1099511627775) (by omega) (by omega) (by omega) h2 h3
  have b3 := Int.mul_nonneg (show 0 ≤ a % 1048576 by omega) h2
  have b4 := Int.mul_nonneg (show 0 ≤ a / 1048576 by omega) h2
  obtain ⟨c1, c2⟩ := b1
  obtain ⟨c3, c4⟩ := b2
  clear e1 e2
  go_enter Try.func74, Try.ntmps74
  go_wp2
  go_ret2
  have F1 := E1.out
  have F2 := E2.out
  exact ⟨by rw [← F1, ← F2]; rfl, rfl⟩
theorem prodS (a b : Int) (h0 : 0 ≤ a) (h1 : a ≤ 90000000000) (h2 : 0 ≤ b) (h3 : b ≤ 90000000000) (w : World) :
    Calls Try.prog 75 #[.int .i64 a, .int .i64 b] w fun e w' => e = .returned (.tuple #[.int .i64 (a * b / 1000000000000), .int .i64 (a * b % 1000000000000)]) ∧ w = w' := by
  obtain ⟨e1, e2⟩ := prodE a b
  have E1 := hide e1
  have E2 := hide e2
  have b1 := mul_bd (a := a / 1000000) (b := b % 1000000) (A := 90000) (B := 1000000) (by omega) (by omega) (by omega) (by omega) (by omega)
  have b2 := mul_bd (a := a % 1000000) (b := b / 1000000) (A := 1000000) (B := 90000) (by omega) (by omega) (by omega) (by omega) (by omega)
  have b3 := mul_bd (a := a % 1000000) (b := b % 1000000) (A := 1000000) (B := 1000000) (by omega) (by omega) (by omega) (by omega) (by omega)
  have b4 := mul_bd (a := a / 1000000) (b := b / 1000000) (A := 90000) (B := 90000) (by omega) (by omega) (by omega) (by omega) (by omega)
  have n1 := Int.mul_nonneg (show 0 ≤ a / 1000000 by omega) (show 0 ≤ b % 1000000 by omega)
  have n2 := Int.mul_nonneg (show 0 ≤ a % 1000000 by omega) (show 0 ≤ b / 1000000 by omega)
  have n3 := Int.mul_nonneg (show 0 ≤ a % 1000000 by omega) (show 0 ≤ b % 1000000 by omega)
  have n4 := Int.mul_nonneg (show 0 ≤ a / 1000000 by omega) (show 0 ≤ b / 1000000 by omega)
  obtain ⟨-, c1⟩ := b1
  obtain ⟨-, c2⟩ := b2
  obtain ⟨-, c3⟩ := b3
  obtain ⟨-, c4⟩ := b4
  clear e1 e2
  go_enter Try.func75, Try.ntmps75
  go_wp2
  go_ret2
  have F1 := E1.out
  have F2 := E2.out
  exact ⟨by rw [← F1, ← F2]; rfl, rfl⟩
theorem atMostI (a b c d : Int) (h0 : 0 ≤ a) (h1 : a ≤ 1099511627775) (h2 : 0 ≤ b) (h3 : b ≤ 1099511627775) (h4 : 0 ≤ c) (h5 : c ≤ 1099511627775) (h6 : 0 ≤ d) (h7 : d ≤ 1099511627775) (w : World) :
    Calls Try.prog 62 #[.int .i64 a, .int .i64 b, .int .i64 c, .int .i64 d] w fun e w' => e = .returned (.bool (leB (a * b) (c * d))) ∧ w = w' := by
  have n1 := Int.mul_nonneg h0 h2
  have n2 := Int.mul_nonneg h4 h6
  by_cases hle : a * b ≤ c * d
  · have H := hide (leB_true hle)
    by_cases hlt : a * b / 1048576 < c * d / 1048576
    · have d1 : decide (a * b / 1048576 < c * d / 1048576) = true := by simp; omega
      go_enter Try.func62, Try.ntmps62
      go_wp2_with (go_at_call 74; refine (prodI _ _ (by omega) (by omega) (by omega) (by omega) _).mono ?_; rintro e w' ⟨rfl, rfl⟩)
      go_ret
      exact ⟨ret_bool H.out.symm, rfl⟩
    · have d1 : decide (a * b / 1048576 < c * d / 1048576) = false := by simp; omega
      have d2 : (a * b / 1048576 == c * d / 1048576) = true := by simp; omega
      have d3 : decide (a * b % 1048576 ≤ c * d % 1048576) = true := by simp; omega
      go_enter Try.func62, Try.ntmps62
      go_wp2_with (go_at_call 74; refine (prodI _ _ (by omega) (by omega) (by omega) (by omega) _).mono ?_; rintro e w' ⟨rfl, rfl⟩)
      go_ret
      exact ⟨ret_bool H.out.symm, rfl⟩
  · have H := hide (leB_false hle)
    have d1 : decide (a * b / 1048576 < c * d / 1048576) = false := by simp; omega
    by_cases heq : a * b / 1048576 = c * d / 1048576
    · have d2 : (a * b / 1048576 == c * d / 1048576) = true := by simp; omega
      have d3 : decide (a * b % 1048576 ≤ c * d % 1048576) = false := by simp; omega
      clear heq
      go_enter Try.func62, Try.ntmps62
      go_wp2_with (go_at_call 74; refine (prodI _ _ (by omega) (by omega) (by omega) (by omega) _).mono ?_; rintro e w' ⟨rfl, rfl⟩)
      go_ret
      exact ⟨ret_bool H.out.symm, rfl⟩
    · have d2 : (a * b / 1048576 == c * d / 1048576) = false := by simp; omega
      go_enter Try.func62, Try.ntmps62
      go_wp2_with (go_at_call 74; refine (prodI _ _ (by omega) (by omega) (by omega) (by omega) _).mono ?_; rintro e w' ⟨rfl, rfl⟩)
      go_ret
      exact ⟨ret_bool H.out.symm, rfl⟩
theorem farS (x L : Int) (h0 : 0 ≤ x) (h1 : x ≤ 80000000000) (h2 : 1 ≤ L) (h3 : L ≤ 80000000000) (hX : x * x ≤ 80000000000 * L) (w : World) :
    Calls Try.prog 72 #[.int .i64 x, .int .i64 L] w fun e w' => e = .returned (.int .i64 (segR (x * x) L)) ∧ w = w' := by
  have hst := hide (segIn_start (K := 300000) (Int.mul_nonneg h0 h0) hX h2 (by decide))
  have n0 := Int.mul_nonneg h0 h0
  go_enter Try.func72, Try.ntmps72
  go_wp2_with (go_at_call 75; refine (prodS _ _ (by omega) (by omega) (by omega) (by omega) _).mono ?_; rintro e w' ⟨rfl, rfl⟩)
  go_loop [7, 8] (fun lo hi => ∃ a b : Int, 0 ≤ a ∧ a ≤ b ∧ b ≤ 300000 ∧ Hid (SegIn (x * x) L a b) ∧ lo = .int .i64 a ∧ hi = .int .i64 b) (fun lo hi => (intOf hi - intOf lo).toNat)
  case atStart => exact ⟨0, 300000, by omega, by omega, by omega, hst, rfl, rfl⟩
  case round =>
    obtain ⟨a, b, ha, hab, hb, hr, rfl, rfl⟩ := hrel
    by_cases hlt : a < b
    · obtain ⟨hm1, hm2, hm3, hm4⟩ := mid_seg ha hlt hb
      have n1 := Int.mul_nonneg hm3 (show 0 ≤ L by omega)
      by_cases hm : (a + b + 1) / 2 * ((a + b + 1) / 2) * L ≤ x * x
      · by_cases hq : (a + b + 1) / 2 * ((a + b + 1) / 2) * L / 1000000000000 < x * x / 1000000000000
        · have d1 : decide ((a + b + 1) / 2 * ((a + b + 1) / 2) * L / 1000000000000 < x * x / 1000000000000) = true := by simp; omega
          go_wp2_with (go_at_call 75; refine (prodS _ _ (by omega) (by omega) (by omega) (by omega) _).mono ?_; rintro e w' ⟨rfl, rfl⟩)
          go_round
          case rel => exact ⟨_, _, by omega, by omega, by omega, hide (hr.out.up hm), rfl, rfl⟩
          case measure => simp [intOf]; omega
        · have d1 : decide ((a + b + 1) / 2 * ((a + b + 1) / 2) * L / 1000000000000 < x * x / 1000000000000) = false := by simp; omega
          have d2 : ((a + b + 1) / 2 * ((a + b + 1) / 2) * L / 1000000000000 == x * x / 1000000000000) = true := by simp; omega
          have d3 : decide ((a + b + 1) / 2 * ((a + b + 1) / 2) * L % 1000000000000 ≤ x * x % 1000000000000) = true := by simp; omega
          go_wp2_with (go_at_call 75; refine (prodS _ _ (by omega) (by omega) (by omega) (by omega) _).mono ?_; rintro e w' ⟨rfl, rfl⟩)
          go_round
          case rel => exact ⟨_, _, by omega, by omega, by omega, hide (hr.out.up hm), rfl, rfl⟩
          case measure => simp [intOf]; omega
      · have d1 : decide ((a + b + 1) / 2 * ((a + b + 1) / 2) * L / 1000000000000 < x * x / 1000000000000) = false := by simp; omega
        by_cases hq : (a + b + 1) / 2 * ((a + b + 1) / 2) * L / 1000000000000 = x * x / 1000000000000
        · have d2 : ((a + b + 1) / 2 * ((a + b + 1) / 2) * L / 1000000000000 == x * x / 1000000000000) = true := by simp; omega
          have d3 : decide ((a + b + 1) / 2 * ((a + b + 1) / 2) * L % 1000000000000 ≤ x * x % 1000000000000) = false := by simp; omega
          clear hq
          go_wp2_with (go_at_call 75; refine (prodS _ _ (by omega) (by omega) (by omega) (by omega) _).mono ?_; rintro e w' ⟨rfl, rfl⟩)
          go_round
          case rel => exact ⟨_, _, by omega, by omega, by omega, hide (hr.out.down (by omega)), rfl, rfl⟩
          case measure => simp [intOf]; omega
        · have d2 : ((a + b + 1) / 2 * ((a + b + 1) / 2) * L / 1000000000000 == x * x / 1000000000000) = false := by simp; omega
          go_wp2_with (go_at_call 75; refine (prodS _ _ (by omega) (by omega) (by omega) (by omega) _).mono ?_; rintro e w' ⟨rfl, rfl⟩)
          go_round
          case rel => exact ⟨_, _, by omega, by omega, by omega, hide (hr.out.down (by omega)), rfl, rfl⟩
          case measure => simp [intOf]; omega
    · obtain rfl : a = b := by omega
      go_wp2
      go_ret
      exact ⟨ret_int (hr.out.done (by omega) ha), rfl⟩
end Go.Proofs.Ytnmihmjgmanllaa
