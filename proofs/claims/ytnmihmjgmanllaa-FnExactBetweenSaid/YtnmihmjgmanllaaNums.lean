--%!
/- Contracts of the functions on plain numbers (angles, quotients, roots, ..), reference and program alike. -/
import Derived.Test.YtnmihmjgmanllaaBase
import Derived.Test.YtnmihmjgmanllaaMath
namespace Go.Proofs.Ytnmihmjgmanllaa
open Go.ChangeShapes Go.WideShapes Go.ChangeAt Go.RowKit
set_option linter.unusedVariables false

theorem ret_bool {a b : Bool} (h : a = b) : Ending.returned (.bool a) = .returned (.bool b) := by rw [h]
theorem ret_int {k : IntKind} {a b : Int} (h : a = b) : Ending.returned (.int k a) = .returned (.int k b) := by rw [h]
theorem inS (n lo hi : Int) (w : World) : Calls Try.prog 49 #[.int .i64 n, .int .i64 lo, .int .i64 hi] w fun e w' => e = .returned (.bool (inB n lo hi)) ∧ w = w' := by
  by_cases h1 : lo ≤ n
  · by_cases h2 : n ≤ hi
    · have H := hide (inB_true h1 h2)
      have d2 : decide (n ≤ hi) = true := by simp; omega
      go_enter Try.func49, Try.ntmps49
      go_wp2
      go_ret
      exact ⟨ret_bool H.out.symm, rfl⟩
    · have H := hide (inB_false (fun k => h2 k.2) : inB n lo hi = false)
      have d2 : decide (n ≤ hi) = false := by simp; omega
      go_enter Try.func49, Try.ntmps49
      go_wp2
      go_ret
      exact ⟨ret_bool H.out.symm, rfl⟩
  · have H := hide (inB_false (fun k => h1 k.1) : inB n lo hi = false)
    go_enter Try.func49, Try.ntmps49
    go_wp2
    go_ret
    exact ⟨ret_bool H.out.symm, rfl⟩
theorem inI (n lo hi : Int) (w : World) : Calls Try.prog 51 #[.int .i64 n, .int .i64 lo, .int .i64 hi] w fun e w' => e = .returned (.bool (inB n lo hi)) ∧ w = w' := by
  by_cases h1 : lo ≤ n
  · by_cases h2 : n ≤ hi
    · have H := hide (inB_true h1 h2)
      have d2 : decide (n ≤ hi) = true := by simp; omega
      go_enter Try.func51, Try.ntmps51
      go_wp2
      go_ret
      exact ⟨ret_bool H.out.symm, rfl⟩
    · have H := hide (inB_false (fun k => h2 k.2) : inB n lo hi = false)
      have d2 : decide (n ≤ hi) = false := by simp; omega
      go_enter Try.func51, Try.ntmps51
      go_wp2
      go_ret
      exact ⟨ret_bool H.out.symm, rfl⟩
  · have H := hide (inB_false (fun k => h1 k.1) : inB n lo hi = false)
    go_enter Try.func51, Try.ntmps51
    go_wp2
    go_ret
    exact ⟨ret_bool H.out.symm, rfl⟩
theorem okS (x y : Int) (w : World) : Calls Try.prog 42 #[.agg #[.int .i64 x, .int .i64 y]] w fun e w' => e = .returned (.bool (okP x y)) ∧ Below w.heap.size w w' := by
  cases hx : inB x 0 200000
  · have H := hide (okP_f1 hx : okP x y = false)
    go_enter Try.func42, Try.ntmps42
    go_wp2_with (go_at_call 49; refine (inS _ _ _ _).mono ?_; rintro e w' ⟨rfl, rfl⟩)
    go_ret
    exact ⟨ret_bool H.out.symm, by go_grown⟩
  · cases hy : inB y 0 200000
    · have H := hide (okP_f2 hy : okP x y = false)
      go_enter Try.func42, Try.ntmps42
      go_wp2_with (go_at_call 49; refine (inS _ _ _ _).mono ?_; rintro e w' ⟨rfl, rfl⟩)
      go_ret
      exact ⟨ret_bool H.out.symm, by go_grown⟩
    · have H := hide (okP_true hx hy : okP x y = true)
      go_enter Try.func42, Try.ntmps42
      go_wp2_with (go_at_call 49; refine (inS _ _ _ _).mono ?_; rintro e w' ⟨rfl, rfl⟩)
      go_ret
      exact ⟨ret_bool H.out.symm, by go_grown⟩
theorem okI (x y : Int) (w : World) : Calls Try.prog 57 #[.agg #[.int .i64 x, .int .i64 y]] w fun e w' => e = .returned (.bool (okP x y)) ∧ Below w.heap.size w w' := by
  cases hx : inB x 0 200000
  · have H := hide (okP_f1 hx : okP x y = false)
    go_enter Try.func57, Try.ntmps57
    go_wp2_with (go_at_call 51; refine (inI _ _ _ _).mono ?_; rintro e w' ⟨rfl, rfl⟩)
    go_ret
    exact ⟨ret_bool H.out.symm, by go_grown⟩
  · cases hy : inB y 0 200000
    · have H := hide (okP_f2 hy : okP x y = false)
      go_enter Try.func57, Try.ntmps57
      go_wp2_with (go_at_call 51; refine (inI _ _ _ _).mono ?_; rintro e w' ⟨rfl, rfl⟩)
      go_ret
      exact ⟨ret_bool H.out.symm, by go_grown⟩
    · have H := hide (okP_true hx hy : okP x y = true)
      go_enter Try.func57, Try.ntmps57
      go_wp2_with (go_at_call 51; refine (inI _ _ _ _).mono ?_; rintro e w' ⟨rfl, rfl⟩)
      go_ret
      exact ⟨ret_bool H.out.symm, by go_grown⟩
theorem angS (d : Int) (h0 : -9223372036854775808 ≤ d) (h1 : d ≤ 9223372036854775807) (w : World) :
    Calls Try.prog 68 #[.int .i64 d] w fun e w' => e = .returned (.int .i64 (d % 360)) ∧ w = w' := by
  obtain ⟨hb1, hb2⟩ := tmod_bd d 360 (by decide)
  have H := hide (norm_mod d 360 (by decide))
  go_enter Try.func68, Try.ntmps68
  go_wp2
  go_ret
  exact ⟨ret_int H.out, rfl⟩
theorem angI (d : Int) (h0 : -9223372036854775808 ≤ d) (h1 : d ≤ 9223372036854775807) (w : World) :
    Calls Try.prog 39 #[.int .i64 d] w fun e w' => e = .returned (.int .i64 (d % 360)) ∧ w = w' := by
  obtain ⟨hb1, hb2⟩ := tmod_bd d 360 (by decide)
  have H := hide (norm_mod d 360 (by decide))
  go_enter Try.func39, Try.ntmps39
  go_wp2
  go_ret
  exact ⟨ret_int H.out, rfl⟩
theorem rootS (n : Int) (h0 : -9223372036854775808 ≤ n) (h1 : n ≤ 9223372036854775807) (w : World) :
    Calls Try.prog 70 #[.int .i64 n] w fun e w' => e = .returned (.int .i64 (rt n)) ∧ w = w' := by
  go_enter Try.func70, Try.ntmps70
  go_wp2
  go_loop [3, 4] (fun lo hi => ∃ a b : Int, 0 ≤ a ∧ a ≤ b ∧ b ≤ 3037000499 ∧ RootIn n a b ∧ lo = .int .i64 a ∧ hi = .int .i64 b) (fun lo hi => (intOf hi - intOf lo).toNat)
  case atStart => exact ⟨0, 3037000499, by omega, by omega, by omega, rootIn_start h1, rfl, rfl⟩
  case round =>
    obtain ⟨a, b, ha, hab, hb, hr, rfl, rfl⟩ := hrel
    by_cases hlt : a < b
    · obtain ⟨hm1, hm2, hm3, hm4⟩ := mid_bd ha hlt hb
      by_cases hm : (a + b + 1) / 2 * ((a + b + 1) / 2) ≤ n
      · go_wp2
        go_round
        case rel => exact ⟨_, _, by omega, by omega, by omega, hr.up hm, rfl, rfl⟩
        case measure => simp [intOf]; omega
      · go_wp2
        go_round
        case rel => exact ⟨_, _, by omega, by omega, by omega, hr.down (by omega), rfl, rfl⟩
        case measure => simp [intOf]; omega
    · obtain rfl : a = b := by omega
      go_wp2
      go_ret
      exact ⟨ret_int (hr.done h1 ha), rfl⟩
theorem rootI (n : Int) (h0 : -9223372036854775808 ≤ n) (h1 : n ≤ 9223372036854775807) (w : World) :
    Calls Try.prog 47 #[.int .i64 n] w fun e w' => e = .returned (.int .i64 (rt n)) ∧ w = w' := by
  by_cases hn : n < 0
  · have H := hide (rt_neg n hn)
    go_enter Try.func47, Try.ntmps47
    go_wp2
    go_ret
    exact ⟨ret_int H.out.symm, rfl⟩
  · go_enter Try.func47, Try.ntmps47
    go_wp2
    go_loop [3, 4] (fun lo hi => ∃ a b : Int, 0 ≤ a ∧ a ≤ b ∧ b ≤ 3037000499 ∧ RootIn n a b ∧ lo = .int .i64 a ∧ hi = .int .i64 b) (fun lo hi => (intOf hi - intOf lo).toNat)
    case atStart => exact ⟨0, 3037000499, by omega, by omega, by omega, rootIn_start h1, rfl, rfl⟩
    case round =>
      obtain ⟨a, b, ha, hab, hb, hr, rfl, rfl⟩ := hrel
      by_cases hlt : a < b
      · obtain ⟨hm1, hm2, hm3, hm4⟩ := mid_bd ha hlt hb
        by_cases hm : (a + b + 1) / 2 * ((a + b + 1) / 2) ≤ n
        · go_wp2
          go_round
          case rel => exact ⟨_, _, by omega, by omega, by omega, hr.up hm, rfl, rfl⟩
          case measure => simp [intOf]; omega
        · go_wp2
          go_round
          case rel => exact ⟨_, _, by omega, by omega, by omega, hr.down (by omega), rfl, rfl⟩
          case measure => simp [intOf]; omega
      · obtain rfl : a = b := by omega
        go_wp2
        go_ret
        exact ⟨ret_int (hr.done h1 ha), rfl⟩
theorem divS (a b : Int) (h0 : -1000000000000000000 ≤ a) (h1 : a ≤ 1000000000000000000) (h2 : -1000000000000000000 ≤ b) (h3 : b ≤ 1000000000000000000) (hb : b ≠ 0) (w : World) :
    Calls Try.prog 71 #[.int .i64 a, .int .i64 b] w fun e w' => e = .returned (.int .i64 (dr a b)) ∧ w = w' := by
  have H : Hid (dr a b = if b < 0 then (if -a < 0 then -((-b - 2 * -a) / (2 * -b)) else (2 * -a + -b) / (2 * -b)) else (if a < 0 then -((b - 2 * a) / (2 * b)) else (2 * a + b) / (2 * b))) := rfl
  by_cases hb0 : b < 0
  · by_cases ha0 : -a < 0
    · obtain ⟨q1, q2⟩ := quot_bd (-b - 2 * -a) (2 * -b) (by omega) (by omega)
      go_enter Try.func71, Try.ntmps71
      go_wp2
      go_ret
      exact ⟨ret_int (by rw [H.out, if_pos hb0, if_pos ha0]), rfl⟩
    · obtain ⟨q1, q2⟩ := quot_bd (2 * -a + -b) (2 * -b) (by omega) (by omega)
      go_enter Try.func71, Try.ntmps71
      go_wp2
      go_ret
      exact ⟨ret_int (by rw [H.out, if_pos hb0, if_neg (by omega)]), rfl⟩
  · by_cases ha0 : a < 0
    · obtain ⟨q1, q2⟩ := quot_bd (b - 2 * a) (2 * b) (by omega) (by omega)
      go_enter Try.func71, Try.ntmps71
      go_wp2
      go_ret
      exact ⟨ret_int (by rw [H.out, if_neg (by omega), if_pos ha0]), rfl⟩
    · obtain ⟨q1, q2⟩ := quot_bd (2 * a + b) (2 * b) (by omega) (by omega)
      go_enter Try.func71, Try.ntmps71
      go_wp2
      go_ret
      exact ⟨ret_int (by rw [H.out, if_neg (by omega), if_neg (by omega)]), rfl⟩
theorem divI_pp (a b : Int) (h0 : 0 ≤ a) (h1 : a ≤ 1000000000000000000) (h2 : 1 ≤ b) (h3 : b ≤ 1000000000000000000) (w : World) :
    Calls Try.prog 65 #[.int .i64 (a), .int .i64 (b)] w fun e w' => e = .returned (.int .i64 (dr (a) (b))) ∧ w = w' := by
  have H0 := hide (dr_pp a b h0 (by omega))
  obtain ⟨q1, q2, q3, q4⟩ := qr_bd a b (by omega) (by omega)
  have H : Hid (drq a b = if b - a % b ≤ a % b then a / b + 1 else a / b) := rfl
  have d0 : decide (a < 0) = false := by simp; omega
  have d1 : decide (b < 0) = false := by simp; omega
  by_cases hq : b - a % b ≤ a % b
  · go_enter Try.func65, Try.ntmps65
    go_wp2
    go_ret
    exact ⟨ret_int (by rw [H0.out, H.out, if_pos hq]), rfl⟩
  · go_enter Try.func65, Try.ntmps65
    go_wp2
    go_ret
    exact ⟨ret_int (by rw [H0.out, H.out, if_neg (by omega)]), rfl⟩
theorem divI_np (a b : Int) (h0 : 1 ≤ a) (h1 : a ≤ 1000000000000000000) (h2 : 1 ≤ b) (h3 : b ≤ 1000000000000000000) (w : World) :
    Calls Try.prog 65 #[.int .i64 (-a), .int .i64 (b)] w fun e w' => e = .returned (.int .i64 (dr (-a) (b))) ∧ w = w' := by
  have H0 := hide (show dr (-a) b = -drq a b by rw [dr_np (-a) b (by omega) (by omega), Int.neg_neg])
  obtain ⟨q1, q2, q3, q4⟩ := qr_bd a b (by omega) (by omega)
  have H : Hid (drq a b = if b - a % b ≤ a % b then a / b + 1 else a / b) := rfl
  have d0 : decide (-a < 0) = true := by simp; omega
  have d1 : decide (0 < a) = true := by simp; omega
  have d2 : decide (b < 0) = false := by simp; omega
  by_cases hq : b - a % b ≤ a % b
  · go_enter Try.func65, Try.ntmps65
    go_wp2
    go_ret
    exact ⟨ret_int (by rw [H0.out, H.out, if_pos hq]), rfl⟩
  · go_enter Try.func65, Try.ntmps65
    go_wp2
    go_ret
    exact ⟨ret_int (by rw [H0.out, H.out, if_neg (by omega)]), rfl⟩
theorem divI_pn (a b : Int) (h0 : 0 ≤ a) (h1 : a ≤ 1000000000000000000) (h2 : 1 ≤ b) (h3 : b ≤ 1000000000000000000) (w : World) :
    Calls Try.prog 65 #[.int .i64 (a), .int .i64 (-b)] w fun e w' => e = .returned (.int .i64 (dr (a) (-b))) ∧ w = w' := by
  have H0 := hide (show dr a (-b) = -drq a b by rw [dr_zpn a (-b) h0 (by omega), Int.neg_neg])
  obtain ⟨q1, q2, q3, q4⟩ := qr_bd a b (by omega) (by omega)
  have H : Hid (drq a b = if b - a % b ≤ a % b then a / b + 1 else a / b) := rfl
  have d0 : decide (a < 0) = false := by simp; omega
  have d1 : decide (-b < 0) = true := by simp; omega
  have d2 : decide (0 < b) = true := by simp; omega
  by_cases hq : b - a % b ≤ a % b
  · go_enter Try.func65, Try.ntmps65
    go_wp2
    go_ret
    exact ⟨ret_int (by rw [H0.out, H.out, if_pos hq]), rfl⟩
  · go_enter Try.func65, Try.ntmps65
    go_wp2
    go_ret
    exact ⟨ret_int (by rw [H0.out, H.out, if_neg (by omega)]), rfl⟩
theorem divI_nn (a b : Int) (h0 : 1 ≤ a) (h1 : a ≤ 1000000000000000000) (h2 : 1 ≤ b) (h3 : b ≤ 1000000000000000000) (w : World) :
    Calls Try.prog 65 #[.int .i64 (-a), .int .i64 (-b)] w fun e w' => e = .returned (.int .i64 (dr (-a) (-b))) ∧ w = w' := by
  have H0 := hide (show dr (-a) (-b) = drq a b by rw [dr_nn (-a) (-b) (by omega) (by omega), Int.neg_neg, Int.neg_neg])
  obtain ⟨q1, q2, q3, q4⟩ := qr_bd a b (by omega) (by omega)
  have H : Hid (drq a b = if b - a % b ≤ a % b then a / b + 1 else a / b) := rfl
  have d0 : decide (-a < 0) = true := by simp; omega
  have d1 : decide (0 < a) = true := by simp; omega
  have d2 : decide (-b < 0) = true := by simp; omega
  have d3 : decide (0 < b) = true := by simp; omega
  by_cases hq : b - a % b ≤ a % b
  · go_enter Try.func65, Try.ntmps65
    go_wp2
    go_ret
    exact ⟨ret_int (by rw [H0.out, H.out, if_pos hq]), rfl⟩
  · go_enter Try.func65, Try.ntmps65
    go_wp2
    go_ret
    exact ⟨ret_int (by rw [H0.out, H.out, if_neg (by omega)]), rfl⟩
theorem divI (a b : Int) (h0 : -1000000000000000000 ≤ a) (h1 : a ≤ 1000000000000000000) (h2 : -1000000000000000000 ≤ b) (h3 : b ≤ 1000000000000000000) (hb : b ≠ 0) (w : World) :
    Calls Try.prog 65 #[.int .i64 a, .int .i64 b] w fun e w' => e = .returned (.int .i64 (dr a b)) ∧ w = w' := by
  by_cases ha : a < 0
  · obtain ⟨a', rfl⟩ : ∃ a', a = -a' := ⟨-a, by omega⟩
    by_cases hb' : b < 0
    · obtain ⟨b', rfl⟩ : ∃ b', b = -b' := ⟨-b, by omega⟩
      exact divI_nn a' b' (by omega) (by omega) (by omega) (by omega) w
    · exact divI_np a' b (by omega) (by omega) (by omega) (by omega) w
  · by_cases hb' : b < 0
    · obtain ⟨b', rfl⟩ : ∃ b', b = -b' := ⟨-b, by omega⟩
      exact divI_pn a b' (by omega) (by omega) (by omega) (by omega) w
    · exact divI_pp a b (by omega) (by omega) (by omega) (by omega) w
end Go.Proofs.Ytnmihmjgmanllaa
