--%!
/- Contracts of the calendar's functions, reference and program alike. -/
import Derived.Test.YtphlbpailmdndaaDoorNums
import Derived.Test.YtphlbpailmdndaaDoorCalMath
namespace Go.Proofs.YtphlbpailmdndaaDoor
open Go.ChangeShapes Go.WideShapes Go.ChangeAt Go.RowKit
set_option linter.unusedVariables false

theorem ret_int' {k : IntKind} {a b : Int} (h : a = b) : Ending.returned (.int k a) = .returned (.int k b) := by rw [h]
theorem leap_cases (y : Int) : (y % 4 ≠ 0 ∧ y % 400 ≠ 0 ∧ leapB y = false) ∨ (y % 4 = 0 ∧ y % 100 ≠ 0 ∧ leapB y = true) ∨ (y % 4 = 0 ∧ y % 100 = 0 ∧ y % 400 = 0 ∧ leapB y = true) ∨ (y % 4 = 0 ∧ y % 100 = 0 ∧ y % 400 ≠ 0 ∧ leapB y = false) := by
  by_cases a : y % 4 = 0
  · by_cases b : y % 100 = 0
    · by_cases c : y % 400 = 0
      · exact .inr (.inr (.inl ⟨a, b, c, leapB_true (.inr c)⟩))
      · exact .inr (.inr (.inr ⟨a, b, c, leapB_false (by omega)⟩))
    · exact .inr (.inl ⟨a, b, leapB_true (.inl ⟨a, b⟩)⟩)
  · exact .inl ⟨a, by omega, leapB_false (by omega)⟩
/-- a date comes back -/
def DateBack (n : Int) (w : World) (e : Ending) (w' : World) : Prop := ∃ y m d : Int, IsDate n y m d ∧ e = .returned (.tuple #[.int .i64 y, .int .i64 m, .int .i64 d]) ∧ w = w'
theorem leapS (y : Int) (h0 : 0 ≤ y) (h1 : y ≤ 1000000) (w : World) :
    Calls Tryd.prog 143 #[.int .i64 y] w fun e w' => e = .returned (.bool (leapB y)) ∧ w = w' := by
  rcases leap_cases y with ⟨a, b, H⟩ | ⟨a, b, H⟩ | ⟨a, b, c, H⟩ | ⟨a, b, c, H⟩
  all_goals
    have H' := hide H
    clear H
    go_enter Tryd.func143, Tryd.ntmps143
    go_wp2
    go_ret
    exact ⟨ret_bool (by have h := H'.out; first | exact h.symm | (rw [h]; simp; omega)), rfl⟩
theorem daysS (y m : Int) (h0 : 0 ≤ y) (h1 : y ≤ 1000000) (hm1 : 1 ≤ m) (hm2 : m ≤ 12) (w : World) :
    Calls Tryd.prog 119 #[.int .i64 y, .int .i64 m] w fun e w' => e = .returned (.int .i64 (dim y m)) ∧ w = w' := by
  rcases (by omega : m = 1 ∨ m = 2 ∨ m = 3 ∨ m = 4 ∨ m = 5 ∨ m = 6 ∨ m = 7 ∨ m = 8 ∨ m = 9 ∨ m = 10 ∨ m = 11 ∨ m = 12) with rfl | rfl | rfl | rfl | rfl | rfl | rfl | rfl | rfl | rfl | rfl | rfl
  all_goals
    clear hm1 hm2
    go_enter Tryd.func119, Tryd.ntmps119
    go_wp2_with (go_at_call 143; refine (leapS _ h0 h1 _).mono ?_; rintro e w' ⟨rfl, rfl⟩)
    all_goals
      go_ret
      refine ⟨ret_int' ?_, rfl⟩
      first | rfl | (simp [dim, lp_true (by assumption)]; done) | (simp [dim, lp_false (by assumption)]; done)
theorem dateS (n : Int) (h0 : 0 ≤ n) (h1 : n ≤ 99999) (w : World) : Calls Tryd.prog 97 #[.int .i64 n] w (DateBack n w) := by
  go_enter Tryd.func97, Tryd.ntmps97
  go_wp2
  go_loop [0, 5, 6] (fun vd vy vm => ∃ d y m : Int, 0 ≤ d ∧ 2000 ≤ y ∧ y ≤ 2273 ∧ 1 ≤ m ∧ m ≤ 12 ∧ Hid (fd y + cum y m + d = n) ∧ vd = .int .i64 d ∧ vy = .int .i64 y ∧ vm = .int .i64 m) (fun vd _ _ => (intOf vd).toNat)
  case atStart => exact ⟨n, 2000, 1, by omega, by omega, by omega, by omega, by omega, hide (by rw [fd_2000, cum_1]; omega), rfl, rfl, rfl⟩
  case round =>
    obtain ⟨d, y, m, hd, hy1, hy2, hm1, hm2, hs, rfl, rfl, rfl⟩ := hrel
    obtain ⟨db1, db2⟩ := dim_bd y m
    have hfd := fd_lo y hy1
    have hdn : d ≤ 99999 := by have := hs.out; have := cum_bd y m hm1 (by omega); omega
    by_cases hlt : dim y m ≤ d
    · by_cases hm : m = 12
      · subst hm
        go_wp2_with (go_at_call 119; refine (daysS _ _ (by omega) (by omega) (by omega) (by omega) _).mono ?_; rintro e w' ⟨rfl, rfl⟩)
        go_round
        case rel =>
          refine ⟨_, y + 1, 1, by omega, by omega, ?_, by omega, by omega, hide ?_, rfl, rfl, rfl⟩
          · refine fd_year (by omega) ?_
            have a := hs.out
            have b := fd_succ y
            have c := cum_succ y 12 (by omega) (by omega)
            rw [show (12 : Int) + 1 = 13 by omega, cum_13] at c
            omega
          · have a := hs.out
            have b := fd_succ y
            have c := cum_succ y 12 (by omega) (by omega)
            rw [show (12 : Int) + 1 = 13 by omega, cum_13] at c
            rw [cum_1]; omega
        case measure => simp [intOf]; omega
      · go_wp2_with (go_at_call 119; refine (daysS _ _ (by omega) (by omega) (by omega) (by omega) _).mono ?_; rintro e w' ⟨rfl, rfl⟩)
        go_round
        case rel =>
          refine ⟨_, y, m + 1, by omega, hy1, hy2, by omega, by omega, hide ?_, rfl, rfl, rfl⟩
          have a := hs.out
          have c := cum_succ y m hm1 (by omega)
          rw [c]; omega
        case measure => simp [intOf]; omega
    · go_wp2_with (go_at_call 119; refine (daysS _ _ (by omega) (by omega) (by omega) (by omega) _).mono ?_; rintro e w' ⟨rfl, rfl⟩)
      go_ret3
      exact ⟨y, m, d + 1, ⟨hy1, hy2, hm1, hm2, by omega, by omega, by have := hs.out; unfold num; omega⟩, rfl, rfl⟩
theorem numS (y m d : Int) (hy1 : 2000 ≤ y) (hy2 : y ≤ 2280) (hm1 : 1 ≤ m) (hm2 : m ≤ 13) (hd1 : -1000000 ≤ d) (hd2 : d ≤ 1000000) (w : World) :
    Calls Tryd.prog 121 #[.int .i64 y, .int .i64 m, .int .i64 d] w fun e w' => e = .returned (.int .i64 (num y m d)) ∧ w = w' := by
  go_enter Tryd.func121, Tryd.ntmps121
  go_wp2
  go_loop [7, 8] (fun vo vy => ∃ o x : Int, 2000 ≤ x ∧ x ≤ y ∧ Hid (o = fd x + (d - 1)) ∧ vo = .int .i64 o ∧ vy = .int .i64 x) (fun _ vy => (y - intOf vy).toNat)
  case atStart => exact ⟨d - 1, 2000, by omega, by omega, hide (by rw [fd_2000]; omega), rfl, rfl⟩
  case round =>
    obtain ⟨o, x, hx1, hx2, ho, rfl, rfl⟩ := hrel
    have hf := fd_lo x hx1
    have ho1 : o ≤ 366 * (x - 2000) + d := by have := ho.out; omega
    have ho2 : d - 1 ≤ o := by have := ho.out; omega
    by_cases hlt : x < y
    · cases hl : leapB x
      all_goals
        go_wp2_with (go_at_call 143; refine (leapS _ (by omega) (by omega) _).mono ?_; rintro e w' ⟨rfl, rfl⟩)
        go_round
        case rel =>
          refine ⟨_, x + 1, by omega, by omega, hide ?_, rfl, rfl⟩
          have := ho.out
          have a := fd_succ x
          first | (have b := lp_true hl; omega) | (have b := lp_false hl; omega)
        case measure => simp [intOf]; omega
    · obtain rfl : x = y := by omega
      go_wp2
      go_loop [7, 9] (fun vo vm => ∃ o' k : Int, 1 ≤ k ∧ k ≤ m ∧ Hid (o' = fd x + (d - 1) + cum x k) ∧ vo = .int .i64 o' ∧ vm = .int .i64 k) (fun _ vm => (m - intOf vm).toNat)
      case atStart => exact ⟨o, 1, by omega, by omega, hide (by rw [cum_1]; have := ho.out; omega), rfl, rfl⟩
      case round =>
        obtain ⟨o', k, hk1, hk2, ho', rfl, rfl⟩ := hrel
        obtain ⟨cb1, cb2⟩ := cum_bd x k hk1 (by omega)
        have ho1' : o' ≤ 366 * (x - 2000) + d + 366 := by have := ho'.out; omega
        have ho2' : d - 1 ≤ o' := by have := ho'.out; omega
        by_cases hlt' : k < m
        · obtain ⟨db1, db2⟩ := dim_bd x k
          go_wp2_with (go_at_call 119; refine (daysS _ _ (by omega) (by omega) (by omega) (by omega) _).mono ?_; rintro e w' ⟨rfl, rfl⟩)
          go_round
          case rel =>
            refine ⟨_, k + 1, by omega, by omega, hide ?_, rfl, rfl⟩
            have := ho'.out
            have a := cum_succ x k hk1 (by omega)
            omega
          case measure => simp [intOf]; omega
        · obtain rfl : k = m := by omega
          go_wp2
          go_ret
          exact ⟨ret_int' (by have := ho'.out; unfold num; omega), rfl⟩
theorem findS_no (y m d : Int) (h : ¬ (2000 ≤ y ∧ y ≤ 2273 ∧ 1 ≤ m ∧ m ≤ 12 ∧ 1 ≤ d ∧ d ≤ dim y m)) (w : World) :
    Calls Tryd.prog 99 #[.int .i64 y, .int .i64 m, .int .i64 d] w fun e w' => e = .returned (.tuple #[.int .i64 0, .bool false]) ∧ w = w' := by
  by_cases h1 : 2000 ≤ y
  · by_cases h2 : y ≤ 2273
    · by_cases h3 : 1 ≤ m
      · by_cases h4 : m ≤ 12
        · obtain ⟨db1, db2⟩ := dim_bd y m
          have h5 : d < 1 ∨ dim y m < d := by omega
          rcases h5 with h5 | h5
          · clear h
            go_enter Tryd.func99, Tryd.ntmps99
            go_wp2_with (first | (go_at_call 119; refine (daysS _ _ (by omega) (by omega) (by omega) (by omega) _).mono ?_; rintro e w' ⟨rfl, rfl⟩) | go_in)
            go_ret2
            exact ⟨rfl, rfl⟩
          · clear h
            have h6 : decide (d ≤ dim y m) = false := by simp; omega
            go_enter Tryd.func99, Tryd.ntmps99
            go_wp2_with (first | (go_at_call 119; refine (daysS _ _ (by omega) (by omega) (by omega) (by omega) _).mono ?_; rintro e w' ⟨rfl, rfl⟩) | go_in)
            go_ret2
            exact ⟨rfl, rfl⟩
        · clear h
          go_enter Tryd.func99, Tryd.ntmps99
          go_wp2_with go_in
          go_ret2
          exact ⟨rfl, rfl⟩
      · clear h
        go_enter Tryd.func99, Tryd.ntmps99
        go_wp2_with go_in
        go_ret2
        exact ⟨rfl, rfl⟩
    · clear h
      go_enter Tryd.func99, Tryd.ntmps99
      go_wp2_with go_in
      go_ret2
      exact ⟨rfl, rfl⟩
  · clear h
    go_enter Tryd.func99, Tryd.ntmps99
    go_wp2_with go_in
    go_ret2
    exact ⟨rfl, rfl⟩
theorem findS_yes (y m d : Int) (h1 : 2000 ≤ y) (h2 : y ≤ 2273) (h3 : 1 ≤ m) (h4 : m ≤ 12) (h5 : 1 ≤ d) (h6 : d ≤ dim y m) (w : World) :
    Calls Tryd.prog 99 #[.int .i64 y, .int .i64 m, .int .i64 d] w fun e w' => e = .returned (.tuple #[.int .i64 (num y m d), .bool (decide (num y m d ≤ 99999))]) ∧ w = w' := by
  obtain ⟨db1, db2⟩ := dim_bd y m
  go_enter Tryd.func99, Tryd.ntmps99
  go_wp2_with (first | (go_at_call 119; refine (daysS _ _ (by omega) (by omega) (by omega) (by omega) _).mono ?_; rintro e w' ⟨rfl, rfl⟩) | (go_at_call 121; refine (numS _ _ _ (by omega) (by omega) (by omega) (by omega) (by omega) (by omega) _).mono ?_; rintro e w' ⟨rfl, rfl⟩) | go_in)
  go_ret2
  exact ⟨rfl, rfl⟩
theorem leapI (y : Int) (h0 : 2000 ≤ y) (h1 : y ≤ 2273) (w : World) :
    Calls Tryd.prog 53 #[.int .i64 y] w fun e w' => e = .returned (.bool (leapB y)) ∧ w = w' := by
  rcases leap_cases y with ⟨a, b, H⟩ | ⟨a, b, H⟩ | ⟨a, b, c, H⟩ | ⟨a, b, c, H⟩
  all_goals
    have H' := hide H
    clear H
    go_enter Tryd.func53, Tryd.ntmps53
    go_wp2
    go_ret
    exact ⟨ret_bool (by have h := H'.out; first | exact h.symm | (rw [h]; simp; omega)), rfl⟩
theorem yearI (y : Int) (h0 : 2000 ≤ y) (h1 : y ≤ 2273) (w : World) :
    Calls Tryd.prog 98 #[.int .i64 y] w fun e w' => e = .returned (.int .i64 (365 + lp y)) ∧ w = w' := by
  go_enter Tryd.func98, Tryd.ntmps98
  go_wp2_with (go_at_call 53; refine (leapI _ h0 h1 _).mono ?_; rintro e w' ⟨rfl, rfl⟩)
  all_goals
    go_ret
    refine ⟨ret_int' ?_, rfl⟩
    first | (have := lp_true (by assumption); omega) | (have := lp_false (by assumption); omega)
set_option maxHeartbeats 4000000
theorem monthIx0 (w : World) : (Instr.index 89 (.agg #[.int .i64 31, .int .i64 28, .int .i64 31, .int .i64 30, .int .i64 31, .int .i64 30, .int .i64 31, .int .i64 31, .int .i64 30, .int .i64 31, .int .i64 30, .int .i64 31]) (.int .i64 0)).run Tryd.prog w = .ok (.int .i64 31) w := by kernel_rfl
theorem monthIx1 (w : World) : (Instr.index 89 (.agg #[.int .i64 31, .int .i64 28, .int .i64 31, .int .i64 30, .int .i64 31, .int .i64 30, .int .i64 31, .int .i64 31, .int .i64 30, .int .i64 31, .int .i64 30, .int .i64 31]) (.int .i64 1)).run Tryd.prog w = .ok (.int .i64 28) w := by kernel_rfl
theorem monthIx2 (w : World) : (Instr.index 89 (.agg #[.int .i64 31, .int .i64 28, .int .i64 31, .int .i64 30, .int .i64 31, .int .i64 30, .int .i64 31, .int .i64 31, .int .i64 30, .int .i64 31, .int .i64 30, .int .i64 31]) (.int .i64 2)).run Tryd.prog w = .ok (.int .i64 31) w := by kernel_rfl
theorem monthIx3 (w : World) : (Instr.index 89 (.agg #[.int .i64 31, .int .i64 28, .int .i64 31, .int .i64 30, .int .i64 31, .int .i64 30, .int .i64 31, .int .i64 31, .int .i64 30, .int .i64 31, .int .i64 30, .int .i64 31]) (.int .i64 3)).run Tryd.prog w = .ok (.int .i64 30) w := by kernel_rfl
theorem monthIx4 (w : World) : (Instr.index 89 (.agg #[.int .i64 31, .int .i64 28, .int .i64 31, .int .i64 30, .int .i64 31, .int .i64 30, .int .i64 31, .int .i64 31, .int .i64 30, .int .i64 31, .int .i64 30, .int .i64 31]) (.int .i64 4)).run Tryd.prog w = .ok (.int .i64 31) w := by kernel_rfl
theorem monthIx5 (w : World) : (Instr.index 89 (.agg #[.int .i64 31, .int .i64 28, .int .i64 31, .int .i64 30, .int .i64 31, .int .i64 30, .int .i64 31, .int .i64 31, .int .i64 30, .int .i64 31, .int .i64 30, .int .i64 31]) (.int .i64 5)).run Tryd.prog w = .ok (.int .i64 30) w := by kernel_rfl
theorem monthIx6 (w : World) : (Instr.index 89 (.agg #[.int .i64 31, .int .i64 28, .int .i64 31, .int .i64 30, .int .i64 31, .int .i64 30, .int .i64 31, .int .i64 31, .int .i64 30, .int .i64 31, .int .i64 30, .int .i64 31]) (.int .i64 6)).run Tryd.prog w = .ok (.int .i64 31) w := by kernel_rfl
theorem monthIx7 (w : World) : (Instr.index 89 (.agg #[.int .i64 31, .int .i64 28, .int .i64 31, .int .i64 30, .int .i64 31, .int .i64 30, .int .i64 31, .int .i64 31, .int .i64 30, .int .i64 31, .int .i64 30, .int .i64 31]) (.int .i64 7)).run Tryd.prog w = .ok (.int .i64 31) w := by kernel_rfl
theorem monthIx8 (w : World) : (Instr.index 89 (.agg #[.int .i64 31, .int .i64 28, .int .i64 31, .int .i64 30, .int .i64 31, .int .i64 30, .int .i64 31, .int .i64 31, .int .i64 30, .int .i64 31, .int .i64 30, .int .i64 31]) (.int .i64 8)).run Tryd.prog w = .ok (.int .i64 30) w := by kernel_rfl
theorem monthIx9 (w : World) : (Instr.index 89 (.agg #[.int .i64 31, .int .i64 28, .int .i64 31, .int .i64 30, .int .i64 31, .int .i64 30, .int .i64 31, .int .i64 31, .int .i64 30, .int .i64 31, .int .i64 30, .int .i64 31]) (.int .i64 9)).run Tryd.prog w = .ok (.int .i64 31) w := by kernel_rfl
theorem monthIx10 (w : World) : (Instr.index 89 (.agg #[.int .i64 31, .int .i64 28, .int .i64 31, .int .i64 30, .int .i64 31, .int .i64 30, .int .i64 31, .int .i64 31, .int .i64 30, .int .i64 31, .int .i64 30, .int .i64 31]) (.int .i64 10)).run Tryd.prog w = .ok (.int .i64 30) w := by kernel_rfl
theorem monthIx11 (w : World) : (Instr.index 89 (.agg #[.int .i64 31, .int .i64 28, .int .i64 31, .int .i64 30, .int .i64 31, .int .i64 30, .int .i64 31, .int .i64 31, .int .i64 30, .int .i64 31, .int .i64 30, .int .i64 31]) (.int .i64 11)).run Tryd.prog w = .ok (.int .i64 31) w := by kernel_rfl
theorem monthI (y m : Int) (h0 : 2000 ≤ y) (h1 : y ≤ 2273) (hm1 : 1 ≤ m) (hm2 : m ≤ 12) (w : World) :
    Calls Tryd.prog 87 #[.int .i64 y, .int .i64 m] w fun e w' => e = .returned (.int .i64 (dim y m)) ∧ w = w' := by
  rcases (by omega : m = 1 ∨ m = 2 ∨ m = 3 ∨ m = 4 ∨ m = 5 ∨ m = 6 ∨ m = 7 ∨ m = 8 ∨ m = 9 ∨ m = 10 ∨ m = 11 ∨ m = 12) with rfl | rfl | rfl | rfl | rfl | rfl | rfl | rfl | rfl | rfl | rfl | rfl
  · have ix := monthIx0
    clear hm1 hm2
    go_enter Tryd.func87, Tryd.ntmps87
    go_wp2_with (go_at_call 53; refine (leapI _ h0 h1 _).mono ?_; rintro e w' ⟨rfl, rfl⟩)
    all_goals
      go_ret
      refine ⟨ret_int' ?_, rfl⟩
      first | rfl | (simp [dim, lp_true (by assumption)]; done) | (simp [dim, lp_false (by assumption)]; done)
  · have ix := monthIx1
    clear hm1 hm2
    go_enter Tryd.func87, Tryd.ntmps87
    go_wp2_with (go_at_call 53; refine (leapI _ h0 h1 _).mono ?_; rintro e w' ⟨rfl, rfl⟩)
    all_goals
      go_ret
      refine ⟨ret_int' ?_, rfl⟩
      first | rfl | (simp [dim, lp_true (by assumption)]; done) | (simp [dim, lp_false (by assumption)]; done)
  · have ix := monthIx2
    clear hm1 hm2
    go_enter Tryd.func87, Tryd.ntmps87
    go_wp2_with (go_at_call 53; refine (leapI _ h0 h1 _).mono ?_; rintro e w' ⟨rfl, rfl⟩)
    all_goals
      go_ret
      refine ⟨ret_int' ?_, rfl⟩
      first | rfl | (simp [dim, lp_true (by assumption)]; done) | (simp [dim, lp_false (by assumption)]; done)
  · have ix := monthIx3
    clear hm1 hm2
    go_enter Tryd.func87, Tryd.ntmps87
    go_wp2_with (go_at_call 53; refine (leapI _ h0 h1 _).mono ?_; rintro e w' ⟨rfl, rfl⟩)
    all_goals
      go_ret
      refine ⟨ret_int' ?_, rfl⟩
      first | rfl | (simp [dim, lp_true (by assumption)]; done) | (simp [dim, lp_false (by assumption)]; done)
  · have ix := monthIx4
    clear hm1 hm2
    go_enter Tryd.func87, Tryd.ntmps87
    go_wp2_with (go_at_call 53; refine (leapI _ h0 h1 _).mono ?_; rintro e w' ⟨rfl, rfl⟩)
    all_goals
      go_ret
      refine ⟨ret_int' ?_, rfl⟩
      first | rfl | (simp [dim, lp_true (by assumption)]; done) | (simp [dim, lp_false (by assumption)]; done)
  · have ix := monthIx5
    clear hm1 hm2
    go_enter Tryd.func87, Tryd.ntmps87
    go_wp2_with (go_at_call 53; refine (leapI _ h0 h1 _).mono ?_; rintro e w' ⟨rfl, rfl⟩)
    all_goals
      go_ret
      refine ⟨ret_int' ?_, rfl⟩
      first | rfl | (simp [dim, lp_true (by assumption)]; done) | (simp [dim, lp_false (by assumption)]; done)
  · have ix := monthIx6
    clear hm1 hm2
    go_enter Tryd.func87, Tryd.ntmps87
    go_wp2_with (go_at_call 53; refine (leapI _ h0 h1 _).mono ?_; rintro e w' ⟨rfl, rfl⟩)
    all_goals
      go_ret
      refine ⟨ret_int' ?_, rfl⟩
      first | rfl | (simp [dim, lp_true (by assumption)]; done) | (simp [dim, lp_false (by assumption)]; done)
  · have ix := monthIx7
    clear hm1 hm2
    go_enter Tryd.func87, Tryd.ntmps87
    go_wp2_with (go_at_call 53; refine (leapI _ h0 h1 _).mono ?_; rintro e w' ⟨rfl, rfl⟩)
    all_goals
      go_ret
      refine ⟨ret_int' ?_, rfl⟩
      first | rfl | (simp [dim, lp_true (by assumption)]; done) | (simp [dim, lp_false (by assumption)]; done)
  · have ix := monthIx8
    clear hm1 hm2
    go_enter Tryd.func87, Tryd.ntmps87
    go_wp2_with (go_at_call 53; refine (leapI _ h0 h1 _).mono ?_; rintro e w' ⟨rfl, rfl⟩)
    all_goals
      go_ret
      refine ⟨ret_int' ?_, rfl⟩
      first | rfl | (simp [dim, lp_true (by assumption)]; done) | (simp [dim, lp_false (by assumption)]; done)
  · have ix := monthIx9
    clear hm1 hm2
    go_enter Tryd.func87, Tryd.ntmps87
    go_wp2_with (go_at_call 53; refine (leapI _ h0 h1 _).mono ?_; rintro e w' ⟨rfl, rfl⟩)
    all_goals
      go_ret
      refine ⟨ret_int' ?_, rfl⟩
      first | rfl | (simp [dim, lp_true (by assumption)]; done) | (simp [dim, lp_false (by assumption)]; done)
  · have ix := monthIx10
    clear hm1 hm2
    go_enter Tryd.func87, Tryd.ntmps87
    go_wp2_with (go_at_call 53; refine (leapI _ h0 h1 _).mono ?_; rintro e w' ⟨rfl, rfl⟩)
    all_goals
      go_ret
      refine ⟨ret_int' ?_, rfl⟩
      first | rfl | (simp [dim, lp_true (by assumption)]; done) | (simp [dim, lp_false (by assumption)]; done)
  · have ix := monthIx11
    clear hm1 hm2
    go_enter Tryd.func87, Tryd.ntmps87
    go_wp2_with (go_at_call 53; refine (leapI _ h0 h1 _).mono ?_; rintro e w' ⟨rfl, rfl⟩)
    all_goals
      go_ret
      refine ⟨ret_int' ?_, rfl⟩
      first | rfl | (simp [dim, lp_true (by assumption)]; done) | (simp [dim, lp_false (by assumption)]; done)
theorem firstI (y : Int) (hy1 : 2000 ≤ y) (hy2 : y ≤ 2273) (w : World) :
    Calls Tryd.prog 104 #[.int .i64 y] w fun e w' => e = .returned (.int .i64 (fd y)) ∧ w = w' := by
  go_enter Tryd.func104, Tryd.ntmps104
  go_wp2
  go_loop [3, 4] (fun vo vy => ∃ o x : Int, 2000 ≤ x ∧ x ≤ y ∧ Hid (o = fd x) ∧ vo = .int .i64 o ∧ vy = .int .i64 x) (fun _ vy => (y - intOf vy).toNat)
  case atStart => exact ⟨0, 2000, by omega, by omega, hide fd_2000.symm, rfl, rfl⟩
  case round =>
    obtain ⟨o, x, hx1, hx2, ho, rfl, rfl⟩ := hrel
    have hf := fd_lo x hx1
    have ho1 : o ≤ 366 * (x - 2000) := by have := ho.out; omega
    have ho2 : 0 ≤ o := by have := ho.out; omega
    have hl := lp_bd x
    clear hf
    by_cases hlt : x < y
    · go_wp2_with (go_at_call 98; refine (yearI _ (by omega) (by omega) _).mono ?_; rintro e w' ⟨rfl, rfl⟩)
      go_round
      case rel =>
        refine ⟨_, x + 1, by omega, by omega, hide ?_, rfl, rfl⟩
        have := ho.out
        have a := fd_succ x
        omega
      case measure => simp [intOf]; omega
    · obtain rfl : x = y := by omega
      go_wp2
      go_ret
      exact ⟨ret_int' ho.out, rfl⟩
theorem dateI (n : Int) (h0 : 0 ≤ n) (h1 : n ≤ 99999) (w : World) : Calls Tryd.prog 74 #[.int .i64 n] w (DateBack n w) := by
  go_enter Tryd.func74, Tryd.ntmps74
  go_wp2
  go_loop [0, 5] (fun vd vy => ∃ d y : Int, 0 ≤ d ∧ d ≤ n ∧ 2000 ≤ y ∧ y ≤ 2273 ∧ Hid (fd y + d = n) ∧ vd = .int .i64 d ∧ vy = .int .i64 y) (fun vd _ => (intOf vd).toNat)
  case atStart => exact ⟨n, 2000, by omega, by omega, by omega, by omega, hide (by rw [fd_2000]; omega), rfl, rfl⟩
  case round =>
    obtain ⟨d, y, hd, hdn, hy1, hy2, hs, rfl, rfl⟩ := hrel
    have hl := lp_bd y
    by_cases hlt : 365 + lp y ≤ d
    · go_wp2_with (go_at_call 98; refine (yearI _ (by omega) (by omega) _).mono ?_; rintro e w' ⟨rfl, rfl⟩)
      go_round
      case rel =>
        have a := hs.out
        have b := fd_succ y
        refine ⟨_, y + 1, by omega, by omega, by omega, fd_year (by omega) (by omega), hide (by omega), rfl, rfl⟩
      case measure => simp [intOf]; omega
    · have hdim : d < 365 + lp y := by omega
      go_wp2_with (go_at_call 98; refine (yearI _ (by omega) (by omega) _).mono ?_; rintro e w' ⟨rfl, rfl⟩)
      go_loop [0, 6] (fun vd vm => ∃ c m : Int, 0 ≤ c ∧ c ≤ d ∧ 1 ≤ m ∧ m ≤ 12 ∧ Hid (cum y m + c = d) ∧ vd = .int .i64 c ∧ vm = .int .i64 m) (fun vd _ => (intOf vd).toNat)
      case atStart => exact ⟨d, 1, by omega, by omega, by omega, by omega, hide (by rw [cum_1]; omega), rfl, rfl⟩
      case round =>
        obtain ⟨c, m, hc, hcd, hm1, hm2, hs', rfl, rfl⟩ := hrel
        obtain ⟨db1, db2⟩ := dim_bd y m
        by_cases hlt' : dim y m ≤ c
        · go_wp2_with (go_at_call 87; refine (monthI _ _ (by omega) (by omega) (by omega) (by omega) _).mono ?_; rintro e w' ⟨rfl, rfl⟩)
          go_round
          case rel =>
            have a := hs'.out
            have b := cum_succ y m hm1 hm2
            refine ⟨_, m + 1, by omega, by omega, by omega, ?_, hide (by omega), rfl, rfl⟩
            by_cases e : m = 12
            · subst e
              rw [show (12 : Int) + 1 = 13 by omega, cum_13] at b
              omega
            · omega
          case measure => simp [intOf]; omega
        · go_wp2_with (go_at_call 87; refine (monthI _ _ (by omega) (by omega) (by omega) (by omega) _).mono ?_; rintro e w' ⟨rfl, rfl⟩)
          go_ret3
          exact ⟨y, m, c + 1, ⟨hy1, hy2, hm1, hm2, by omega, by omega, by have := hs.out; have := hs'.out; unfold num; omega⟩, rfl, rfl⟩
theorem numI (y m d : Int) (hy1 : 2000 ≤ y) (hy2 : y ≤ 2273) (hm1 : 1 ≤ m) (hm2 : m ≤ 12) (hd1 : -1000000 ≤ d) (hd2 : d ≤ 1000000) (w : World) :
    Calls Tryd.prog 88 #[.int .i64 y, .int .i64 m, .int .i64 d] w fun e w' => e = .returned (.int .i64 (num y m d)) ∧ w = w' := by
  have hf := fd_lo y hy1
  go_enter Tryd.func88, Tryd.ntmps88
  go_wp2_with (go_at_call 104; refine (firstI _ (by omega) (by omega) _).mono ?_; rintro e w' ⟨rfl, rfl⟩)
  go_loop [7, 8] (fun vo vm => ∃ o k : Int, 1 ≤ k ∧ k ≤ m ∧ Hid (o = fd y + (d - 1) + cum y k) ∧ vo = .int .i64 o ∧ vm = .int .i64 k) (fun _ vm => (m - intOf vm).toNat)
  case atStart => exact ⟨fd y + d - 1, 1, by omega, by omega, hide (by rw [cum_1]; omega), rfl, rfl⟩
  case round =>
    obtain ⟨o, k, hk1, hk2, ho, rfl, rfl⟩ := hrel
    obtain ⟨cb1, cb2⟩ := cum_bd y k hk1 (by omega)
    have ho1 : o ≤ 366 * (y - 2000) + d + 366 := by have := ho.out; omega
    have ho2 : d - 1 ≤ o := by have := ho.out; omega
    by_cases hlt : k < m
    · obtain ⟨db1, db2⟩ := dim_bd y k
      go_wp2_with (go_at_call 87; refine (monthI _ _ (by omega) (by omega) (by omega) (by omega) _).mono ?_; rintro e w' ⟨rfl, rfl⟩)
      go_round
      case rel =>
        refine ⟨_, k + 1, by omega, by omega, hide ?_, rfl, rfl⟩
        have := ho.out
        have a := cum_succ y k hk1 (by omega)
        omega
      case measure => simp [intOf]; omega
    · obtain rfl : k = m := by omega
      go_wp2
      go_ret
      exact ⟨ret_int' (by have := ho.out; unfold num; omega), rfl⟩
/-- the day of its year -/
def DoyBack (n : Int) (w : World) (e : Ending) (w' : World) : Prop := ∃ y m d : Int, IsDate n y m d ∧ e = .returned (.int .i64 (n - fd y + 1)) ∧ w = w'
theorem doyI (n : Int) (h0 : 0 ≤ n) (h1 : n ≤ 99999) (w : World) : Calls Tryd.prog 89 #[.int .i64 n] w (DoyBack n w) := by
  go_enter Tryd.func89, Tryd.ntmps89
  go_wp2_with (go_at_call 74; refine (dateI _ h0 h1 _).mono ?_; rintro e w' ⟨y, m, d, hd, rfl, rfl⟩)
  have Hd := hide hd
  obtain ⟨hy1, hy2, -, -, -, -, -⟩ := hd
  have hf := fd_lo y hy1
  go_wp2_with (go_at_call 104; refine (firstI _ (by omega) (by omega) _).mono ?_; rintro e w' ⟨rfl, rfl⟩)
  go_ret
  exact ⟨y, m, d, Hd.out, rfl, rfl⟩
end Go.Proofs.YtphlbpailmdndaaDoor
