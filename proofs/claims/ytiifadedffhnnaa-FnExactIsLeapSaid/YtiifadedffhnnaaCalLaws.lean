--%!
/- The walks of the calendar's laws that the seat has: each returns true. -/
import Derived.Test.YtiifadedffhnnaaCal
namespace Go.Proofs.Ytiifadedffhnnaa
open Go.ChangeShapes Go.WideShapes Go.ChangeAt Go.RowKit
set_option linter.unusedVariables false
set_option maxHeartbeats 1000000
theorem fnExactIsLeap_walk (y : Int) (h0 : -9223372036854775808 ≤ y) (h1 : y ≤ 9223372036854775807) (w : World) :
    Calls Try.prog 3 #[.int .i64 y] w fun e w' => e = .returned (.bool true) ∧ Below w.heap.size w w' := by
  cases hy : inB y 2000 2273
  · go_enter Try.func3, Try.ntmps3
    go_wp2_with (first | (go_at_call 29; refine (inS _ _ _ _).mono ?_; rintro e w' ⟨rfl, rfl⟩) | (go_at_call 36; refine (inI _ _ _ _).mono ?_; rintro e w' ⟨rfl, rfl⟩) | go_in)
    go_ret
    exact ⟨rfl, Below.refl _ _⟩
  · obtain ⟨y1, y2⟩ := (inB_iff _ _ _).1 hy
    go_enter Try.func3, Try.ntmps3
    go_wp2_with (first | (go_at_call 29; refine (inS _ _ _ _).mono ?_; rintro e w' ⟨rfl, rfl⟩) | (go_at_call 36; refine (inI _ _ _ _).mono ?_; rintro e w' ⟨rfl, rfl⟩) | (go_at_call 25; refine (leapS _ (by omega) (by omega) _).mono ?_; rintro e w' ⟨rfl, rfl⟩) | (go_at_call 11; refine (leapI _ (by omega) (by omega) _).mono ?_; rintro e w' ⟨rfl, rfl⟩) | go_in)
    go_ret
    exact ⟨rfl, Below.refl _ _⟩
theorem fnExactWeekdayOf_walk (n : Int) (h0 : -9223372036854775808 ≤ n) (h1 : n ≤ 9223372036854775807) (w : World) :
    Calls Try.prog 4 #[.int .i64 n] w fun e w' => e = .returned (.bool true) ∧ Below w.heap.size w w' := by
  cases hy : inB n 0 99999
  · go_enter Try.func4, Try.ntmps4
    go_wp2_with (first | (go_at_call 29; refine (inS _ _ _ _).mono ?_; rintro e w' ⟨rfl, rfl⟩) | (go_at_call 36; refine (inI _ _ _ _).mono ?_; rintro e w' ⟨rfl, rfl⟩) | go_in)
    go_ret
    exact ⟨rfl, Below.refl _ _⟩
  · obtain ⟨y1, y2⟩ := (inB_iff _ _ _).1 hy
    go_enter Try.func4, Try.ntmps4
    go_wp2_with (first | (go_at_call 29; refine (inS _ _ _ _).mono ?_; rintro e w' ⟨rfl, rfl⟩) | (go_at_call 36; refine (inI _ _ _ _).mono ?_; rintro e w' ⟨rfl, rfl⟩) | go_in)
    go_ret
    exact ⟨rfl, Below.refl _ _⟩
theorem fnExactMonthDays_walk (y : Int) (h0 : -9223372036854775808 ≤ y) (h1 : y ≤ 9223372036854775807) (m : Int) (h2 : -9223372036854775808 ≤ m) (h3 : m ≤ 9223372036854775807) (w : World) :
    Calls Try.prog 5 #[.int .i64 y, .int .i64 m] w fun e w' => e = .returned (.bool true) ∧ Below w.heap.size w w' := by
  cases hy : inB y 2000 2273
  · go_enter Try.func5, Try.ntmps5
    go_wp2_with (first | (go_at_call 29; refine (inS _ _ _ _).mono ?_; rintro e w' ⟨rfl, rfl⟩) | (go_at_call 36; refine (inI _ _ _ _).mono ?_; rintro e w' ⟨rfl, rfl⟩) | go_in)
    go_ret
    exact ⟨rfl, Below.refl _ _⟩
  · cases hm : inB m 1 12
    · go_enter Try.func5, Try.ntmps5
      go_wp2_with (first | (go_at_call 29; refine (inS _ _ _ _).mono ?_; rintro e w' ⟨rfl, rfl⟩) | (go_at_call 36; refine (inI _ _ _ _).mono ?_; rintro e w' ⟨rfl, rfl⟩) | go_in)
      go_ret
      exact ⟨rfl, Below.refl _ _⟩
    · obtain ⟨y1, y2⟩ := (inB_iff _ _ _).1 hy
      obtain ⟨m1, m2⟩ := (inB_iff _ _ _).1 hm
      go_enter Try.func5, Try.ntmps5
      go_wp2_with (first | (go_at_call 29; refine (inS _ _ _ _).mono ?_; rintro e w' ⟨rfl, rfl⟩) | (go_at_call 36; refine (inI _ _ _ _).mono ?_; rintro e w' ⟨rfl, rfl⟩) | (go_at_call 30; refine (daysS _ _ (by omega) (by omega) (by omega) (by omega) _).mono ?_; rintro e w' ⟨rfl, rfl⟩) | (go_at_call 32; refine (monthI _ _ (by omega) (by omega) (by omega) (by omega) _).mono ?_; rintro e w' ⟨rfl, rfl⟩) | go_in)
      go_ret
      exact ⟨rfl, Below.refl _ _⟩
theorem fnExactDateOf_walk (n : Int) (h0 : -9223372036854775808 ≤ n) (h1 : n ≤ 9223372036854775807) (w : World) :
    Calls Try.prog 6 #[.int .i64 n] w fun e w' => e = .returned (.bool true) ∧ Below w.heap.size w w' := by
  cases hy : inB n 0 99999
  · go_enter Try.func6, Try.ntmps6
    go_wp2_with (first | (go_at_call 29; refine (inS _ _ _ _).mono ?_; rintro e w' ⟨rfl, rfl⟩) | (go_at_call 36; refine (inI _ _ _ _).mono ?_; rintro e w' ⟨rfl, rfl⟩) | go_in)
    go_ret
    exact ⟨rfl, Below.refl _ _⟩
  · obtain ⟨n1, n2⟩ := (inB_iff _ _ _).1 hy
    go_enter Try.func6, Try.ntmps6
    go_wp2_with (first | (go_at_call 29; refine (inS _ _ _ _).mono ?_; rintro e w' ⟨rfl, rfl⟩) | (go_at_call 36; refine (inI _ _ _ _).mono ?_; rintro e w' ⟨rfl, rfl⟩) | (go_at_call 33; refine (dateS _ (by omega) (by omega) _).mono ?_; rintro e w' ⟨y, m, d, hd, rfl, rfl⟩) | (go_at_call 34; refine (dateI _ (by omega) (by omega) _).mono ?_; rintro e w' ⟨y', m', d', hd', rfl, rfl⟩; obtain ⟨rfl, rfl, rfl⟩ := isDate_unique hd hd') | go_in)
    go_ret
    exact ⟨rfl, Below.refl _ _⟩
theorem dayOfS_no (y m d : Int) (h : ¬ (2000 ≤ y ∧ y ≤ 2273 ∧ 1 ≤ m ∧ m ≤ 12 ∧ 1 ≤ d ∧ d ≤ dim y m)) (w : World) :
    Calls Try.prog 18 #[.int .i64 y, .int .i64 m, .int .i64 d] w fun e w' => e = .returned (.tuple #[.int .i64 0, .int .i64 2]) ∧ w = w' := by
  have H := hide h
  clear h
  go_enter Try.func18, Try.ntmps18
  go_wp2_with (go_at_call 35; refine (findS_no _ _ _ H.out _).mono ?_; rintro e w' ⟨rfl, rfl⟩)
  go_ret2
  exact ⟨rfl, rfl⟩
theorem dayOfS_yes (y m d : Int) (h1 : 2000 ≤ y) (h2 : y ≤ 2273) (h3 : 1 ≤ m) (h4 : m ≤ 12) (h5 : 1 ≤ d) (h6 : d ≤ dim y m) (w : World) :
    Calls Try.prog 18 #[.int .i64 y, .int .i64 m, .int .i64 d] w fun e w' => e = .returned (if num y m d ≤ 99999 then .tuple #[.int .i64 (num y m d), .int .i64 0] else .tuple #[.int .i64 0, .int .i64 2]) ∧ w = w' := by
  by_cases hn : num y m d ≤ 99999
  · have d1 : decide (num y m d ≤ 99999) = true := by simp; omega
    rw [if_pos hn]
    go_enter Try.func18, Try.ntmps18
    go_wp2_with (go_at_call 35; refine (findS_yes _ _ _ h1 h2 h3 h4 h5 h6 _).mono ?_; rintro e w' ⟨rfl, rfl⟩)
    go_ret2
    exact ⟨rfl, rfl⟩
  · have d1 : decide (num y m d ≤ 99999) = false := by simp; omega
    rw [if_neg hn]
    go_enter Try.func18, Try.ntmps18
    go_wp2_with (go_at_call 35; refine (findS_yes _ _ _ h1 h2 h3 h4 h5 h6 _).mono ?_; rintro e w' ⟨rfl, rfl⟩)
    go_ret2
    exact ⟨rfl, rfl⟩
theorem dayOfI_no (y m d : Int) (h : ¬ (2000 ≤ y ∧ y ≤ 2273 ∧ 1 ≤ m ∧ m ≤ 12 ∧ 1 ≤ d ∧ d ≤ dim y m)) (w : World) :
    Calls Try.prog 19 #[.int .i64 y, .int .i64 m, .int .i64 d] w fun e w' => e = .returned (.tuple #[.int .i64 0, .int .i64 2]) ∧ w = w' := by
  have H := hide h
  clear h
  cases hy : inB y 2000 2273
  · go_enter Try.func19, Try.ntmps19
    go_wp2_with (first | (go_at_call 29; refine (inS _ _ _ _).mono ?_; rintro e w' ⟨rfl, rfl⟩) | (go_at_call 36; refine (inI _ _ _ _).mono ?_; rintro e w' ⟨rfl, rfl⟩) | go_in)
    go_ret2
    exact ⟨rfl, rfl⟩
  · cases hm : inB m 1 12
    · go_enter Try.func19, Try.ntmps19
      go_wp2_with (first | (go_at_call 29; refine (inS _ _ _ _).mono ?_; rintro e w' ⟨rfl, rfl⟩) | (go_at_call 36; refine (inI _ _ _ _).mono ?_; rintro e w' ⟨rfl, rfl⟩) | go_in)
      go_ret2
      exact ⟨rfl, rfl⟩
    · obtain ⟨y1, y2⟩ := (inB_iff _ _ _).1 hy
      obtain ⟨m1, m2⟩ := (inB_iff _ _ _).1 hm
      have hd : inB d 1 (dim y m) = false := inB_false (fun k => H.out ⟨y1, y2, m1, m2, k.1, k.2⟩)
      go_enter Try.func19, Try.ntmps19
      go_wp2_with (first | (go_at_call 29; refine (inS _ _ _ _).mono ?_; rintro e w' ⟨rfl, rfl⟩) | (go_at_call 36; refine (inI _ _ _ _).mono ?_; rintro e w' ⟨rfl, rfl⟩) | (go_at_call 32; refine (monthI _ _ (by omega) (by omega) (by omega) (by omega) _).mono ?_; rintro e w' ⟨rfl, rfl⟩) | go_in)
      go_ret2
      exact ⟨rfl, rfl⟩
theorem dayOfI_yes (y m d : Int) (h1 : 2000 ≤ y) (h2 : y ≤ 2273) (h3 : 1 ≤ m) (h4 : m ≤ 12) (h5 : 1 ≤ d) (h6 : d ≤ dim y m) (w : World) :
    Calls Try.prog 19 #[.int .i64 y, .int .i64 m, .int .i64 d] w fun e w' => e = .returned (if num y m d ≤ 99999 then .tuple #[.int .i64 (num y m d), .int .i64 0] else .tuple #[.int .i64 0, .int .i64 2]) ∧ w = w' := by
  obtain ⟨db1, db2⟩ := dim_bd y m
  have hy := inB_true h1 h2
  have hm := inB_true h3 h4
  have hd := inB_true h5 h6
  obtain ⟨n1, n2⟩ := num_bd h1 h2 h3 h4 h5 h6
  by_cases hn : num y m d ≤ 99999
  · have hN := inB_true n1 hn
    rw [if_pos hn]
    go_enter Try.func19, Try.ntmps19
    go_wp2_with (first | (go_at_call 29; refine (inS _ _ _ _).mono ?_; rintro e w' ⟨rfl, rfl⟩) | (go_at_call 36; refine (inI _ _ _ _).mono ?_; rintro e w' ⟨rfl, rfl⟩) | (go_at_call 32; refine (monthI _ _ (by omega) (by omega) (by omega) (by omega) _).mono ?_; rintro e w' ⟨rfl, rfl⟩) | (go_at_call 37; refine (numI _ _ _ (by omega) (by omega) (by omega) (by omega) (by omega) (by omega) _).mono ?_; rintro e w' ⟨rfl, rfl⟩) | go_in)
    go_ret2
    exact ⟨rfl, rfl⟩
  · have hN : inB (num y m d) 0 99999 = false := inB_false (fun k => hn k.2)
    rw [if_neg hn]
    go_enter Try.func19, Try.ntmps19
    go_wp2_with (first | (go_at_call 29; refine (inS _ _ _ _).mono ?_; rintro e w' ⟨rfl, rfl⟩) | (go_at_call 36; refine (inI _ _ _ _).mono ?_; rintro e w' ⟨rfl, rfl⟩) | (go_at_call 32; refine (monthI _ _ (by omega) (by omega) (by omega) (by omega) _).mono ?_; rintro e w' ⟨rfl, rfl⟩) | (go_at_call 37; refine (numI _ _ _ (by omega) (by omega) (by omega) (by omega) (by omega) (by omega) _).mono ?_; rintro e w' ⟨rfl, rfl⟩) | go_in)
    go_ret2
    exact ⟨rfl, rfl⟩
theorem fnExactDayOf_walk (y : Int) (h0 : -9223372036854775808 ≤ y) (h1 : y ≤ 9223372036854775807) (m : Int) (h2 : -9223372036854775808 ≤ m) (h3 : m ≤ 9223372036854775807) (d : Int) (h4 : -9223372036854775808 ≤ d) (h5 : d ≤ 9223372036854775807) (w : World) :
    Calls Try.prog 7 #[.int .i64 y, .int .i64 m, .int .i64 d] w fun e w' => e = .returned (.bool true) ∧ Below w.heap.size w w' := by
  by_cases h : 2000 ≤ y ∧ y ≤ 2273 ∧ 1 ≤ m ∧ m ≤ 12 ∧ 1 ≤ d ∧ d ≤ dim y m
  · obtain ⟨a1, a2, a3, a4, a5, a6⟩ := h
    by_cases hn : num y m d ≤ 99999
    · go_enter Try.func7, Try.ntmps7
      go_wp2_with (first | (go_at_call 18; refine (dayOfS_yes _ _ _ a1 a2 a3 a4 a5 a6 _).mono ?_; rw [if_pos hn]; rintro e w' ⟨rfl, rfl⟩) | (go_at_call 19; refine (dayOfI_yes _ _ _ a1 a2 a3 a4 a5 a6 _).mono ?_; rw [if_pos hn]; rintro e w' ⟨rfl, rfl⟩))
      go_ret
      exact ⟨rfl, Below.refl _ _⟩
    · go_enter Try.func7, Try.ntmps7
      go_wp2_with (first | (go_at_call 18; refine (dayOfS_yes _ _ _ a1 a2 a3 a4 a5 a6 _).mono ?_; rw [if_neg (by omega)]; rintro e w' ⟨rfl, rfl⟩) | (go_at_call 19; refine (dayOfI_yes _ _ _ a1 a2 a3 a4 a5 a6 _).mono ?_; rw [if_neg (by omega)]; rintro e w' ⟨rfl, rfl⟩))
      go_ret
      exact ⟨rfl, Below.refl _ _⟩
  · have H := hide h
    clear h
    go_enter Try.func7, Try.ntmps7
    go_wp2_with (first | (go_at_call 18; refine (dayOfS_no _ _ _ H.out _).mono ?_; rintro e w' ⟨rfl, rfl⟩) | (go_at_call 19; refine (dayOfI_no _ _ _ H.out _).mono ?_; rintro e w' ⟨rfl, rfl⟩))
    go_ret
    exact ⟨rfl, Below.refl _ _⟩
theorem numS_first (y : Int) (hy1 : 2000 ≤ y) (hy2 : y ≤ 2280) (w : World) :
    Calls Try.prog 38 #[.int .i64 y, .int .i64 1, .int .i64 1] w fun e w' => e = .returned (.int .i64 (fd y)) ∧ w = w' :=
  (numS y 1 1 hy1 hy2 (by omega) (by omega) (by omega) (by omega) w).mono fun e w' ⟨he, hw⟩ => ⟨he.trans (ret_int (by unfold num; rw [cum_1]; omega)), hw⟩
theorem doyS (n : Int) (h0 : 0 ≤ n) (h1 : n ≤ 99999) (w : World) : Calls Try.prog 20 #[.int .i64 n] w fun e w' => ∃ y m d : Int, IsDate n y m d ∧ e = .returned (.tuple #[.int .i64 (n - fd y + 1), .int .i64 0]) ∧ w = w' := by
  have hy := inB_true h0 h1
  go_enter Try.func20, Try.ntmps20
  go_wp2_with (first | (go_at_call 29; refine (inS _ _ _ _).mono ?_; rintro e w' ⟨rfl, rfl⟩) | (go_at_call 36; refine (inI _ _ _ _).mono ?_; rintro e w' ⟨rfl, rfl⟩) | (go_at_call 27; go_in) | (go_at_call 33; refine (dateS _ (by omega) (by omega) _).mono ?_; rintro e w' ⟨y, m, d, hd, rfl, rfl⟩))
  have Hd := hide hd
  obtain ⟨y1, y2, -, -, -, -, -⟩ := hd
  have hf := fd_lo y y1
  go_wp2_with (go_at_call 38; refine (numS_first _ (by omega) (by omega) _).mono ?_; rintro e w' ⟨rfl, rfl⟩)
  go_ret2
  exact ⟨y, m, d, Hd.out, rfl, rfl⟩
theorem fnExactDayOfYear_walk (n : Int) (h0 : -9223372036854775808 ≤ n) (h1 : n ≤ 9223372036854775807) (w : World) :
    Calls Try.prog 8 #[.int .i64 n] w fun e w' => e = .returned (.bool true) ∧ Below w.heap.size w w' := by
  cases hy : inB n 0 99999
  · go_enter Try.func8, Try.ntmps8
    go_wp2_with (first | (go_at_call 29; refine (inS _ _ _ _).mono ?_; rintro e w' ⟨rfl, rfl⟩) | (go_at_call 36; refine (inI _ _ _ _).mono ?_; rintro e w' ⟨rfl, rfl⟩) | go_in)
    go_ret
    exact ⟨rfl, Below.refl _ _⟩
  · obtain ⟨n1, n2⟩ := (inB_iff _ _ _).1 hy
    go_enter Try.func8, Try.ntmps8
    go_wp2_with (first | (go_at_call 29; refine (inS _ _ _ _).mono ?_; rintro e w' ⟨rfl, rfl⟩) | (go_at_call 36; refine (inI _ _ _ _).mono ?_; rintro e w' ⟨rfl, rfl⟩) | (go_at_call 20; refine (doyS _ (by omega) (by omega) _).mono ?_; rintro e w' ⟨y, m, d, hd, rfl, rfl⟩) | (go_at_call 39; refine (doyI _ (by omega) (by omega) _).mono ?_; rintro e w' ⟨y', m', d', hd', rfl, rfl⟩; obtain ⟨rfl, rfl, rfl⟩ := isDate_unique hd hd') | go_in)
    go_ret
    exact ⟨rfl, Below.refl _ _⟩
end Go.Proofs.Ytiifadedffhnnaa
