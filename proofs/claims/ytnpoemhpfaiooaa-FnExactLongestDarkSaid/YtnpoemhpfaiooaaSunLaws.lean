--%!
/- The walks of the laws on the times of a day that the seat has: each returns true. Own work. -/
import Derived.Test.YtnpoemhpfaiooaaSunDay
namespace Go.Proofs.Ytnpoemhpfaiooaa
open Go.ChangeShapes Go.WideShapes Go.ChangeAt Go.RowKit
set_option linter.unusedVariables false
set_option maxRecDepth 100000
set_option maxHeartbeats 4000000

theorem riseS_no (lat n r e : Int) (l0 : -66 ≤ lat) (l1 : lat ≤ 66) (h0 : 0 ≤ n) (h1 : n ≤ 99999) (hs : Span lat n r e) (hr : r = 1440) (w : World) :
    Calls Try.prog 39 #[.int .i64 lat, .int .i64 n] w fun e' w' => e' = .returned (.int .i64 (-1)) ∧ Below w.heap.size w w' :=
  (riseS lat n r e l0 l1 h0 h1 hs w).mono fun e' w' ⟨he, hb⟩ => ⟨he.trans (ret_int (if_pos hr)), hb⟩
theorem riseS_yes (lat n r e : Int) (l0 : -66 ≤ lat) (l1 : lat ≤ 66) (h0 : 0 ≤ n) (h1 : n ≤ 99999) (hs : Span lat n r e) (hr : ¬ r = 1440) (w : World) :
    Calls Try.prog 39 #[.int .i64 lat, .int .i64 n] w fun e' w' => e' = .returned (.int .i64 r) ∧ Below w.heap.size w w' :=
  (riseS lat n r e l0 l1 h0 h1 hs w).mono fun e' w' ⟨he, hb⟩ => ⟨he.trans (ret_int (if_neg hr)), hb⟩
theorem timesI_no (lat n r e : Int) (l0 : -66 ≤ lat) (l1 : lat ≤ 66) (h0 : 0 ≤ n) (h1 : n ≤ 99999) (hs : Span lat n r e) (hr : r = 1440) (w : World) :
    Calls Try.prog 41 #[.int .i64 lat, .int .i64 n] w fun e' w' => e' = .returned (.tuple #[.int .i64 (-1), .int .i64 e, .int .i64 1440]) ∧ Below w.heap.size w w' :=
  (timesI lat n r e l0 l1 h0 h1 hs w).mono fun e' w' ⟨he, hb⟩ => ⟨he.trans (tup3 (if_pos hr) rfl (by have := hs.2.2.2.2; omega)), hb⟩
theorem timesI_yes (lat n r e : Int) (l0 : -66 ≤ lat) (l1 : lat ≤ 66) (h0 : 0 ≤ n) (h1 : n ≤ 99999) (hs : Span lat n r e) (hr : ¬ r = 1440) (w : World) :
    Calls Try.prog 41 #[.int .i64 lat, .int .i64 n] w fun e' w' => e' = .returned (.tuple #[.int .i64 r, .int .i64 e, .int .i64 (r + 1440 - e)]) ∧ Below w.heap.size w w' :=
  (timesI lat n r e l0 l1 h0 h1 hs w).mono fun e' w' ⟨he, hb⟩ => ⟨he.trans (tup3 (if_neg hr) rfl rfl), hb⟩
theorem setS (lat n r e : Int) (l0 : -66 ≤ lat) (l1 : lat ≤ 66) (h0 : 0 ≤ n) (h1 : n ≤ 99999) (hs : Span lat n r e) (hr : ¬ r = 1440) (w : World) :
    Calls Try.prog 42 #[.int .i64 lat, .int .i64 n, .int .i64 r] w fun e' w' => e' = .returned (.int .i64 e) ∧ Below w.heap.size w w' := by
  obtain ⟨r0, r1, r2, hday, hc⟩ := hs
  by_cases hz : r = 0
  · have hd := (hday 1439 (by omega) (by omega)).2 (by omega)
    clear hday
    subst hz
    go_enter Try.func42, Try.ntmps42
    go_wp2_with fail
    refine (ofS lat n l0 l1 h0 h1 _).mono ?_
    rintro e' w1 ⟨rfl, hb1⟩
    have hy1 := hb1.size
    go_wp2_with fail
    refine (atS lat n w1.heap.size 1439 (by omega) (by omega) _ (by simp) (by go_simp) (by go_simp)).mono ?_
    rintro e' w2 ⟨rfl, hb2⟩
    have hB2 := below_next (w0 := w) hb2 (by go_grown)
    go_wp2
    go_ret
    exact ⟨ret_int (by omega), hB2⟩
  · clear hday
    go_enter Try.func42, Try.ntmps42
    go_wp2
    go_ret
    exact ⟨ret_int (by omega), Below.refl _ _⟩
theorem darkS (lat n r e : Int) (l0 : -66 ≤ lat) (l1 : lat ≤ 66) (h0 : 0 ≤ n) (h1 : n ≤ 99999) (hs : Span lat n r e) (w : World) :
    Calls Try.prog 43 #[.int .i64 lat, .int .i64 n] w fun e' w' => e' = .returned (.int .i64 (r + 1440 - e)) ∧ Below w.heap.size w w' := by
  have hs' := hide hs
  obtain ⟨r0, r1, r2, -, hc⟩ := hs
  by_cases hr : r = 1440
  · go_enter Try.func43, Try.ntmps43
    go_wp2_with (go_at_call 39; refine (riseS_no lat n r e l0 l1 h0 h1 hs'.out hr _).mono ?_; rintro e' w1 ⟨rfl, hb1⟩)
    go_ret
    exact ⟨ret_int (by omega), hb1⟩
  · go_enter Try.func43, Try.ntmps43
    go_wp2_with (first | (go_at_call 39; refine (riseS_yes lat n r e l0 l1 h0 h1 hs'.out hr _).mono ?_; rintro e' w1 ⟨rfl, hb1⟩; have hB1 := below_next (w0 := w) hb1 (by go_grown); clear hb1) | (go_at_call 42; refine (setS lat n r e l0 l1 h0 h1 hs'.out hr _).mono ?_; rintro e' w1 ⟨rfl, hb1⟩; have hB1 := below_next (w0 := w) hb1 (by go_grown); clear hb1))
    go_ret
    exact ⟨ret_int (by omega), by go_grown⟩
theorem fnExactSunrise_walk (lat : Int) (_ : -9223372036854775808 ≤ lat) (_ : lat ≤ 9223372036854775807) (n : Int) (_ : -9223372036854775808 ≤ n) (_ : n ≤ 9223372036854775807) (w : World) :
    Calls Try.prog 6 #[.int .i64 lat, .int .i64 n] w fun e w' => e = .returned (.bool true) ∧ Below w.heap.size w w' := by
  cases hl : inB lat (-66) 66
  · go_enter Try.func6, Try.ntmps6
    go_wp2_with (first | (go_at_call 32; refine (inS _ _ _ _).mono ?_; rintro e w' ⟨rfl, rfl⟩) | (go_at_call 49; refine (inI _ _ _ _).mono ?_; rintro e w' ⟨rfl, rfl⟩) | go_in)
    go_ret
    exact ⟨rfl, Below.refl _ _⟩
  · cases hn : inB n 0 99999
    · go_enter Try.func6, Try.ntmps6
      go_wp2_with (first | (go_at_call 32; refine (inS _ _ _ _).mono ?_; rintro e w' ⟨rfl, rfl⟩) | (go_at_call 49; refine (inI _ _ _ _).mono ?_; rintro e w' ⟨rfl, rfl⟩) | go_in)
      go_ret
      exact ⟨rfl, Below.refl _ _⟩
    · obtain ⟨n1, n2⟩ := (inB_iff _ _ _).1 hn
      obtain ⟨a1, a2⟩ := (inB_iff _ _ _).1 hl
      obtain ⟨r, e, hs⟩ := span_ex a1 a2 n1 n2
      have hs' := hide hs
      obtain ⟨r0, r1, r2, -, hc⟩ := hs
      by_cases hr : r = 1440
      · go_enter Try.func6, Try.ntmps6
        go_wp2_with (first | (go_at_call 32; refine (inS _ _ _ _).mono ?_; rintro e w' ⟨rfl, rfl⟩) | (go_at_call 49; refine (inI _ _ _ _).mono ?_; rintro e w' ⟨rfl, rfl⟩) | (go_at_call 41; refine (timesI_no lat n r e a1 a2 n1 n2 hs'.out hr _).mono ?_; rintro e' w1 ⟨rfl, hb1⟩; have hB1 := below_next (w0 := w) hb1 (by go_grown); clear hb1) | (go_at_call 39; refine (riseS_no lat n r e a1 a2 n1 n2 hs'.out hr _).mono ?_; rintro e' w1 ⟨rfl, hb1⟩; have hB1 := below_next (w0 := w) hb1 (by go_grown); clear hb1) | go_in)
        go_ret
        exact ⟨rfl, by go_grown⟩
      · go_enter Try.func6, Try.ntmps6
        go_wp2_with (first | (go_at_call 32; refine (inS _ _ _ _).mono ?_; rintro e w' ⟨rfl, rfl⟩) | (go_at_call 49; refine (inI _ _ _ _).mono ?_; rintro e w' ⟨rfl, rfl⟩) | (go_at_call 41; refine (timesI_yes lat n r e a1 a2 n1 n2 hs'.out hr _).mono ?_; rintro e' w1 ⟨rfl, hb1⟩; have hB1 := below_next (w0 := w) hb1 (by go_grown); clear hb1) | (go_at_call 39; refine (riseS_yes lat n r e a1 a2 n1 n2 hs'.out hr _).mono ?_; rintro e' w1 ⟨rfl, hb1⟩; have hB1 := below_next (w0 := w) hb1 (by go_grown); clear hb1) | go_in)
        go_ret
        exact ⟨rfl, by go_grown⟩
theorem fnExactSunset_walk (lat : Int) (_ : -9223372036854775808 ≤ lat) (_ : lat ≤ 9223372036854775807) (n : Int) (_ : -9223372036854775808 ≤ n) (_ : n ≤ 9223372036854775807) (w : World) :
    Calls Try.prog 7 #[.int .i64 lat, .int .i64 n] w fun e w' => e = .returned (.bool true) ∧ Below w.heap.size w w' := by
  cases hl : inB lat (-66) 66
  · go_enter Try.func7, Try.ntmps7
    go_wp2_with (first | (go_at_call 32; refine (inS _ _ _ _).mono ?_; rintro e w' ⟨rfl, rfl⟩) | (go_at_call 49; refine (inI _ _ _ _).mono ?_; rintro e w' ⟨rfl, rfl⟩) | go_in)
    go_ret
    exact ⟨rfl, Below.refl _ _⟩
  · cases hn : inB n 0 99999
    · go_enter Try.func7, Try.ntmps7
      go_wp2_with (first | (go_at_call 32; refine (inS _ _ _ _).mono ?_; rintro e w' ⟨rfl, rfl⟩) | (go_at_call 49; refine (inI _ _ _ _).mono ?_; rintro e w' ⟨rfl, rfl⟩) | go_in)
      go_ret
      exact ⟨rfl, Below.refl _ _⟩
    · obtain ⟨n1, n2⟩ := (inB_iff _ _ _).1 hn
      obtain ⟨a1, a2⟩ := (inB_iff _ _ _).1 hl
      obtain ⟨r, e, hs⟩ := span_ex a1 a2 n1 n2
      have hs' := hide hs
      obtain ⟨r0, r1, r2, -, hc⟩ := hs
      by_cases hr : r = 1440
      · go_enter Try.func7, Try.ntmps7
        go_wp2_with (first | (go_at_call 32; refine (inS _ _ _ _).mono ?_; rintro e w' ⟨rfl, rfl⟩) | (go_at_call 49; refine (inI _ _ _ _).mono ?_; rintro e w' ⟨rfl, rfl⟩) | (go_at_call 41; refine (timesI_no lat n r e a1 a2 n1 n2 hs'.out hr _).mono ?_; rintro e' w1 ⟨rfl, hb1⟩; have hB1 := below_next (w0 := w) hb1 (by go_grown); clear hb1) | (go_at_call 39; refine (riseS_no lat n r e a1 a2 n1 n2 hs'.out hr _).mono ?_; rintro e' w1 ⟨rfl, hb1⟩; have hB1 := below_next (w0 := w) hb1 (by go_grown); clear hb1) | go_in)
        go_ret
        exact ⟨rfl, by go_grown⟩
      · go_enter Try.func7, Try.ntmps7
        go_wp2_with (first | (go_at_call 32; refine (inS _ _ _ _).mono ?_; rintro e w' ⟨rfl, rfl⟩) | (go_at_call 49; refine (inI _ _ _ _).mono ?_; rintro e w' ⟨rfl, rfl⟩) | (go_at_call 41; refine (timesI_yes lat n r e a1 a2 n1 n2 hs'.out hr _).mono ?_; rintro e' w1 ⟨rfl, hb1⟩; have hB1 := below_next (w0 := w) hb1 (by go_grown); clear hb1) | (go_at_call 39; refine (riseS_yes lat n r e a1 a2 n1 n2 hs'.out hr _).mono ?_; rintro e' w1 ⟨rfl, hb1⟩; have hB1 := below_next (w0 := w) hb1 (by go_grown); clear hb1) | (go_at_call 42; refine (setS lat n r e a1 a2 n1 n2 hs'.out hr _).mono ?_; rintro e' w1 ⟨rfl, hb1⟩; have hB1 := below_next (w0 := w) hb1 (by go_grown); clear hb1) | go_in)
        go_ret
        exact ⟨rfl, by go_grown⟩
theorem darkS_no (lat n r e : Int) (l0 : -66 ≤ lat) (l1 : lat ≤ 66) (h0 : 0 ≤ n) (h1 : n ≤ 99999) (hs : Span lat n r e) (hr : r = 1440) (w : World) :
    Calls Try.prog 43 #[.int .i64 lat, .int .i64 n] w fun e' w' => e' = .returned (.int .i64 1440) ∧ Below w.heap.size w w' :=
  (darkS lat n r e l0 l1 h0 h1 hs w).mono fun e' w' ⟨he, hb⟩ => ⟨he.trans (ret_int (by have := hs.2.2.2.2; omega)), hb⟩
theorem fnExactDarkMinutes_walk (lat : Int) (_ : -9223372036854775808 ≤ lat) (_ : lat ≤ 9223372036854775807) (n : Int) (_ : -9223372036854775808 ≤ n) (_ : n ≤ 9223372036854775807) (w : World) :
    Calls Try.prog 8 #[.int .i64 lat, .int .i64 n] w fun e w' => e = .returned (.bool true) ∧ Below w.heap.size w w' := by
  cases hl : inB lat (-66) 66
  · go_enter Try.func8, Try.ntmps8
    go_wp2_with (first | (go_at_call 32; refine (inS _ _ _ _).mono ?_; rintro e w' ⟨rfl, rfl⟩) | (go_at_call 49; refine (inI _ _ _ _).mono ?_; rintro e w' ⟨rfl, rfl⟩) | go_in)
    go_ret
    exact ⟨rfl, Below.refl _ _⟩
  · cases hn : inB n 0 99999
    · go_enter Try.func8, Try.ntmps8
      go_wp2_with (first | (go_at_call 32; refine (inS _ _ _ _).mono ?_; rintro e w' ⟨rfl, rfl⟩) | (go_at_call 49; refine (inI _ _ _ _).mono ?_; rintro e w' ⟨rfl, rfl⟩) | go_in)
      go_ret
      exact ⟨rfl, Below.refl _ _⟩
    · obtain ⟨n1, n2⟩ := (inB_iff _ _ _).1 hn
      obtain ⟨a1, a2⟩ := (inB_iff _ _ _).1 hl
      obtain ⟨r, e, hs⟩ := span_ex a1 a2 n1 n2
      have hs' := hide hs
      obtain ⟨r0, r1, r2, -, hc⟩ := hs
      by_cases hr : r = 1440
      · go_enter Try.func8, Try.ntmps8
        go_wp2_with (first | (go_at_call 32; refine (inS _ _ _ _).mono ?_; rintro e w' ⟨rfl, rfl⟩) | (go_at_call 49; refine (inI _ _ _ _).mono ?_; rintro e w' ⟨rfl, rfl⟩) | (go_at_call 41; refine (timesI_no lat n r e a1 a2 n1 n2 hs'.out hr _).mono ?_; rintro e' w1 ⟨rfl, hb1⟩; have hB1 := below_next (w0 := w) hb1 (by go_grown); clear hb1) | (go_at_call 43; refine (darkS_no lat n r e a1 a2 n1 n2 hs'.out hr _).mono ?_; rintro e' w1 ⟨rfl, hb1⟩; have hB1 := below_next (w0 := w) hb1 (by go_grown); clear hb1) | go_in)
        go_ret
        exact ⟨rfl, by go_grown⟩
      · go_enter Try.func8, Try.ntmps8
        go_wp2_with (first | (go_at_call 32; refine (inS _ _ _ _).mono ?_; rintro e w' ⟨rfl, rfl⟩) | (go_at_call 49; refine (inI _ _ _ _).mono ?_; rintro e w' ⟨rfl, rfl⟩) | (go_at_call 41; refine (timesI_yes lat n r e a1 a2 n1 n2 hs'.out hr _).mono ?_; rintro e' w1 ⟨rfl, hb1⟩; have hB1 := below_next (w0 := w) hb1 (by go_grown); clear hb1) | (go_at_call 43; refine (darkS lat n r e a1 a2 n1 n2 hs'.out _).mono ?_; rintro e' w1 ⟨rfl, hb1⟩; have hB1 := below_next (w0 := w) hb1 (by go_grown); clear hb1) | go_in)
        go_ret
        exact ⟨rfl, by go_grown⟩
end Go.Proofs.Ytnpoemhpfaiooaa
