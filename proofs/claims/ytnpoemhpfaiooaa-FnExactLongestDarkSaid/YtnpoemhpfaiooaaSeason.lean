--%!
/- The walks of the laws on seasons that the seat has: each returns true. Own work. -/
import Derived.Test.YtnpoemhpfaiooaaSunLaws
namespace Go.Proofs.Ytnpoemhpfaiooaa
open Go.ChangeShapes Go.WideShapes Go.ChangeAt Go.RowKit
set_option linter.unusedVariables false
set_option maxRecDepth 100000
set_option maxHeartbeats 4000000

noncomputable def darkV (lat n : Int) : Int := open Classical in if h : ∃ r, ∃ e, Span lat n r e then Classical.choose h + 1440 - Classical.choose (Classical.choose_spec h) else 0
theorem darkV_bd (lat n : Int) : 0 ≤ darkV lat n ∧ darkV lat n ≤ 1440 := by
  unfold darkV
  split
  · rename_i h
    have := Classical.choose_spec (Classical.choose_spec h)
    obtain ⟨a, b, c, -, d⟩ := this
    omega
  · omega
theorem darkS' (lat n : Int) (l0 : -66 ≤ lat) (l1 : lat ≤ 66) (h0 : 0 ≤ n) (h1 : n ≤ 99999) (w : World) :
    Calls Try.prog 43 #[.int .i64 lat, .int .i64 n] w fun e' w' => e' = .returned (.int .i64 (darkV lat n)) ∧ Below w.heap.size w w' := by
  have h : ∃ r, ∃ e, Span lat n r e := span_ex l0 l1 h0 h1
  unfold darkV
  rw [dif_pos h]
  exact darkS lat n _ _ l0 l1 h0 h1 (Classical.choose_spec (Classical.choose_spec h)) w
theorem timesI' (lat n : Int) (l0 : -66 ≤ lat) (l1 : lat ≤ 66) (h0 : 0 ≤ n) (h1 : n ≤ 99999) (w : World) :
    Calls Try.prog 41 #[.int .i64 lat, .int .i64 n] w fun e' w' => ∃ r e, e' = .returned (.tuple #[.int .i64 r, .int .i64 e, .int .i64 (darkV lat n)]) ∧ Below w.heap.size w w' := by
  have h : ∃ r, ∃ e, Span lat n r e := span_ex l0 l1 h0 h1
  unfold darkV
  rw [dif_pos h]
  exact (timesI lat n _ _ l0 l1 h0 h1 (Classical.choose_spec (Classical.choose_spec h)) w).mono fun e' w' ⟨he, hb⟩ => ⟨_, _, he, hb⟩
noncomputable def sumD (lat a : Int) : Nat → Int
  | 0 => 0
  | q + 1 => sumD lat a q + darkV lat (a + q)
theorem sumD_bd (lat a : Int) (q : Nat) : 0 ≤ sumD lat a q ∧ sumD lat a q ≤ 1440 * q := by
  induction q with
  | zero => simp [sumD]
  | succ q ih => have := darkV_bd lat (a + q); unfold sumD; omega
/-- the first greatest, and how great -/
noncomputable def longD (lat a : Int) : Nat → Int × Int
  | 0 => (a, -1)
  | q + 1 => if (longD lat a q).2 < darkV lat (a + q) then (a + q, darkV lat (a + q)) else longD lat a q
theorem sumS (lat a c : Int) (l0 : -66 ≤ lat) (l1 : lat ≤ 66) (h0 : 0 ≤ a) (h1 : a ≤ 99999) (c0 : 1 ≤ c) (c1 : c ≤ 400) (k0 : inB lat (-66) 66 = true) (k1 : inB a 0 99999 = true) (k2 : inB c 1 400 = true) (k3 : inB (a + c - 1) 0 99999 = true) (w : World) :
    Calls Try.prog 25 #[.int .i64 lat, .int .i64 a, .int .i64 c] w fun e w' => e = .returned (.tuple #[.int .i64 (sumD lat a c.toNat), .int .i64 0]) ∧ Below w.heap.size w w' := by
  obtain ⟨b0, b1⟩ := (inB_iff _ _ _).1 k3
  obtain ⟨z, rfl⟩ := Int.eq_ofNat_of_zero_le (show 0 ≤ c by omega)
  go_enter Try.func25, Try.ntmps25
  go_wp2_with (first | (go_at_call 32; refine (inS _ _ _ _).mono ?_; rintro e w' ⟨rfl, rfl⟩) | (go_at_call 49; refine (inI _ _ _ _).mono ?_; rintro e w' ⟨rfl, rfl⟩) | go_in)
  go_loopw [8, 9] (fun vs vd wr => ∃ q : Nat, q ≤ z ∧ vs = .int .i64 (sumD lat a q) ∧ vd = .int .i64 (a + q) ∧ Below w.heap.size w wr) (fun _ vd _ => (a + z - intOf vd).toNat)
  case atStart => exact ⟨0, by omega, rfl, by simp, Below.refl _ _⟩
  case round =>
    obtain ⟨q, hqb, rfl, rfl, hbw⟩ := hrel
    have sb := sumD_bd lat a q
    have db := darkV_bd lat (a + q)
    by_cases hq3 : q < z
    · go_wp2_with (go_at_call 43; refine (darkS' lat _ (by omega) (by omega) (by omega) (by omega) _).mono ?_; rintro e' w1 ⟨rfl, hb1⟩)
      go_roundw
      case rel => (repeat apply Exists.intro); refine And.intro ?_ rfl; exact ⟨q + 1, by omega, rfl, by go_num, below_next (w0 := w) hb1 hbw⟩
      case measure => simp [intOf]; omega
    · obtain rfl : q = z := by omega
      go_wp2
      go_returns
      exact ⟨rfl, hbw⟩
theorem sumI (lat a c : Int) (l0 : -66 ≤ lat) (l1 : lat ≤ 66) (h0 : 0 ≤ a) (h1 : a ≤ 99999) (c0 : 1 ≤ c) (c1 : c ≤ 400) (k0 : inB lat (-66) 66 = true) (k1 : inB a 0 99999 = true) (k2 : inB c 1 400 = true) (k3 : inB (a + c - 1) 0 99999 = true) (w : World) :
    Calls Try.prog 26 #[.int .i64 lat, .int .i64 a, .int .i64 c] w fun e w' => e = .returned (.tuple #[.int .i64 (sumD lat a c.toNat), .int .i64 0]) ∧ Below w.heap.size w w' := by
  obtain ⟨b0, b1⟩ := (inB_iff _ _ _).1 k3
  obtain ⟨z, rfl⟩ := Int.eq_ofNat_of_zero_le (show 0 ≤ c by omega)
  go_enter Try.func26, Try.ntmps26
  go_wp2_with (first | (go_at_call 32; refine (inS _ _ _ _).mono ?_; rintro e w' ⟨rfl, rfl⟩) | (go_at_call 49; refine (inI _ _ _ _).mono ?_; rintro e w' ⟨rfl, rfl⟩) | go_in)
  go_loopw [9, 10] (fun vs vd wr => ∃ q : Nat, q ≤ z ∧ vs = .int .i64 (sumD lat a q) ∧ vd = .int .i64 (a + q) ∧ Below w.heap.size w wr) (fun _ vd _ => (a + z - intOf vd).toNat)
  case atStart => exact ⟨0, by omega, rfl, by simp, Below.refl _ _⟩
  case round =>
    obtain ⟨q, hqb, rfl, rfl, hbw⟩ := hrel
    have sb := sumD_bd lat a q
    have db := darkV_bd lat (a + q)
    by_cases hq3 : q < z
    · go_wp2_with (go_at_call 41; refine (timesI' lat _ (by omega) (by omega) (by omega) (by omega) _).mono ?_; rintro e' w1 ⟨r, e, rfl, hb1⟩)
      go_roundw
      case rel => (repeat apply Exists.intro); refine And.intro ?_ rfl; exact ⟨q + 1, by omega, rfl, by go_num, below_next (w0 := w) hb1 hbw⟩
      case measure => simp [intOf]; omega
    · obtain rfl : q = z := by omega
      go_wp2
      go_returns
      exact ⟨rfl, hbw⟩
theorem fnExactDarkSum_walk (lat : Int) (_ : -9223372036854775808 ≤ lat) (_ : lat ≤ 9223372036854775807) (a : Int) (_ : -9223372036854775808 ≤ a) (_ : a ≤ 9223372036854775807) (c : Int) (_ : -9223372036854775808 ≤ c) (_ : c ≤ 9223372036854775807) (w : World) :
    Calls Try.prog 10 #[.int .i64 lat, .int .i64 a, .int .i64 c] w fun e w' => e = .returned (.bool true) ∧ Below w.heap.size w w' := by
  cases k0 : inB lat (-66) 66 <;> cases k1 : inB a 0 99999 <;> cases k2 : inB c 1 400
  rotate_left 7
  · obtain ⟨l0, l1⟩ := (inB_iff _ _ _).1 k0
    obtain ⟨a0, a1⟩ := (inB_iff _ _ _).1 k1
    obtain ⟨b0, b1⟩ := (inB_iff _ _ _).1 k2
    cases k3 : inB (a + c - 1) 0 99999
    · go_enter Try.func10, Try.ntmps10
      go_wp2_with (first | (go_at_call 32; refine (inS _ _ _ _).mono ?_; rintro e w' ⟨rfl, rfl⟩) | (go_at_call 49; refine (inI _ _ _ _).mono ?_; rintro e w' ⟨rfl, rfl⟩) | go_in)
      go_ret
      exact ⟨rfl, Below.refl _ _⟩
    · go_enter Try.func10, Try.ntmps10
      go_wp2_with (first | (go_at_call 32; refine (inS _ _ _ _).mono ?_; rintro e w' ⟨rfl, rfl⟩) | (go_at_call 49; refine (inI _ _ _ _).mono ?_; rintro e w' ⟨rfl, rfl⟩) | (go_at_call 25; refine (sumS lat a c l0 l1 a0 a1 b0 b1 k0 k1 k2 k3 _).mono ?_; rintro e w1 ⟨rfl, hb1⟩; have hB1 := below_next (w0 := w) hb1 (by go_grown); clear hb1) | (go_at_call 26; refine (sumI lat a c l0 l1 a0 a1 b0 b1 k0 k1 k2 k3 _).mono ?_; rintro e w1 ⟨rfl, hb1⟩; have hB1 := below_next (w0 := w) hb1 (by go_grown); clear hb1) | go_in)
      go_ret
      exact ⟨rfl, by go_grown⟩
  all_goals
    go_enter Try.func10, Try.ntmps10
    go_wp2_with (first | (go_at_call 32; refine (inS _ _ _ _).mono ?_; rintro e w' ⟨rfl, rfl⟩) | (go_at_call 49; refine (inI _ _ _ _).mono ?_; rintro e w' ⟨rfl, rfl⟩) | go_in)
    go_ret
    exact ⟨rfl, Below.refl _ _⟩
end Go.Proofs.Ytnpoemhpfaiooaa
