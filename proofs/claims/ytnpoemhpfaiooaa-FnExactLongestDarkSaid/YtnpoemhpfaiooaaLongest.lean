--%!
/- The walks of the law on the longest dark that the seat has: each returns true. Own work. -/
import Derived.Test.YtnpoemhpfaiooaaSeason
namespace Go.Proofs.Ytnpoemhpfaiooaa
open Go.ChangeShapes Go.WideShapes Go.ChangeAt Go.RowKit
set_option linter.unusedVariables false
set_option maxRecDepth 100000
set_option maxHeartbeats 4000000

theorem longD_bd (lat a : Int) (q : Nat) (h0 : 0 ≤ a) : (-1 ≤ (longD lat a q).2 ∧ (longD lat a q).2 ≤ 1440) ∧ a ≤ (longD lat a q).1 ∧ (longD lat a q).1 ≤ a + q := by
  induction q with
  | zero => simp [longD]
  | succ q ih =>
    have := darkV_bd lat (a + q)
    unfold longD
    split
    · simp only; omega
    · omega
theorem longD_yes {lat a : Int} {q : Nat} (h : (longD lat a q).2 < darkV lat (a + q)) : longD lat a (q + 1) = (a + q, darkV lat (a + q)) := if_pos h
theorem longD_no {lat a : Int} {q : Nat} (h : ¬ (longD lat a q).2 < darkV lat (a + q)) : longD lat a (q + 1) = longD lat a q := if_neg h
theorem longS (lat a c : Int) (l0 : -66 ≤ lat) (l1 : lat ≤ 66) (h0 : 0 ≤ a) (h1 : a ≤ 99999) (c0 : 1 ≤ c) (c1 : c ≤ 400) (k0 : inB lat (-66) 66 = true) (k1 : inB a 0 99999 = true) (k2 : inB c 1 400 = true) (k3 : inB (a + c - 1) 0 99999 = true) (w : World) :
    Calls Try.prog 23 #[.int .i64 lat, .int .i64 a, .int .i64 c] w fun e w' => e = .returned (.tuple #[.int .i64 (longD lat a c.toNat).1, .int .i64 (longD lat a c.toNat).2, .int .i64 0]) ∧ Below w.heap.size w w' := by
  obtain ⟨b0, b1⟩ := (inB_iff _ _ _).1 k3
  obtain ⟨z, rfl⟩ := Int.eq_ofNat_of_zero_le (show 0 ≤ c by omega)
  go_enter Try.func23, Try.ntmps23
  go_wp2_with (first | (go_at_call 32; refine (inS _ _ _ _).mono ?_; rintro e w' ⟨rfl, rfl⟩) | (go_at_call 49; refine (inI _ _ _ _).mono ?_; rintro e w' ⟨rfl, rfl⟩) | go_in)
  go_loopw [9, 10, 11] (fun vb vm vd wr => ∃ q : Nat, q ≤ z ∧ ∃ b m : Int, Hid (longD lat a q = (b, m)) ∧ vb = .int .i64 b ∧ vm = .int .i64 m ∧ vd = .int .i64 (a + q) ∧ Below w.heap.size w wr) (fun _ _ vd _ => (a + z - intOf vd).toNat)
  case atStart => exact ⟨0, by omega, a, -1, hide rfl, rfl, rfl, by simp, Below.refl _ _⟩
  case round =>
    obtain ⟨q, hqb, b, m, hbm, rfl, rfl, rfl, hbw⟩ := hrel
    have sb := longD_bd lat a q h0
    rw [hbm.out] at sb
    simp only at sb
    have db := darkV_bd lat (a + q)
    by_cases hq3 : q < z
    · by_cases hlt : m < darkV lat (a + q)
      · have H := hide (longD_yes (lat := lat) (a := a) (q := q) (by rw [hbm.out]; exact hlt))
        go_wp2_with (go_at_call 43; refine (darkS' lat _ (by omega) (by omega) (by omega) (by omega) _).mono ?_; rintro e' w1 ⟨rfl, hb1⟩)
        go_roundw
        case rel => (repeat apply Exists.intro); refine And.intro ?_ rfl; exact ⟨q + 1, by omega, _, _, H, rfl, rfl, by go_num, below_next (w0 := w) hb1 hbw⟩
        case measure => simp [intOf]; omega
      · have H := hide ((longD_no (lat := lat) (a := a) (q := q) (by rw [hbm.out]; exact hlt)).trans hbm.out)
        go_wp2_with (go_at_call 43; refine (darkS' lat _ (by omega) (by omega) (by omega) (by omega) _).mono ?_; rintro e' w1 ⟨rfl, hb1⟩)
        go_roundw
        case rel => (repeat apply Exists.intro); refine And.intro ?_ rfl; exact ⟨q + 1, by omega, _, _, H, rfl, rfl, by go_num, below_next (w0 := w) hb1 hbw⟩
        case measure => simp [intOf]; omega
    · obtain rfl : q = z := by omega
      go_wp2
      go_returns
      exact ⟨by have e := hbm.out; rw [show ((q : Int)).toNat = q from rfl, e]; rfl, hbw⟩
theorem longI (lat a c : Int) (l0 : -66 ≤ lat) (l1 : lat ≤ 66) (h0 : 0 ≤ a) (h1 : a ≤ 99999) (c0 : 1 ≤ c) (c1 : c ≤ 400) (k0 : inB lat (-66) 66 = true) (k1 : inB a 0 99999 = true) (k2 : inB c 1 400 = true) (k3 : inB (a + c - 1) 0 99999 = true) (w : World) :
    Calls Try.prog 24 #[.int .i64 lat, .int .i64 a, .int .i64 c] w fun e w' => e = .returned (.tuple #[.int .i64 (longD lat a c.toNat).1, .int .i64 (longD lat a c.toNat).2, .int .i64 0]) ∧ Below w.heap.size w w' := by
  obtain ⟨b0, b1⟩ := (inB_iff _ _ _).1 k3
  obtain ⟨z, rfl⟩ := Int.eq_ofNat_of_zero_le (show 0 ≤ c by omega)
  go_enter Try.func24, Try.ntmps24
  go_wp2_with (first | (go_at_call 32; refine (inS _ _ _ _).mono ?_; rintro e w' ⟨rfl, rfl⟩) | (go_at_call 49; refine (inI _ _ _ _).mono ?_; rintro e w' ⟨rfl, rfl⟩) | go_in)
  go_loopw [10, 11, 12] (fun vb vm vd wr => ∃ q : Nat, q ≤ z ∧ ∃ b m : Int, Hid (longD lat a q = (b, m)) ∧ vb = .int .i64 b ∧ vm = .int .i64 m ∧ vd = .int .i64 (a + q) ∧ Below w.heap.size w wr) (fun _ _ vd _ => (a + z - intOf vd).toNat)
  case atStart => exact ⟨0, by omega, a, -1, hide rfl, rfl, rfl, by simp, Below.refl _ _⟩
  case round =>
    obtain ⟨q, hqb, b, m, hbm, rfl, rfl, rfl, hbw⟩ := hrel
    have sb := longD_bd lat a q h0
    rw [hbm.out] at sb
    simp only at sb
    have db := darkV_bd lat (a + q)
    by_cases hq3 : q < z
    · by_cases hlt : m < darkV lat (a + q)
      · have H := hide (longD_yes (lat := lat) (a := a) (q := q) (by rw [hbm.out]; exact hlt))
        go_wp2_with (go_at_call 41; refine (timesI' lat _ (by omega) (by omega) (by omega) (by omega) _).mono ?_; rintro e' w1 ⟨r, e, rfl, hb1⟩)
        go_roundw
        case rel => (repeat apply Exists.intro); refine And.intro ?_ rfl; exact ⟨q + 1, by omega, _, _, H, rfl, rfl, by go_num, below_next (w0 := w) hb1 hbw⟩
        case measure => simp [intOf]; omega
      · have H := hide ((longD_no (lat := lat) (a := a) (q := q) (by rw [hbm.out]; exact hlt)).trans hbm.out)
        go_wp2_with (go_at_call 41; refine (timesI' lat _ (by omega) (by omega) (by omega) (by omega) _).mono ?_; rintro e' w1 ⟨r, e, rfl, hb1⟩)
        go_roundw
        case rel => (repeat apply Exists.intro); refine And.intro ?_ rfl; exact ⟨q + 1, by omega, _, _, H, rfl, rfl, by go_num, below_next (w0 := w) hb1 hbw⟩
        case measure => simp [intOf]; omega
    · obtain rfl : q = z := by omega
      go_wp2
      go_returns
      exact ⟨by have e := hbm.out; rw [show ((q : Int)).toNat = q from rfl, e]; rfl, hbw⟩
theorem fnExactLongestDark_walk (lat : Int) (_ : -9223372036854775808 ≤ lat) (_ : lat ≤ 9223372036854775807) (a : Int) (_ : -9223372036854775808 ≤ a) (_ : a ≤ 9223372036854775807) (c : Int) (_ : -9223372036854775808 ≤ c) (_ : c ≤ 9223372036854775807) (w : World) :
    Calls Try.prog 9 #[.int .i64 lat, .int .i64 a, .int .i64 c] w fun e w' => e = .returned (.bool true) ∧ Below w.heap.size w w' := by
  cases k0 : inB lat (-66) 66 <;> cases k1 : inB a 0 99999 <;> cases k2 : inB c 1 400
  rotate_left 7
  · obtain ⟨l0, l1⟩ := (inB_iff _ _ _).1 k0
    obtain ⟨a0, a1⟩ := (inB_iff _ _ _).1 k1
    obtain ⟨b0, b1⟩ := (inB_iff _ _ _).1 k2
    cases k3 : inB (a + c - 1) 0 99999
    · go_enter Try.func9, Try.ntmps9
      go_wp2_with (first | (go_at_call 32; refine (inS _ _ _ _).mono ?_; rintro e w' ⟨rfl, rfl⟩) | (go_at_call 49; refine (inI _ _ _ _).mono ?_; rintro e w' ⟨rfl, rfl⟩) | go_in)
      go_ret
      exact ⟨rfl, Below.refl _ _⟩
    · go_enter Try.func9, Try.ntmps9
      go_wp2_with (first | (go_at_call 32; refine (inS _ _ _ _).mono ?_; rintro e w' ⟨rfl, rfl⟩) | (go_at_call 49; refine (inI _ _ _ _).mono ?_; rintro e w' ⟨rfl, rfl⟩) | (go_at_call 23; refine (longS lat a c l0 l1 a0 a1 b0 b1 k0 k1 k2 k3 _).mono ?_; rintro e w1 ⟨rfl, hb1⟩; have hB1 := below_next (w0 := w) hb1 (by go_grown); clear hb1) | (go_at_call 24; refine (longI lat a c l0 l1 a0 a1 b0 b1 k0 k1 k2 k3 _).mono ?_; rintro e w1 ⟨rfl, hb1⟩; have hB1 := below_next (w0 := w) hb1 (by go_grown); clear hb1) | go_in)
      go_ret
      exact ⟨rfl, by go_grown⟩
  all_goals
    go_enter Try.func9, Try.ntmps9
    go_wp2_with (first | (go_at_call 32; refine (inS _ _ _ _).mono ?_; rintro e w' ⟨rfl, rfl⟩) | (go_at_call 49; refine (inI _ _ _ _).mono ?_; rintro e w' ⟨rfl, rfl⟩) | go_in)
    go_ret
    exact ⟨rfl, Below.refl _ _⟩
end Go.Proofs.Ytnpoemhpfaiooaa
