--%!
/- The walks of the laws on points, names, quotients and lines that the seat has: each returns true. -/
import Derived.Test.YtgmkkmkmaamlnaaNums
namespace Go.Proofs.Ytgmkkmkmaamlnaa
open Go.ChangeShapes Go.WideShapes Go.ChangeAt Go.RowKit
set_option linter.unusedVariables false
theorem fnExactValidPoint_walk (x y : Int) (h0 : -9223372036854775808 ≤ x) (h1 : x ≤ 9223372036854775807) (h2 : -9223372036854775808 ≤ y) (h3 : y ≤ 9223372036854775807) (w : World) :
    Calls Try.prog 6 #[.agg #[.int .i64 x, .int .i64 y]] w fun e w' => e = .returned (.bool true) ∧ Below w.heap.size w w' := by
  go_enter Try.func6, Try.ntmps6
  go_wp2_with (first | (go_at_call 42; refine (okS _ _ _).mono ?_; rintro e w1 ⟨rfl, hb1⟩; have hB1 := below_next (w0 := w) hb1 (by go_grown); obtain ⟨hc1, hf1⟩ := bcell hb1; have hz1 := hB1.size; clear hb1) | (go_at_call 21; refine (okI _ _ _).mono ?_; rintro e w2 ⟨rfl, hb2⟩; have hB2 := below_next (w0 := w) hb2 (by go_grown); obtain ⟨hc2, hf2⟩ := bcell hb2; have hz2 := hB2.size; clear hb2) | go_in)
  go_ret
  exact ⟨rfl, by go_grown⟩
theorem fnExactDivRound_walk (a : Int) (h0 : -9223372036854775808 ≤ a) (h1 : a ≤ 9223372036854775807) (b : Int) (h2 : -9223372036854775808 ≤ b) (h3 : b ≤ 9223372036854775807) (w : World) :
    Calls Try.prog 12 #[.int .i64 a, .int .i64 b] w fun e w' => e = .returned (.bool true) ∧ Below w.heap.size w w' := by
  by_cases hb : b = 0
  · subst hb
    go_enter Try.func12, Try.ntmps12
    go_wp2_with (first | (go_at_call 40; refine (inS _ _ _ _).mono ?_; rintro e w' ⟨rfl, rfl⟩) | (go_at_call 43; refine (inI _ _ _ _).mono ?_; rintro e w' ⟨rfl, rfl⟩) | go_in)
    go_ret
    exact ⟨rfl, Below.refl _ _⟩
  · have hb' : (b == 0) = false := by simpa using hb
    cases ha : inB a (-1000000000000) 1000000000000
    · go_enter Try.func12, Try.ntmps12
      go_wp2_with (first | (go_at_call 40; refine (inS _ _ _ _).mono ?_; rintro e w' ⟨rfl, rfl⟩) | (go_at_call 43; refine (inI _ _ _ _).mono ?_; rintro e w' ⟨rfl, rfl⟩) | go_in)
      go_ret
      exact ⟨rfl, Below.refl _ _⟩
    · cases hc : inB b (-1000000000000) 1000000000000
      · go_enter Try.func12, Try.ntmps12
        go_wp2_with (first | (go_at_call 40; refine (inS _ _ _ _).mono ?_; rintro e w' ⟨rfl, rfl⟩) | (go_at_call 43; refine (inI _ _ _ _).mono ?_; rintro e w' ⟨rfl, rfl⟩) | go_in)
        go_ret
        exact ⟨rfl, Below.refl _ _⟩
      · obtain ⟨a1, a2⟩ := (inB_iff _ _ _).1 ha
        obtain ⟨b1, b2⟩ := (inB_iff _ _ _).1 hc
        go_enter Try.func12, Try.ntmps12
        go_wp2_with (first | (go_at_call 40; refine (inS _ _ _ _).mono ?_; rintro e w' ⟨rfl, rfl⟩) | (go_at_call 43; refine (inI _ _ _ _).mono ?_; rintro e w' ⟨rfl, rfl⟩) | (go_at_call 51; refine (divS _ _ (by omega) (by omega) (by omega) (by omega) hb _).mono ?_; rintro e w' ⟨rfl, rfl⟩) | (go_at_call 52; refine (divI _ _ (by omega) (by omega) (by omega) (by omega) hb _).mono ?_; rintro e w' ⟨rfl, rfl⟩) | go_in)
        go_ret
        exact ⟨rfl, Below.refl _ _⟩
theorem smallS (c : UInt8) (w : World) : Calls Try.prog 59 #[.int .u8 (c.toNat : Int)] w fun e w' => e = .returned (.bool (smallB c)) ∧ w = w' := by
  by_cases h1 : 97 ≤ (c.toNat : Int)
  · by_cases h2 : (c.toNat : Int) ≤ 122
    · have H := hide (smallB_true (by omega) (by omega) : smallB c = true)
      have d2 : decide ((c.toNat : Int) ≤ 122) = true := by simp; omega
      go_enter Try.func59, Try.ntmps59
      go_wp2
      go_ret
      exact ⟨ret_bool H.out.symm, rfl⟩
    · have H := hide (smallB_false (by omega) : smallB c = false)
      have d2 : decide ((c.toNat : Int) ≤ 122) = false := by simp; omega
      go_enter Try.func59, Try.ntmps59
      go_wp2
      go_ret
      exact ⟨ret_bool H.out.symm, rfl⟩
  · have H := hide (smallB_false (by omega) : smallB c = false)
    go_enter Try.func59, Try.ntmps59
    go_wp2
    go_ret
    exact ⟨ret_bool H.out.symm, rfl⟩
theorem digitS (c : UInt8) (w : World) : Calls Try.prog 60 #[.int .u8 (c.toNat : Int)] w fun e w' => e = .returned (.bool (digitB c)) ∧ w = w' := by
  by_cases h1 : 48 ≤ (c.toNat : Int)
  · by_cases h2 : (c.toNat : Int) ≤ 57
    · have H := hide (digitB_true (by omega) (by omega) : digitB c = true)
      have d2 : decide ((c.toNat : Int) ≤ 57) = true := by simp; omega
      go_enter Try.func60, Try.ntmps60
      go_wp2
      go_ret
      exact ⟨ret_bool H.out.symm, rfl⟩
    · have H := hide (digitB_false (by omega) : digitB c = false)
      have d2 : decide ((c.toNat : Int) ≤ 57) = false := by simp; omega
      go_enter Try.func60, Try.ntmps60
      go_wp2
      go_ret
      exact ⟨ret_bool H.out.symm, rfl⟩
  · have H := hide (digitB_false (by omega) : digitB c = false)
    go_enter Try.func60, Try.ntmps60
    go_wp2
    go_ret
    exact ⟨ret_bool H.out.symm, rfl⟩
theorem digitI (c : UInt8) (w : World) : Calls Try.prog 47 #[.int .u8 (c.toNat : Int)] w fun e w' => e = .returned (.bool (digitB c)) ∧ w = w' := by
  by_cases h1 : 48 ≤ (c.toNat : Int)
  · by_cases h2 : (c.toNat : Int) ≤ 57
    · have H := hide (digitB_true (by omega) (by omega) : digitB c = true)
      have d2 : decide ((c.toNat : Int) ≤ 57) = true := by simp; omega
      go_enter Try.func47, Try.ntmps47
      go_wp2
      go_ret
      exact ⟨ret_bool H.out.symm, rfl⟩
    · have H := hide (digitB_false (by omega) : digitB c = false)
      have d2 : decide ((c.toNat : Int) ≤ 57) = false := by simp; omega
      go_enter Try.func47, Try.ntmps47
      go_wp2
      go_ret
      exact ⟨ret_bool H.out.symm, rfl⟩
  · have H := hide (digitB_false (by omega) : digitB c = false)
    go_enter Try.func47, Try.ntmps47
    go_wp2
    go_ret
    exact ⟨ret_bool H.out.symm, rfl⟩
set_option maxHeartbeats 1000000 in
theorem nameS (s : ByteArray) (hs : s.size ≤ maxLen) (w : World) : Calls Try.prog 46 #[.string s] w fun e w' => e = .returned (.bool (nameB s)) ∧ w = w' := by
  unfold maxLen at hs
  by_cases h0 : s.size = 0
  · have H := hide (name_empty h0)
    obtain rfl := eq_empty h0
    clear h0 hs
    go_enter Try.func46, Try.ntmps46
    go_wp2
    go_ret
    exact ⟨ret_bool H.out.symm, rfl⟩
  · have he := isEmpty_no h0
    by_cases hl : 10 < s.size
    · have H := hide (name_long hl)
      go_enter Try.func46, Try.ntmps46
      go_wp2
      go_ret
      exact ⟨ret_bool H.out.symm, rfl⟩
    · cases hc : smallB (s[0]'(by omega))
      · have H := hide (not_name (s := s) (n := 0) (by omega) (fun k => by rcases k with k | k; exact absurd (smallB_iff.2 k) (by rw [hc]; simp); exact k.1 rfl))
        go_enter Try.func46, Try.ntmps46
        go_wp2_with (go_at_call 59; refine (smallS _ _).mono ?_; rintro e w' ⟨rfl, rfl⟩)
        go_ret
        exact ⟨ret_bool H.out.symm, rfl⟩
      · have hsm := hide hc
        go_enter Try.func46, Try.ntmps46
        go_wp2_with (go_at_call 59; refine (smallS _ _).mono ?_; rintro e w' ⟨rfl, rfl⟩)
        go_loop [3] (fun i => ∃ k : Nat, k ≤ s.size ∧ Hid (nameTo s k) ∧ i = .int .i64 k) (fun i => s.size - (intOf i).toNat)
        case atStart => exact ⟨0, Nat.zero_le _, hide (nameTo_zero s), rfl⟩
        case round =>
          obtain ⟨k, hk, ht, rfl⟩ := hrel
          by_cases hlt : k < s.size
          · cases hs1 : smallB s[k]
            · cases hd1 : digitB s[k]
              · have H := hide (not_name hlt (fun c => by rcases c with c | c; exact absurd (smallB_iff.2 c) (by rw [hs1]; simp); exact absurd (digitB_iff.2 c.2) (by rw [hd1]; simp)))
                go_wp2_with (first | (go_at_call 59; refine (smallS _ _).mono ?_; rintro e w' ⟨rfl, rfl⟩) | (go_at_call 60; refine (digitS _ _).mono ?_; rintro e w' ⟨rfl, rfl⟩))
                go_ret
                exact ⟨ret_bool H.out.symm, rfl⟩
              · have H := hide (nameTo_succ ht.out hlt (by
                  by_cases e : k = 0
                  · subst e; exact absurd (hs1.symm.trans hsm.out) (by simp)
                  · exact .inr ⟨e, digitB_iff.1 hd1⟩))
                go_wp2_with (first | (go_at_call 59; refine (smallS _ _).mono ?_; rintro e w' ⟨rfl, rfl⟩) | (go_at_call 60; refine (digitS _ _).mono ?_; rintro e w' ⟨rfl, rfl⟩))
                go_round
                case rel => exact ⟨k + 1, by omega, H, by go_num⟩
                case measure => simp [intOf]; omega
            · have H := hide (nameTo_succ ht.out hlt (.inl (smallB_iff.1 hs1)))
              go_wp2_with (first | (go_at_call 59; refine (smallS _ _).mono ?_; rintro e w' ⟨rfl, rfl⟩) | (go_at_call 60; refine (digitS _ _).mono ?_; rintro e w' ⟨rfl, rfl⟩))
              go_round
              case rel => exact ⟨k + 1, by omega, H, by go_num⟩
              case measure => simp [intOf]; omega
          · obtain rfl : k = s.size := by omega
            go_wp2
            go_ret
            exact ⟨ret_bool (name_done h0 (by omega) ht.out).symm, rfl⟩
set_option maxHeartbeats 1000000 in
theorem nameI (s : ByteArray) (hs : s.size ≤ maxLen) (w : World) : Calls Try.prog 27 #[.string s] w fun e w' => e = .returned (.bool (nameB s)) ∧ w = w' := by
  unfold maxLen at hs
  go_enter Try.func27, Try.ntmps27
  go_wp2
  go_loop [3] (fun i => ∃ k : Nat, k ≤ s.size ∧ Hid (nameTo s k) ∧ i = .int .i64 k) (fun i => s.size - (intOf i).toNat)
  case atStart => exact ⟨0, Nat.zero_le _, hide (nameTo_zero s), rfl⟩
  case round =>
    obtain ⟨k, hk, ht, rfl⟩ := hrel
    by_cases hlt : k < s.size
    · have hcase : ((97 ≤ (s[k].toNat : Int) ∧ (s[k].toNat : Int) ≤ 122) ∧ decide (97 ≤ (s[k].toNat : Int)) = true ∧ decide ((s[k].toNat : Int) ≤ 122) = true) ∨
          (smallB s[k] = false ∧ 97 ≤ (s[k].toNat : Int) ∧ decide (97 ≤ (s[k].toNat : Int)) = true ∧ decide ((s[k].toNat : Int) ≤ 122) = false) ∨ (smallB s[k] = false ∧ ¬ 97 ≤ (s[k].toNat : Int) ∧ decide (97 ≤ (s[k].toNat : Int)) = false) := by
        by_cases a : 97 ≤ (s[k].toNat : Int)
        · by_cases b : (s[k].toNat : Int) ≤ 122
          · exact .inl ⟨⟨a, b⟩, decide_eq_true a, decide_eq_true b⟩
          · exact .inr (.inl ⟨smallB_false (by omega), a, decide_eq_true a, decide_eq_false b⟩)
        · exact .inr (.inr ⟨smallB_false (by omega), a, decide_eq_false a⟩)
      rcases hcase with ⟨⟨a1, a2⟩, d1, d2⟩ | hrest
      · have H := hide (nameTo_succ ht.out hlt (.inl ⟨by omega, by omega⟩))
        go_wp2_with (go_at_call 47; refine (digitI _ _).mono ?_; rintro e w' ⟨rfl, rfl⟩)
        go_round
        case rel => exact ⟨k + 1, by omega, H, by go_num⟩
        case measure => simp [intOf]; omega
      · rcases hrest with ⟨hsf, a, d1, d2⟩ | ⟨hsf, a, d1⟩
        all_goals
          have hsf' := hide hsf
          clear hsf
          by_cases hk0 : k = 0
          · have H := hide (not_name hlt (fun c => by rcases c with c | c; exact absurd (smallB_iff.2 c) (by rw [hsf'.out]; simp); exact c.1 hk0))
            have e0 : ((k : Int) == 0) = true := by rw [hk0]; rfl
            have hlt0 : 0 < s.size := by omega
            clear hk0
            go_wp2_with (go_at_call 47; refine (digitI _ _).mono ?_; rintro e w' ⟨rfl, rfl⟩)
            go_ret
            exact ⟨ret_bool H.out.symm, rfl⟩
          · have e0 : ((k : Int) == 0) = false := by simp; omega
            cases hd1 : digitB s[k]
            · have H := hide (not_name hlt (fun c => by rcases c with c | c; exact absurd (smallB_iff.2 c) (by rw [hsf'.out]; simp); exact absurd (digitB_iff.2 c.2) (by rw [hd1]; simp)))
              go_wp2_with (go_at_call 47; refine (digitI _ _).mono ?_; rintro e w' ⟨rfl, rfl⟩)
              go_ret
              exact ⟨ret_bool H.out.symm, rfl⟩
            · have H := hide (nameTo_succ ht.out hlt (.inr ⟨hk0, digitB_iff.1 hd1⟩))
              go_wp2_with (go_at_call 47; refine (digitI _ _).mono ?_; rintro e w' ⟨rfl, rfl⟩)
              go_round
              case rel => exact ⟨k + 1, by omega, H, by go_num⟩
              case measure => simp [intOf]; omega
    · obtain rfl : k = s.size := by omega
      by_cases h0 : s.size = 0
      · have H := hide (name_empty h0)
        obtain rfl := eq_empty h0
        clear h0 hs hlt hk ht
        go_wp2
        go_ret
        exact ⟨ret_bool H.out.symm, rfl⟩
      · have he := isEmpty_no h0
        by_cases hl : 10 < s.size
        · have H := hide (name_long hl)
          have d1 : decide ((s.size : Int) ≤ 10) = false := by simp; omega
          go_wp2
          go_ret
          exact ⟨ret_bool H.out.symm, rfl⟩
        · have H := hide (name_done h0 (by omega) ht.out)
          have d1 : decide ((s.size : Int) ≤ 10) = true := by simp; omega
          go_wp2
          go_ret
          exact ⟨ret_bool H.out.symm, rfl⟩
theorem fnExactIsName_walk (s : ByteArray) (hs : s.size ≤ maxLen) (w : World) :
    Calls Try.prog 9 #[.string s] w fun e w' => e = .returned (.bool true) ∧ Below w.heap.size w w' := by
  go_enter Try.func9, Try.ntmps9
  go_wp2_with (first | (go_at_call 46; refine (nameS _ hs _).mono ?_; rintro e w' ⟨rfl, rfl⟩) | (go_at_call 27; refine (nameI _ hs _).mono ?_; rintro e w' ⟨rfl, rfl⟩) | go_in)
  all_goals
    go_ret
    exact ⟨rfl, Below.refl _ _⟩
end Go.Proofs.Ytgmkkmkmaamlnaa
