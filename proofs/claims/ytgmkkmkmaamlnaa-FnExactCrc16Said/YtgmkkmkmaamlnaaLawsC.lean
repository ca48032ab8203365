--%!
/- The walks of the laws on lines and check values that the seat has: each returns true. -/
import Derived.Test.YtgmkkmkmaamlnaaNums
namespace Go.Proofs.Ytgmkkmkmaamlnaa
open Go.ChangeShapes Go.WideShapes Go.ChangeAt Go.RowKit
set_option linter.unusedVariables false
set_option maxHeartbeats 1000000
theorem lineS (x0 y0 x1 y1 x : Int) (a0 : -1000000 ≤ x0) (a1 : x0 ≤ 1000000) (b0 : -1000000 ≤ y0) (b1 : y0 ≤ 1000000) (c0 : -1000000 ≤ x1) (c1 : x1 ≤ 1000000) (d0 : -1000000 ≤ y1) (d1 : y1 ≤ 1000000) (w : World) :
    Calls Try.prog 55 #[.int .i64 x0, .int .i64 y0, .int .i64 x1, .int .i64 y1, .int .i64 x] w fun e w' => e = .returned (.int .i64 (lineOf x0 y0 x1 y1 x)) ∧ w = w' := by
  have H : Hid (lineOf x0 y0 x1 y1 x = if x ≤ x0 ∨ x1 ≤ x0 then y0 else if x1 ≤ x then y1 else y0 + dr ((y1 - y0) * (x - x0)) (x1 - x0)) := rfl
  by_cases e1 : x ≤ x0
  · have f1 : decide (x ≤ x0) = true := by simp; omega
    go_enter Try.func55, Try.ntmps55
    go_wp2
    go_ret
    exact ⟨ret_int (by rw [H.out, if_pos (by omega)]), rfl⟩
  · have f1 : decide (x ≤ x0) = false := by simp; omega
    by_cases e2 : x1 ≤ x0
    · have f2 : decide (x1 ≤ x0) = true := by simp; omega
      go_enter Try.func55, Try.ntmps55
      go_wp2
      go_ret
      exact ⟨ret_int (by rw [H.out, if_pos (by omega)]), rfl⟩
    · have f2 : decide (x1 ≤ x0) = false := by simp; omega
      by_cases e3 : x1 ≤ x
      · go_enter Try.func55, Try.ntmps55
        go_wp2
        go_ret
        exact ⟨ret_int (by rw [H.out, if_neg (by omega), if_pos (by omega)]), rfl⟩
      · obtain ⟨p1, p2⟩ := mul_bd (a := y1 - y0) (b := x - x0) (A := 2000000) (B := 2000000) (by omega) (by omega) (by omega) (by omega) (by omega)
        have hq := dr_abs ((y1 - y0) * (x - x0)) (x1 - x0) (by omega)
        obtain ⟨q1, q2⟩ : -4000000000000 ≤ dr ((y1 - y0) * (x - x0)) (x1 - x0) ∧ dr ((y1 - y0) * (x - x0)) (x1 - x0) ≤ 4000000000000 := by omega
        clear hq
        go_enter Try.func55, Try.ntmps55
        go_wp2_with (go_at_call 51; refine (divS _ _ (by omega) (by omega) (by omega) (by omega) (by omega) _).mono ?_; rintro e w' ⟨rfl, rfl⟩)
        go_ret
        exact ⟨ret_int (by rw [H.out, if_neg (by omega), if_neg (by omega)]), rfl⟩
theorem lineI (x0 y0 x1 y1 x : Int) (a0 : -1000000 ≤ x0) (a1 : x0 ≤ 1000000) (b0 : -1000000 ≤ y0) (b1 : y0 ≤ 1000000) (c0 : -1000000 ≤ x1) (c1 : x1 ≤ 1000000) (d0 : -1000000 ≤ y1) (d1 : y1 ≤ 1000000) (w : World) :
    Calls Try.prog 56 #[.int .i64 x0, .int .i64 y0, .int .i64 x1, .int .i64 y1, .int .i64 x] w fun e w' => e = .returned (.int .i64 (lineOf x0 y0 x1 y1 x)) ∧ w = w' := by
  have H : Hid (lineOf x0 y0 x1 y1 x = if x ≤ x0 ∨ x1 ≤ x0 then y0 else if x1 ≤ x then y1 else y0 + dr ((y1 - y0) * (x - x0)) (x1 - x0)) := rfl
  by_cases e1 : x ≤ x0
  · have f1 : decide (x ≤ x0) = true := by simp; omega
    go_enter Try.func56, Try.ntmps56
    go_wp2
    go_ret
    exact ⟨ret_int (by rw [H.out, if_pos (by omega)]), rfl⟩
  · have f1 : decide (x ≤ x0) = false := by simp; omega
    by_cases e2 : x1 ≤ x0
    · have f2 : decide (x1 ≤ x0) = true := by simp; omega
      go_enter Try.func56, Try.ntmps56
      go_wp2
      go_ret
      exact ⟨ret_int (by rw [H.out, if_pos (by omega)]), rfl⟩
    · have f2 : decide (x1 ≤ x0) = false := by simp; omega
      by_cases e3 : x1 ≤ x
      · go_enter Try.func56, Try.ntmps56
        go_wp2
        go_ret
        exact ⟨ret_int (by rw [H.out, if_neg (by omega), if_pos (by omega)]), rfl⟩
      · obtain ⟨p1, p2⟩ := mul_bd (a := y1 - y0) (b := x - x0) (A := 2000000) (B := 2000000) (by omega) (by omega) (by omega) (by omega) (by omega)
        have hq := dr_abs ((y1 - y0) * (x - x0)) (x1 - x0) (by omega)
        obtain ⟨q1, q2⟩ : -4000000000000 ≤ dr ((y1 - y0) * (x - x0)) (x1 - x0) ∧ dr ((y1 - y0) * (x - x0)) (x1 - x0) ≤ 4000000000000 := by omega
        clear hq
        go_enter Try.func56, Try.ntmps56
        go_wp2_with (go_at_call 52; refine (divI _ _ (by omega) (by omega) (by omega) (by omega) (by omega) _).mono ?_; rintro e w' ⟨rfl, rfl⟩)
        go_ret
        exact ⟨ret_int (by rw [H.out, if_neg (by omega), if_neg (by omega)]), rfl⟩
theorem blendS (x0 y0 x1 y1 x : Int) (w : World) :
    Calls Try.prog 36 #[.int .i64 x0, .int .i64 y0, .int .i64 x1, .int .i64 y1, .int .i64 x] w fun e w' => e = .returned (.int .i64 (blendOf x0 y0 x1 y1 x)) ∧ w = w' := by
  by_cases h : inB x0 (-1000000) 1000000 = true ∧ inB y0 (-1000000) 1000000 = true ∧ inB x1 (-1000000) 1000000 = true ∧ inB y1 (-1000000) 1000000 = true
  · have H := hide (show blendOf x0 y0 x1 y1 x = lineOf x0 y0 x1 y1 x from if_pos h)
    obtain ⟨g0, g1, g2, g3⟩ := h
    obtain ⟨a0, a1⟩ := (inB_iff _ _ _).1 g0
    obtain ⟨b0, b1⟩ := (inB_iff _ _ _).1 g1
    obtain ⟨c0, c1⟩ := (inB_iff _ _ _).1 g2
    obtain ⟨d0, d1⟩ := (inB_iff _ _ _).1 g3
    go_enter Try.func36, Try.ntmps36
    go_wp2_with (first | (go_at_call 40; refine (inS _ _ _ _).mono ?_; rintro e w' ⟨rfl, rfl⟩) | (go_at_call 55; refine (lineS _ _ _ _ _ a0 a1 b0 b1 c0 c1 d0 d1 _).mono ?_; rintro e w' ⟨rfl, rfl⟩))
    go_ret
    exact ⟨ret_int H.out.symm, rfl⟩
  · have H := hide (show blendOf x0 y0 x1 y1 x = 0 from if_neg h)
    have hh := hide h
    clear h
    cases g0 : inB x0 (-1000000) 1000000
    · go_enter Try.func36, Try.ntmps36
      go_wp2_with (go_at_call 40; refine (inS _ _ _ _).mono ?_; rintro e w' ⟨rfl, rfl⟩)
      go_ret
      exact ⟨ret_int H.out.symm, rfl⟩
    · cases g2 : inB x1 (-1000000) 1000000
      · go_enter Try.func36, Try.ntmps36
        go_wp2_with (go_at_call 40; refine (inS _ _ _ _).mono ?_; rintro e w' ⟨rfl, rfl⟩)
        go_ret
        exact ⟨ret_int H.out.symm, rfl⟩
      · cases g1 : inB y0 (-1000000) 1000000
        · go_enter Try.func36, Try.ntmps36
          go_wp2_with (go_at_call 40; refine (inS _ _ _ _).mono ?_; rintro e w' ⟨rfl, rfl⟩)
          go_ret
          exact ⟨ret_int H.out.symm, rfl⟩
        · have g3 : inB y1 (-1000000) 1000000 = false := by
            cases g : inB y1 (-1000000) 1000000
            · rfl
            · exact absurd ⟨g0, g1, g2, g⟩ hh.out
          go_enter Try.func36, Try.ntmps36
          go_wp2_with (go_at_call 40; refine (inS _ _ _ _).mono ?_; rintro e w' ⟨rfl, rfl⟩)
          go_ret
          exact ⟨ret_int H.out.symm, rfl⟩
theorem blendI (x0 y0 x1 y1 x : Int) (w : World) :
    Calls Try.prog 37 #[.int .i64 x0, .int .i64 y0, .int .i64 x1, .int .i64 y1, .int .i64 x] w fun e w' => e = .returned (.int .i64 (blendOf x0 y0 x1 y1 x)) ∧ w = w' := by
  have i0 : ∀ w, (Instr.index 49 (.agg #[.int .i64 x0, .int .i64 y0, .int .i64 x1, .int .i64 y1]) (.int .i64 0)).run Try.prog w = .ok (.int .i64 x0) w := fun _ => by kernel_rfl
  have i1 : ∀ w, (Instr.index 49 (.agg #[.int .i64 x0, .int .i64 y0, .int .i64 x1, .int .i64 y1]) (.int .i64 1)).run Try.prog w = .ok (.int .i64 y0) w := fun _ => by kernel_rfl
  have i2 : ∀ w, (Instr.index 49 (.agg #[.int .i64 x0, .int .i64 y0, .int .i64 x1, .int .i64 y1]) (.int .i64 2)).run Try.prog w = .ok (.int .i64 x1) w := fun _ => by kernel_rfl
  have i3 : ∀ w, (Instr.index 49 (.agg #[.int .i64 x0, .int .i64 y0, .int .i64 x1, .int .i64 y1]) (.int .i64 3)).run Try.prog w = .ok (.int .i64 y1) w := fun _ => by kernel_rfl
  cases g0 : inB x0 (-1000000) 1000000
  · have H := hide (show blendOf x0 y0 x1 y1 x = 0 from if_neg (fun h => by rw [h.1] at g0; cases g0))
    go_enter Try.func37, Try.ntmps37
    go_wp2
    refine wp_loop_rounds 1 ?_
    rw [rounds_succ]
    go_wp2_with (go_at_call 43; refine (inI _ _ _ _).mono ?_; rintro e w' ⟨rfl, rfl⟩)
    go_ret
    exact ⟨ret_int H.out.symm, rfl⟩
  · cases g1 : inB y0 (-1000000) 1000000
    · have H := hide (show blendOf x0 y0 x1 y1 x = 0 from if_neg (fun h => by rw [h.2.1] at g1; cases g1))
      go_enter Try.func37, Try.ntmps37
      go_wp2
      refine wp_loop_rounds 2 ?_
      rw [rounds_succ]
      go_wp2_with (go_at_call 43; refine (inI _ _ _ _).mono ?_; rintro e w' ⟨rfl, rfl⟩)
      rw [rounds_succ]
      go_wp2_with (go_at_call 43; refine (inI _ _ _ _).mono ?_; rintro e w' ⟨rfl, rfl⟩)
      go_ret
      exact ⟨ret_int H.out.symm, rfl⟩
    · cases g2 : inB x1 (-1000000) 1000000
      · have H := hide (show blendOf x0 y0 x1 y1 x = 0 from if_neg (fun h => by rw [h.2.2.1] at g2; cases g2))
        go_enter Try.func37, Try.ntmps37
        go_wp2
        refine wp_loop_rounds 3 ?_
        rw [rounds_succ]
        go_wp2_with (go_at_call 43; refine (inI _ _ _ _).mono ?_; rintro e w' ⟨rfl, rfl⟩)
        rw [rounds_succ]
        go_wp2_with (go_at_call 43; refine (inI _ _ _ _).mono ?_; rintro e w' ⟨rfl, rfl⟩)
        rw [rounds_succ]
        go_wp2_with (go_at_call 43; refine (inI _ _ _ _).mono ?_; rintro e w' ⟨rfl, rfl⟩)
        go_ret
        exact ⟨ret_int H.out.symm, rfl⟩
      · cases g3 : inB y1 (-1000000) 1000000
        · have H := hide (show blendOf x0 y0 x1 y1 x = 0 from if_neg (fun h => by rw [h.2.2.2] at g3; cases g3))
          go_enter Try.func37, Try.ntmps37
          go_wp2
          refine wp_loop_rounds 4 ?_
          rw [rounds_succ]
          go_wp2_with (go_at_call 43; refine (inI _ _ _ _).mono ?_; rintro e w' ⟨rfl, rfl⟩)
          rw [rounds_succ]
          go_wp2_with (go_at_call 43; refine (inI _ _ _ _).mono ?_; rintro e w' ⟨rfl, rfl⟩)
          rw [rounds_succ]
          go_wp2_with (go_at_call 43; refine (inI _ _ _ _).mono ?_; rintro e w' ⟨rfl, rfl⟩)
          rw [rounds_succ]
          go_wp2_with (go_at_call 43; refine (inI _ _ _ _).mono ?_; rintro e w' ⟨rfl, rfl⟩)
          go_ret
          exact ⟨ret_int H.out.symm, rfl⟩
        · have H := hide (show blendOf x0 y0 x1 y1 x = lineOf x0 y0 x1 y1 x from if_pos ⟨g0, g1, g2, g3⟩)
          obtain ⟨a0, a1⟩ := (inB_iff _ _ _).1 g0
          obtain ⟨b0, b1⟩ := (inB_iff _ _ _).1 g1
          obtain ⟨c0, c1⟩ := (inB_iff _ _ _).1 g2
          obtain ⟨d0, d1⟩ := (inB_iff _ _ _).1 g3
          go_enter Try.func37, Try.ntmps37
          go_wp2
          refine wp_loop_rounds 5 ?_
          rw [rounds_succ]
          go_wp2_with (go_at_call 43; refine (inI _ _ _ _).mono ?_; rintro e w' ⟨rfl, rfl⟩)
          rw [rounds_succ]
          go_wp2_with (go_at_call 43; refine (inI _ _ _ _).mono ?_; rintro e w' ⟨rfl, rfl⟩)
          rw [rounds_succ]
          go_wp2_with (go_at_call 43; refine (inI _ _ _ _).mono ?_; rintro e w' ⟨rfl, rfl⟩)
          rw [rounds_succ]
          go_wp2_with (go_at_call 43; refine (inI _ _ _ _).mono ?_; rintro e w' ⟨rfl, rfl⟩)
          rw [rounds_succ]
          go_wp2_with (go_at_call 56; refine (lineI _ _ _ _ _ a0 a1 b0 b1 c0 c1 d0 d1 _).mono ?_; rintro e w' ⟨rfl, rfl⟩)
          go_ret
          exact ⟨ret_int H.out.symm, rfl⟩
theorem fnExactBlend_walk (x0 : Int) (h0 : -9223372036854775808 ≤ x0) (h1 : x0 ≤ 9223372036854775807) (y0 : Int) (h2 : -9223372036854775808 ≤ y0) (h3 : y0 ≤ 9223372036854775807) (x1 : Int) (h4 : -9223372036854775808 ≤ x1) (h5 : x1 ≤ 9223372036854775807) (y1 : Int) (h6 : -9223372036854775808 ≤ y1) (h7 : y1 ≤ 9223372036854775807) (x : Int) (h8 : -9223372036854775808 ≤ x) (h9 : x ≤ 9223372036854775807) (w : World) :
    Calls Try.prog 14 #[.int .i64 x0, .int .i64 y0, .int .i64 x1, .int .i64 y1, .int .i64 x] w fun e w' => e = .returned (.bool true) ∧ Below w.heap.size w w' := by
  go_enter Try.func14, Try.ntmps14
  go_wp2_with (first | (go_at_call 36; refine (blendS _ _ _ _ _ _).mono ?_; rintro e w' ⟨rfl, rfl⟩) | (go_at_call 37; refine (blendI _ _ _ _ _ _).mono ?_; rintro e w' ⟨rfl, rfl⟩))
  go_ret
  exact ⟨rfl, Below.refl _ _⟩
theorem ofInt_i64 (a : Nat) (ha : a < 9223372036854775808) : (BitVec.ofInt 64 (a : Int)).toNat = a := by
  rw [BitVec.ofInt_natCast, BitVec.toNat_ofNat]; exact Nat.mod_eq_of_lt (by omega)
theorem i64_and_nat (a b : Nat) (ha : a < 9223372036854775808) (hb : b < 9223372036854775808) : bits .and .i64 (a : Int) (b : Int) = ((a &&& b : Nat) : Int) := by
  have hx : a &&& b < 2 ^ 63 := Nat.and_lt_two_pow _ (by omega)
  show IntKind.i64.wrap ((BitVec.ofInt 64 (a : Int) &&& BitVec.ofInt 64 (b : Int)).toNat : Int) = _
  rw [BitVec.toNat_and, ofInt_i64 a ha, ofInt_i64 b hb, IntKind.wrap_i64]
  omega
theorem i64_xor_nat (a b : Nat) (ha : a < 9223372036854775808) (hb : b < 9223372036854775808) : bits .xor .i64 (a : Int) (b : Int) = ((a ^^^ b : Nat) : Int) := by
  have hx : a ^^^ b < 2 ^ 63 := Nat.xor_lt_two_pow (by omega) (by omega)
  show IntKind.i64.wrap ((BitVec.ofInt 64 (a : Int) ^^^ BitVec.ofInt 64 (b : Int)).toNat : Int) = _
  rw [BitVec.toNat_xor, ofInt_i64 a ha, ofInt_i64 b hb, IntKind.wrap_i64]
  omega
theorem crc_mix (n : Nat) (c : UInt8) (h : n < 65536) : bits .xor .i64 (n : Int) ((c.toNat : Int) * 256) = ((n ^^^ (c.toNat * 256) : Nat) : Int) := by
  have := c.toNat_lt
  have e : ((c.toNat : Int) * 256) = ((c.toNat * 256 : Nat) : Int) := by omega
  rw [e]
  exact i64_xor_nat n (c.toNat * 256) (by omega) (by omega)
theorem crc_hi (n : Nat) (h : n < 65536) (h1 : 65535 < 2 * n) : bits .xor .i64 (bits .and .i64 ((n : Int) * 2) 65535) 4129 = ((crcBit n : Nat) : Int) := by
  have e : ((n : Int) * 2) = ((2 * n : Nat) : Int) := by omega
  have e1 := i64_and_nat (2 * n) 65535 (by omega) (by omega)
  have e2 := i64_xor_nat ((2 * n) &&& 65535) 4129 (by have := Nat.and_lt_two_pow (n := 16) (2 * n) (show 65535 < 2 ^ 16 by decide); omega) (by omega)
  have e3 : crcBit n = ((2 * n) &&& 65535) ^^^ 4129 := if_pos h1
  rw [e, show (65535 : Int) = ((65535 : Nat) : Int) from rfl, e1, show (4129 : Int) = ((4129 : Nat) : Int) from rfl, e2, e3]
theorem crc_lo (n : Nat) (h1 : ¬ 65535 < 2 * n) : ((n : Int) * 2) = ((crcBit n : Nat) : Int) := by
  have e3 : crcBit n = 2 * n := if_neg h1
  rw [e3]; omega
theorem crcS (s : ByteArray) (n : Nat) (hs : s.size ≤ maxLen) (hn : n < 65536) (w : World) :
    Calls Try.prog 50 #[.string s, .int .i64 (n : Int)] w fun e w' => e = .returned (.int .i64 (crcTo s s.size n : Nat)) ∧ w = w' := by
  unfold maxLen at hs
  go_enter Try.func50, Try.ntmps50
  go_wp2
  go_loop [1, 5] (fun c i => ∃ k : Nat, k ≤ s.size ∧ i = .int .i64 k ∧ ∃ m : Nat, m < 65536 ∧ Hid (m = crcTo s k n) ∧ c = .int .i64 (m : Int)) (fun _ i => s.size - (intOf i).toNat)
  case atStart => exact ⟨0, Nat.zero_le _, rfl, n, hn, hide rfl, rfl⟩
  case round =>
    obtain ⟨k, hk, rfl, m, hm, he, rfl⟩ := hrel
    by_cases hlt : k < s.size
    · have hx := crc_mix m s[k] hm
      have hcb : (s[k].toNat : Int) ≤ 255 := by have := s[k].toNat_lt; omega
      have hml := crcMix_lt m s[k] hm
      have hc := hide (crcTo_succ s k n hlt)
      generalize hmm : m ^^^ s[k].toNat * 256 = m0 at *
      have Hmm := hide hmm
      clear hmm
      go_wp2
      go_loop [1, 6] (fun c j => ∃ q : Nat, q ≤ 8 ∧ j = .int .i64 q ∧ ∃ p : Nat, p < 65536 ∧ Hid (p = crcBits q m0) ∧ c = .int .i64 (p : Int)) (fun _ j => 8 - (intOf j).toNat)
      case atStart => exact ⟨0, by omega, rfl, m0, hml, hide rfl, rfl⟩
      case round =>
        obtain ⟨q, hq, rfl, p, hp, hpe, rfl⟩ := hrel
        by_cases hq8 : q < 8
        · by_cases hb : 65535 < 2 * p
          · have hi := crc_hi p hp hb
            have hbl := crcBit_lt p
            have hn1 := hide (show crcBit p = crcBits (q + 1) m0 by rw [hpe.out]; rfl)
            clear hpe
            go_wp2
            go_round
            case rel => exact ⟨q + 1, by omega, by go_num, crcBit p, hbl, hn1, rfl⟩
            case measure => simp [intOf]; omega
          · have hlo := hide (crc_lo p hb)
            have hbl := crcBit_lt p
            have hn1 := hide (show crcBit p = crcBits (q + 1) m0 by rw [hpe.out]; rfl)
            clear hpe
            go_wp2
            go_round
            case rel => exact ⟨q + 1, by omega, by go_num, crcBit p, hbl, hn1, by rw [hlo.out]⟩
            case measure => simp [intOf]; omega
        · obtain rfl : q = 8 := by omega
          go_wp2
          go_round
          case rel => exact ⟨k + 1, by omega, by go_num, p, hp, hide (by rw [hc.out, hpe.out, ← he.out, ← Hmm.out]; rfl), rfl⟩
          case measure => simp [intOf]; omega
    · obtain rfl : k = s.size := by omega
      go_wp2
      go_ret
      exact ⟨ret_int (by rw [he.out]), rfl⟩
theorem crcI (s : ByteArray) (n : Nat) (hs : s.size ≤ maxLen) (hn : n < 65536) (w : World) :
    Calls Try.prog 31 #[.string s, .int .i64 (n : Int)] w fun e w' => e = .returned (.int .i64 (crcTo s s.size n : Nat)) ∧ w = w' := by
  unfold maxLen at hs
  have hin := inB_true (n := (n : Int)) (lo := 0) (hi := 65535) (by omega) (by omega)
  go_enter Try.func31, Try.ntmps31
  go_wp2_with (go_at_call 43; refine (inI _ _ _ _).mono ?_; rintro e w' ⟨rfl, rfl⟩)
  go_loop [1, 5] (fun c i => ∃ k : Nat, k ≤ s.size ∧ i = .int .i64 k ∧ ∃ m : Nat, m < 65536 ∧ Hid (m = crcTo s k n) ∧ c = .int .i64 (m : Int)) (fun _ i => s.size - (intOf i).toNat)
  case atStart => exact ⟨0, Nat.zero_le _, rfl, n, hn, hide rfl, rfl⟩
  case round =>
    obtain ⟨k, hk, rfl, m, hm, he, rfl⟩ := hrel
    by_cases hlt : k < s.size
    · have hx := crc_mix m s[k] hm
      have hcb : (s[k].toNat : Int) ≤ 255 := by have := s[k].toNat_lt; omega
      have hml := crcMix_lt m s[k] hm
      have hc := hide (crcTo_succ s k n hlt)
      generalize hmm : m ^^^ s[k].toNat * 256 = m0 at *
      have Hmm := hide hmm
      clear hmm
      go_wp2
      go_loop [1, 22] (fun c j => ∃ q : Nat, q ≤ 8 ∧ j = .int .i64 q ∧ ∃ p : Nat, p < 65536 ∧ Hid (p = crcBits q m0) ∧ c = .int .i64 (p : Int)) (fun _ j => 8 - (intOf j).toNat)
      case atStart => exact ⟨0, by omega, rfl, m0, hml, hide rfl, rfl⟩
      case round =>
        obtain ⟨q, hq, rfl, p, hp, hpe, rfl⟩ := hrel
        by_cases hq8 : q < 8
        · by_cases hb : 65535 < 2 * p
          · have hi := crc_hi p hp hb
            have hbl := crcBit_lt p
            have hn1 := hide (show crcBit p = crcBits (q + 1) m0 by rw [hpe.out]; rfl)
            clear hpe
            go_wp2
            go_round
            case rel => exact ⟨q + 1, by omega, by go_num, crcBit p, hbl, hn1, rfl⟩
            case measure => simp [intOf]; omega
          · have hlo := hide (crc_lo p hb)
            have hbl := crcBit_lt p
            have hn1 := hide (show crcBit p = crcBits (q + 1) m0 by rw [hpe.out]; rfl)
            clear hpe
            go_wp2
            go_round
            case rel => exact ⟨q + 1, by omega, by go_num, crcBit p, hbl, hn1, by rw [hlo.out]⟩
            case measure => simp [intOf]; omega
        · obtain rfl : q = 8 := by omega
          go_wp2
          go_round
          case rel => exact ⟨k + 1, by omega, by go_num, p, hp, hide (by rw [hc.out, hpe.out, ← he.out, ← Hmm.out]; rfl), rfl⟩
          case measure => simp [intOf]; omega
    · obtain rfl : k = s.size := by omega
      go_wp2
      go_ret
      exact ⟨ret_int (by rw [he.out]), rfl⟩
theorem fnExactCrc16_walk (s : ByteArray) (hs : s.size ≤ maxLen) (n : Int) (h0 : -9223372036854775808 ≤ n) (h1 : n ≤ 9223372036854775807) (w : World) :
    Calls Try.prog 11 #[.string s, .int .i64 n] w fun e w' => e = .returned (.bool true) ∧ Below w.heap.size w w' := by
  cases hn : inB n 0 65535
  · go_enter Try.func11, Try.ntmps11
    go_wp2_with (first | (go_at_call 40; refine (inS _ _ _ _).mono ?_; rintro e w' ⟨rfl, rfl⟩) | (go_at_call 43; refine (inI _ _ _ _).mono ?_; rintro e w' ⟨rfl, rfl⟩) | go_in)
    all_goals
      go_ret
      exact ⟨rfl, Below.refl _ _⟩
  · obtain ⟨n1, n2⟩ := (inB_iff _ _ _).1 hn
    obtain ⟨m, rfl⟩ := Int.eq_ofNat_of_zero_le n1
    go_enter Try.func11, Try.ntmps11
    go_wp2_with (first | (go_at_call 40; refine (inS _ _ _ _).mono ?_; rintro e w' ⟨rfl, rfl⟩) | (go_at_call 50; refine (crcS _ _ hs (by omega) _).mono ?_; rintro e w' ⟨rfl, rfl⟩) | (go_at_call 31; refine (crcI _ _ hs (by omega) _).mono ?_; rintro e w' ⟨rfl, rfl⟩) | go_in)
    all_goals
      go_ret
      exact ⟨rfl, Below.refl _ _⟩
end Go.Proofs.Ytgmkkmkmaamlnaa
