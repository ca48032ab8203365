--%!
/- Contracts of the times of a day, reference and program alike. Own work. -/
import Derived.Test.YtnpoemhpfaiooaaSunSpan
namespace Go.Proofs.Ytnpoemhpfaiooaa
open Go.ChangeShapes Go.WideShapes Go.ChangeAt Go.RowKit
set_option linter.unusedVariables false
set_option maxRecDepth 100000
set_option maxHeartbeats 4000000

theorem tup3 {a b c a' b' c' : Int} (h1 : a = a') (h2 : b = b') (h3 : c = c') : Ending.returned (.tuple #[.int .i64 a, .int .i64 b, .int .i64 c]) = .returned (.tuple #[.int .i64 a', .int .i64 b', .int .i64 c']) := by rw [h1, h2, h3]
def riseV (r : Int) : Int := if r = 1440 then -1 else r
theorem kindI_day (h : Int) (hd : -14000 ≤ h) (w : World) : Calls Try.prog 38 #[.int .i64 h] w fun e w' => e = .returned (.int .i64 1) ∧ w = w' := by
  go_enter Try.func38, Try.ntmps38
  go_wp2
  go_ret
  exact ⟨rfl, rfl⟩
theorem kindI_no (h : Int) (hd : h < -14000) (w : World) : Calls Try.prog 38 #[.int .i64 h] w fun e w' => ∃ v : Int, v ≠ 1 ∧ e = .returned (.int .i64 v) ∧ w = w' := by
  by_cases h2 : -104528 ≤ h
  · go_enter Try.func38, Try.ntmps38
    go_wp2
    go_ret
    exact ⟨2, by omega, rfl, rfl⟩
  · go_enter Try.func38, Try.ntmps38
    go_wp2
    go_ret
    exact ⟨3, by omega, rfl, rfl⟩
theorem timesI (lat n r e : Int) (l0 : -66 ≤ lat) (l1 : lat ≤ 66) (h0 : 0 ≤ n) (h1 : n ≤ 99999) (hs : Span lat n r e) (w : World) :
    Calls Try.prog 41 #[.int .i64 lat, .int .i64 n] w fun e' w' => e' = .returned (.tuple #[.int .i64 (riseV r), .int .i64 e, .int .i64 (r + 1440 - e)]) ∧ Below w.heap.size w w' := by
  obtain ⟨r0, r1, r2, hday, hc⟩ := hs
  have HD := hide hday
  clear hday
  have d1 : decide (0 ≤ r) = true := by simp; omega
  have d2 : decide (e < 0) = false := by simp; omega
  go_enter Try.func41, Try.ntmps41
  go_wp2_with (go_at_call 37; refine (heightsI lat n (by omega) (by omega) (by omega) (by omega) _).mono ?_; rintro e w1 ⟨rfl, hb1⟩)
  go_loop [7, 8, 9, 15] (fun v7 v8 v9 v15 => ∃ q : Nat, q ≤ 1440 ∧ ∃ R S D : Int, ((q ≤ r ∧ R = -1 ∧ S = -1 ∧ D = q) ∨ (r < q ∧ q ≤ e ∧ r = R ∧ S = -1 ∧ r = D) ∨ (e < q ∧ r < e ∧ r = R ∧ e = S ∧ D = r + q - e)) ∧ v7 = .int .i64 R ∧ v8 = .int .i64 S ∧ v9 = .int .i64 D ∧ v15 = .int .i64 q) (fun _ _ _ v15 => 1440 - (intOf v15).toNat)
  case atStart => exact ⟨0, by omega, -1, -1, 0, .inl (by omega), rfl, rfl, rfl, rfl⟩
  case round =>
    obtain ⟨q, hqb, R, S, D, hst, rfl, rfl, rfl, rfl⟩ := hrel
    by_cases hq3 : q < 1440
    · have ix := fun w => run_index_sun lat n q hq3 w
      have hk := HD.out q (by omega) (by omega)
      by_cases hd : -14000 ≤ sunV lat n (q : Int)
      · have hk1 := hk.1 hd
        clear hk
        rcases hst with ⟨t1, rfl, rfl, rfl⟩ | ⟨t1, t2, rfl, rfl, rfl⟩ | ⟨t1, t2, rfl, rfl, rfl⟩
        · go_wp2_with (go_at_call 38; refine (kindI_day _ hd _).mono ?_; rintro e w' ⟨rfl, rfl⟩)
          go_round
          case rel => exact ⟨q + 1, by omega, _, _, _, .inr (.inl (by omega)), rfl, rfl, rfl, by go_num⟩
          case measure => simp [intOf]; omega
        · go_wp2_with (go_at_call 38; refine (kindI_day _ hd _).mono ?_; rintro e w' ⟨rfl, rfl⟩)
          go_round
          case rel => exact ⟨q + 1, by omega, _, _, _, .inr (.inl (by omega)), rfl, rfl, rfl, by go_num⟩
          case measure => simp [intOf]; omega
        · exact absurd hk1.2 (by omega)
      · have hk1 : ¬ (r ≤ q ∧ q < e) := fun h => hd (hk.2 h)
        clear hk
        have hd' : sunV lat n (q : Int) < -14000 := by omega
        rcases hst with ⟨t1, rfl, rfl, rfl⟩ | ⟨t1, t2, rfl, rfl, rfl⟩ | ⟨t1, t2, rfl, rfl, rfl⟩
        · go_wp2_with (go_at_call 38; refine (kindI_no _ hd' _).mono ?_; rintro e w' ⟨v, hv, rfl, rfl⟩)
          go_round
          case rel => exact ⟨q + 1, by omega, -1, -1, (q : Int) + 1, .inl (by omega), rfl, rfl, by go_num, by go_num⟩
          case measure => simp [intOf]; omega
        · go_wp2_with (go_at_call 38; refine (kindI_no _ hd' _).mono ?_; rintro e w' ⟨v, hv, rfl, rfl⟩)
          go_round
          case rel => exact ⟨q + 1, by omega, _, _, _, .inr (.inr (by omega)), rfl, rfl, rfl, by go_num⟩
          case measure => simp [intOf]; omega
        · go_wp2_with (go_at_call 38; refine (kindI_no _ hd' _).mono ?_; rintro e w' ⟨v, hv, rfl, rfl⟩)
          go_round
          case rel => exact ⟨q + 1, by omega, _, _, _, .inr (.inr (by omega)), rfl, rfl, rfl, by go_num⟩
          case measure => simp [intOf]; omega
    · obtain rfl : q = 1440 := by omega
      rcases hst with ⟨t1, rfl, rfl, rfl⟩ | ⟨t1, t2, rfl, rfl, rfl⟩ | ⟨t1, t2, rfl, rfl, rfl⟩
      · have H : Hid (riseV r = -1) := hide (if_pos (by omega))
        go_wp2
        go_returns
        refine ⟨?_, hb1⟩
        rw [H.out]
        exact tup3 (by omega) (by omega) (by omega)
      · have H : Hid (riseV r = r) := hide (if_neg (by omega))
        go_wp2
        go_returns
        refine ⟨?_, hb1⟩
        rw [H.out]
        exact tup3 (by omega) (by omega) (by omega)
      · have H : Hid (riseV r = r) := hide (if_neg (by omega))
        go_wp2
        go_returns
        refine ⟨?_, hb1⟩
        rw [H.out]
        exact tup3 (by omega) (by omega) (by omega)
theorem riseS (lat n r e : Int) (l0 : -66 ≤ lat) (l1 : lat ≤ 66) (h0 : 0 ≤ n) (h1 : n ≤ 99999) (hs : Span lat n r e) (w : World) :
    Calls Try.prog 39 #[.int .i64 lat, .int .i64 n] w fun e' w' => e' = .returned (.int .i64 (riseV r)) ∧ Below w.heap.size w w' := by
  obtain ⟨r0, r1, r2, hday, hc⟩ := hs
  have HD := hide hday
  have hn := hday 720 (by omega) (by omega)
  clear hday
  by_cases hd : -14000 ≤ sunV lat n 720
  · have hr := hn.1 hd
    clear hn
    have H : Hid (riseV r = r) := hide (if_neg (by omega))
    go_enter Try.func39, Try.ntmps39
    go_wp2_with fail
    refine (ofS lat n l0 l1 h0 h1 _).mono ?_
    rintro e' w1 ⟨rfl, hb1⟩
    have hy1 := hb1.size
    go_wp2_with fail
    refine (atS lat n w1.heap.size 720 (by omega) (by omega) _ (by simp) (by go_simp) (by go_simp)).mono ?_
    rintro e' w2 ⟨rfl, hb2⟩
    obtain ⟨hc2, hf2⟩ := bcell hb2
    have hB2 := below_next (w0 := w) hb2 (by go_grown)
    have hz2 := hb2.size
    rw [World.size_alloc] at hz2
    have lt0 : w1.heap.size < w2.heap.size := by omega
    have c0 : w2.cell? ⟨w1.heap.size, 0, none⟩ = some (.int .i64 (stillV lat n)) := by go_simp
    have c1 : w2.cell? ⟨w1.heap.size, 1, none⟩ = some (.int .i64 (moveV lat n)) := by go_simp
    clear hb1 hb2 hc2 hf2 hz2
    go_wp2_with fail
    go_loopw [6, 7] (fun v6 v7 wr => ∃ a b : Int, 0 ≤ a ∧ a ≤ r ∧ r ≤ b ∧ b ≤ 720 ∧ v6 = .int .i64 a ∧ v7 = .int .i64 b ∧ Below w.heap.size w wr ∧ w1.heap.size < wr.heap.size ∧ wr.cell? ⟨w1.heap.size, 0, none⟩ = some (.int .i64 (stillV lat n)) ∧ wr.cell? ⟨w1.heap.size, 1, none⟩ = some (.int .i64 (moveV lat n))) (fun v6 v7 _ => (intOf v7 - intOf v6).toNat)
    case atStart => exact ⟨0, 720, by omega, by omega, by omega, by omega, rfl, rfl, hB2, lt0, c0, c1⟩
    case round =>
      clear c0 c1 lt0 hB2
      obtain ⟨a, b, ha, har, hrb, hb, rfl, rfl, hbw, lt0, c0, c1⟩ := hrel
      by_cases hab : a < b
      · have hk := HD.out ((a + b) / 2) (by omega) (by omega)
        by_cases hm : -14000 ≤ sunV lat n ((a + b) / 2)
        · have hk1 := hk.1 hm
          clear hk
          go_wp2_with (go_at_call 34; refine (atS lat n w1.heap.size ((a + b) / 2) (by omega) (by omega) _ lt0 c0 c1).mono ?_; rintro e' w3 ⟨rfl, hb3⟩)
          go_roundw
          case rel => exact ⟨a, (a + b) / 2, by omega, by omega, by omega, by omega, rfl, rfl, below_next (w0 := w) hb3 hbw, by have := hb3.size; omega, (hb3.cell (p := ⟨w1.heap.size, 0, none⟩) lt0).trans c0, (hb3.cell (p := ⟨w1.heap.size, 1, none⟩) lt0).trans c1⟩
          case measure => simp [intOf]; omega
        · have hk1 : ¬ (r ≤ (a + b) / 2 ∧ (a + b) / 2 < e) := fun h => hm (hk.2 h)
          clear hk
          go_wp2_with (go_at_call 34; refine (atS lat n w1.heap.size ((a + b) / 2) (by omega) (by omega) _ lt0 c0 c1).mono ?_; rintro e' w3 ⟨rfl, hb3⟩)
          go_roundw
          case rel => exact ⟨(a + b) / 2 + 1, b, by omega, by omega, by omega, by omega, rfl, rfl, below_next (w0 := w) hb3 hbw, by have := hb3.size; omega, (hb3.cell (p := ⟨w1.heap.size, 0, none⟩) lt0).trans c0, (hb3.cell (p := ⟨w1.heap.size, 1, none⟩) lt0).trans c1⟩
          case measure => simp [intOf]; omega
      · obtain rfl : a = r := by omega
        go_wp2
        go_ret
        exact ⟨ret_int H.out.symm, hbw⟩
  · have hr : ¬ (r ≤ 720 ∧ 720 < e) := fun h => hd (hn.2 h)
    clear hn
    have H : Hid (riseV r = -1) := hide (if_pos (by omega))
    go_enter Try.func39, Try.ntmps39
    go_wp2_with fail
    refine (ofS lat n l0 l1 h0 h1 _).mono ?_
    rintro e' w1 ⟨rfl, hb1⟩
    have hy1 := hb1.size
    go_wp2_with fail
    refine (atS lat n w1.heap.size 720 (by omega) (by omega) _ (by simp) (by go_simp) (by go_simp)).mono ?_
    rintro e' w2 ⟨rfl, hb2⟩
    have hB2 := below_next (w0 := w) hb2 (by go_grown)
    go_wp2
    go_ret
    exact ⟨ret_int H.out.symm, hB2⟩
end Go.Proofs.Ytnpoemhpfaiooaa
