--%!
/- The walk of the law on dates. Own work. -/
import Derived.Test.YtphlbpailmdndaaDoorDates
namespace Go.Proofs.YtphlbpailmdndaaDoor
open Go.ChangeShapes Go.WideShapes Go.ChangeAt Go.RowKit
set_option linter.unusedVariables false
set_option maxRecDepth 100000
set_option maxHeartbeats 2000000
theorem fnDates_walk (A : Option Addr) (n c : Nat) (l : List Int) (hn : l.length = n) (hm : n ≤ maxLen) (hf : BtFit l) (w : World) (hp : BtRd w w.heap.size A l) (hpw : Pow w) (hmx : Mx w) :
    Calls Tryd.prog 14 #[.slice A n c] w fun e w' => e = .returned (.bool true) ∧ Below w.heap.size w w' := by
  have HF := hide hf
  have HB := hide hp
  have HW := hide hpw
  have HM := hide hmx
  clear hf hp hpw hmx
  unfold maxLen at hm
  by_cases hl : n ≤ 1048576
  · go_enter Tryd.func14, Tryd.ntmps14
    go_wp2_with fail
    refine (r8Wide1 A n c l hn hm HF.out 0 (by omega) (by omega) 65536 (by omega) (by omega) w HB.out).mono ?_
    rintro e w' ⟨a, rfl, ha, rfl⟩
    go_wp2_with fail
    refine (r8Wide1 A n c l hn hm HF.out 2 (by omega) (by omega) 34000 (by omega) (by omega) w HB.out).mono ?_
    rintro e w' ⟨b, rfl, hb, rfl⟩
    go_wp2_with fail
    refine (dateOfI (a + b) (by omega) (by omega) w).mono ?_
    rintro e w' ⟨y, m, d, hd, rfl, rfl⟩
    have HD := hide hd
    obtain ⟨y0, y1, m0, m1, d0, d1, -⟩ := hd
    have hdm := dim_bd y m
    have HO := hide (dOf_of HD.out (by omega))
    go_wp2_with fail
    refine (dayOf_yes y m d (a + b) HO.out w).mono ?_
    rintro e w' ⟨rfl, rfl⟩
    go_wp2_with fail
    refine (dtextI (a + b) w HW.out).mono ?_
    rintro e w1 ⟨t, ht, rfl, hb1⟩
    have ht' := (dtextIs_unique ht (.inr ⟨inB_true (show 0 ≤ a + b by omega) (by omega), y, m, d, HD.out, rfl⟩)).trans (dtx_list _ _ _)
    have hts : t.size ≤ 2097152 := by
      obtain ⟨-, -, s3, -, -, s6⟩ := dtx_bd HD.out
      rw [ht', ← dtx_list]
      unfold dtx
      rw [ByteArray.size_append]
      omega
    have hrd : rdOf t.data.toList = some (a + b) := by rw [ht']; exact rdOf_text HO.out
    have HV := hide (rdV_some hrd)
    have HVB := hide (rdB_some hrd)
    clear ht ht' hrd
    go_wp2_with fail
    refine (rdDateI t hts w1 (HW.out.below hb1) (HM.out.below hb1)).mono ?_
    rw [HV.out, HVB.out]
    rintro e w2 ⟨rfl, hb2⟩
    have hB2 := below_next (w0 := w) hb2 hb1
    clear hb1 hb2
    go_wp2_with fail
    refine (monthDaysI y m y0 y1 m0 m1 w2).mono ?_
    rintro e w' ⟨rfl, rfl⟩
    go_wp2_with fail
    refine (weekdayI (a + b) (by omega) (by omega) w2).mono ?_
    rintro e w' ⟨rfl, rfl⟩
    go_wp2_with fail
    refine (weekdayI (a + b + 1) (by omega) (by omega) w2).mono ?_
    rintro e w' ⟨rfl, rfl⟩
    go_wp2_with fail
    refine (dayYearI (a + b) (by omega) (by omega) w2).mono ?_
    rintro e w' ⟨y', m', d', hd', rfl, rfl⟩
    obtain ⟨rfl, -, -⟩ := isDate_unique HD.out hd'
    clear hd'
    have hpb : 1 ≤ a + b - fd y + 1 ∧ a + b - fd y + 1 ≤ 366 := by
      obtain ⟨-, -, i1, i2, i3, i4, i5⟩ := HD.out
      have A := num_year (y := y) i1 i2 i3 i4
      rw [i5] at A
      have hl := lp_bd y
      have hs := fd_succ y
      omega
    obtain ⟨p, hp⟩ : ∃ p, a + b - fd y + 1 = p := ⟨_, rfl⟩
    rw [hp] at hpb
    rw [hp]
    go_wp2_with fail
    refine (dayYearI (a + b + 1) (by omega) (by omega) w2).mono ?_
    rintro e w' ⟨y2, m2, d2, hd2, rfl, rfl⟩
    have hnx := next_day HD.out hd2
    rw [hp] at hnx
    obtain ⟨q, hq⟩ : ∃ q, a + b + 1 - fd y2 + 1 = q := ⟨_, rfl⟩
    rw [hq] at hnx ⊢
    clear hd2 hp hq
    have g1 : decide (d < 1) = false := by simp; omega
    have g2 : decide (dim y m < d) = false := by simp; omega
    have wp : wrap64 (p + 1) = p + 1 := IntWalk.wrap64_in _ ⟨by omega, by omega⟩
    have hu : 0 ≤ (a + b + 5) % 7 ∧ (a + b + 5) % 7 ≤ 6 := by omega
    have huv : (a + b + 1 + 5) % 7 = ((a + b + 5) % 7 + 1) % 7 := by omega
    obtain ⟨u, hu'⟩ : ∃ u, (a + b + 5) % 7 = u := ⟨_, rfl⟩
    obtain ⟨v, hv'⟩ : ∃ v, (a + b + 1 + 5) % 7 = v := ⟨_, rfl⟩
    rw [hu', hv'] at huv ⊢
    rw [hu'] at hu
    have e1 : (v != (u + 1) % 7) = false := by simp; omega
    obtain ⟨d', hdm', hI, hI0, hI1, hadd, hcase⟩ := year_on HD.out (by omega)
    obtain ⟨nn, hnn⟩ : ∃ nn, num (y + 1) m d' = nn := ⟨_, rfl⟩
    rw [hnn] at hI hI0 hI1 hadd
    have HY := hide hadd
    have HI := hide hI
    have HN0 := hI0
    have HN1 := hI1
    obtain ⟨bl, hbl⟩ : ∃ bl, leapB y = bl := ⟨_, rfl⟩
    have HL := hide hbl
    clear hadd hI hnn hu' hv' hdm' hbl huv
    by_cases hq : q = p + 1
    · have e2 : (q != p + 1) = false := by simp; omega
      clear hq hnx
      rcases hcase with hc | ⟨c1, c2, c3⟩
      · have f1 : (d' == d) = true := by simp; omega
        clear hc
        go_wp2_with fail
        refine (addI (a + b) 12 (by omega) (by omega) (by omega) (by omega) w2).mono ?_
        rintro e w' ⟨y3, m3, d3, hd3, rfl, rfl⟩
        obtain ⟨rfl, rfl, rfl⟩ := isDate_unique HD.out hd3
        clear hd3
        rw [HY.out]
        go_wp2_with fail
        refine (r8Wide1 A n c l hn hm HF.out 4 (by omega) (by omega) 1440 (by omega) (by omega) w2 (HB.out.below hB2)).mono ?_
        rintro e w' ⟨k, rfl, hk, rfl⟩
        have hclk := ckOf_clock (n := k) (by omega) (by omega)
        obtain ⟨z, hz⟩ : ∃ z : ByteArray, z = ⟨(clockV k).toArray⟩ := ⟨_, rfl⟩
        have hzs : z.size ≤ 2097152 := by
          rw [hz, size_lst, clockV_t (inB_true (by omega) (by omega)), List.length_append, List.length_cons, padV_len (by omega) (by omega), padV_len (by omega) (by omega)]
          omega
        have hcz : ckOf z.data.toList = some k := by rw [hz]; exact hclk
        have CV := hide (ckV_some hcz)
        have CB := hide (ckB_some hcz)
        have HZ := hide hz
        clear hclk hcz hz
        go_wp2_with fail
        refine (clockI k w2 (HW.out.below hB2)).mono ?_
        rintro e w3 ⟨rfl, hb3⟩
        rw [← HZ.out]
        have hB3 := below_next (w0 := w) hb3 hB2
        clear hb3
        go_wp2_with fail
        refine (rdClockI z hzs w3 (HW.out.below hB3) (HM.out.below hB3)).mono ?_
        rw [CV.out, CB.out]
        rintro e w4 ⟨rfl, hb4⟩
        have hB4 := below_next (w0 := w) hb4 hB3
        clear hb4
        go_wp2_with fail
        refine (dateOfI nn HN0 HN1 w4).mono ?_
        rintro e w' ⟨y4, m4, d4, hd4, rfl, rfl⟩
        obtain ⟨rfl, rfl, rfl⟩ := isDate_unique HI.out hd4
        clear hd4
        go_wp2_with fail
        refine (leapI y y0 y1 w4).mono ?_
        rw [HL.out]
        rintro e w' ⟨rfl, rfl⟩
        go_wp2_with fail
        refine (r8LeapS y (by omega) (by omega) w4).mono ?_
        rw [HL.out]
        rintro e w' ⟨rfl, rfl⟩
        go_wp2_with fail
        go_ret
        exact ⟨ret_bool (by simp), hB4⟩
      · have f1 : (d' == d) = false := beq_false_of_ne (by omega)
        have f2 : (m == 2) = true := by simp; omega
        have f3 : (d == 29) = true := by simp; omega
        have f4 : (d' == 28) = true := by simp; omega
        clear c1 c2 c3
        go_wp2_with fail
        refine (addI (a + b) 12 (by omega) (by omega) (by omega) (by omega) w2).mono ?_
        rintro e w' ⟨y3, m3, d3, hd3, rfl, rfl⟩
        obtain ⟨rfl, rfl, rfl⟩ := isDate_unique HD.out hd3
        clear hd3
        rw [HY.out]
        go_wp2_with fail
        refine (r8Wide1 A n c l hn hm HF.out 4 (by omega) (by omega) 1440 (by omega) (by omega) w2 (HB.out.below hB2)).mono ?_
        rintro e w' ⟨k, rfl, hk, rfl⟩
        have hclk := ckOf_clock (n := k) (by omega) (by omega)
        obtain ⟨z, hz⟩ : ∃ z : ByteArray, z = ⟨(clockV k).toArray⟩ := ⟨_, rfl⟩
        have hzs : z.size ≤ 2097152 := by
          rw [hz, size_lst, clockV_t (inB_true (by omega) (by omega)), List.length_append, List.length_cons, padV_len (by omega) (by omega), padV_len (by omega) (by omega)]
          omega
        have hcz : ckOf z.data.toList = some k := by rw [hz]; exact hclk
        have CV := hide (ckV_some hcz)
        have CB := hide (ckB_some hcz)
        have HZ := hide hz
        clear hclk hcz hz
        go_wp2_with fail
        refine (clockI k w2 (HW.out.below hB2)).mono ?_
        rintro e w3 ⟨rfl, hb3⟩
        rw [← HZ.out]
        have hB3 := below_next (w0 := w) hb3 hB2
        clear hb3
        go_wp2_with fail
        refine (rdClockI z hzs w3 (HW.out.below hB3) (HM.out.below hB3)).mono ?_
        rw [CV.out, CB.out]
        rintro e w4 ⟨rfl, hb4⟩
        have hB4 := below_next (w0 := w) hb4 hB3
        clear hb4
        go_wp2_with fail
        refine (dateOfI nn HN0 HN1 w4).mono ?_
        rintro e w' ⟨y4, m4, d4, hd4, rfl, rfl⟩
        obtain ⟨rfl, rfl, rfl⟩ := isDate_unique HI.out hd4
        clear hd4
        go_wp2_with fail
        refine (leapI y y0 y1 w4).mono ?_
        rw [HL.out]
        rintro e w' ⟨rfl, rfl⟩
        go_wp2_with fail
        refine (r8LeapS y (by omega) (by omega) w4).mono ?_
        rw [HL.out]
        rintro e w' ⟨rfl, rfl⟩
        go_wp2_with fail
        go_ret
        exact ⟨ret_bool (by simp), hB4⟩
    · have e2 : (q != p + 1) = true := by simpa using hq
      have e3 : (q != 1) = false := by simp; omega
      have e4 : decide (p < 365) = false := by simp; omega
      clear hq hnx
      rcases hcase with hc | ⟨c1, c2, c3⟩
      · have f1 : (d' == d) = true := by simp; omega
        clear hc
        go_wp2_with fail
        refine (addI (a + b) 12 (by omega) (by omega) (by omega) (by omega) w2).mono ?_
        rintro e w' ⟨y3, m3, d3, hd3, rfl, rfl⟩
        obtain ⟨rfl, rfl, rfl⟩ := isDate_unique HD.out hd3
        clear hd3
        rw [HY.out]
        go_wp2_with fail
        refine (r8Wide1 A n c l hn hm HF.out 4 (by omega) (by omega) 1440 (by omega) (by omega) w2 (HB.out.below hB2)).mono ?_
        rintro e w' ⟨k, rfl, hk, rfl⟩
        have hclk := ckOf_clock (n := k) (by omega) (by omega)
        obtain ⟨z, hz⟩ : ∃ z : ByteArray, z = ⟨(clockV k).toArray⟩ := ⟨_, rfl⟩
        have hzs : z.size ≤ 2097152 := by
          rw [hz, size_lst, clockV_t (inB_true (by omega) (by omega)), List.length_append, List.length_cons, padV_len (by omega) (by omega), padV_len (by omega) (by omega)]
          omega
        have hcz : ckOf z.data.toList = some k := by rw [hz]; exact hclk
        have CV := hide (ckV_some hcz)
        have CB := hide (ckB_some hcz)
        have HZ := hide hz
        clear hclk hcz hz
        go_wp2_with fail
        refine (clockI k w2 (HW.out.below hB2)).mono ?_
        rintro e w3 ⟨rfl, hb3⟩
        rw [← HZ.out]
        have hB3 := below_next (w0 := w) hb3 hB2
        clear hb3
        go_wp2_with fail
        refine (rdClockI z hzs w3 (HW.out.below hB3) (HM.out.below hB3)).mono ?_
        rw [CV.out, CB.out]
        rintro e w4 ⟨rfl, hb4⟩
        have hB4 := below_next (w0 := w) hb4 hB3
        clear hb4
        go_wp2_with fail
        refine (dateOfI nn HN0 HN1 w4).mono ?_
        rintro e w' ⟨y4, m4, d4, hd4, rfl, rfl⟩
        obtain ⟨rfl, rfl, rfl⟩ := isDate_unique HI.out hd4
        clear hd4
        go_wp2_with fail
        refine (leapI y y0 y1 w4).mono ?_
        rw [HL.out]
        rintro e w' ⟨rfl, rfl⟩
        go_wp2_with fail
        refine (r8LeapS y (by omega) (by omega) w4).mono ?_
        rw [HL.out]
        rintro e w' ⟨rfl, rfl⟩
        go_wp2_with fail
        go_ret
        exact ⟨ret_bool (by simp), hB4⟩
      · have f1 : (d' == d) = false := beq_false_of_ne (by omega)
        have f2 : (m == 2) = true := by simp; omega
        have f3 : (d == 29) = true := by simp; omega
        have f4 : (d' == 28) = true := by simp; omega
        clear c1 c2 c3
        go_wp2_with fail
        refine (addI (a + b) 12 (by omega) (by omega) (by omega) (by omega) w2).mono ?_
        rintro e w' ⟨y3, m3, d3, hd3, rfl, rfl⟩
        obtain ⟨rfl, rfl, rfl⟩ := isDate_unique HD.out hd3
        clear hd3
        rw [HY.out]
        go_wp2_with fail
        refine (r8Wide1 A n c l hn hm HF.out 4 (by omega) (by omega) 1440 (by omega) (by omega) w2 (HB.out.below hB2)).mono ?_
        rintro e w' ⟨k, rfl, hk, rfl⟩
        have hclk := ckOf_clock (n := k) (by omega) (by omega)
        obtain ⟨z, hz⟩ : ∃ z : ByteArray, z = ⟨(clockV k).toArray⟩ := ⟨_, rfl⟩
        have hzs : z.size ≤ 2097152 := by
          rw [hz, size_lst, clockV_t (inB_true (by omega) (by omega)), List.length_append, List.length_cons, padV_len (by omega) (by omega), padV_len (by omega) (by omega)]
          omega
        have hcz : ckOf z.data.toList = some k := by rw [hz]; exact hclk
        have CV := hide (ckV_some hcz)
        have CB := hide (ckB_some hcz)
        have HZ := hide hz
        clear hclk hcz hz
        go_wp2_with fail
        refine (clockI k w2 (HW.out.below hB2)).mono ?_
        rintro e w3 ⟨rfl, hb3⟩
        rw [← HZ.out]
        have hB3 := below_next (w0 := w) hb3 hB2
        clear hb3
        go_wp2_with fail
        refine (rdClockI z hzs w3 (HW.out.below hB3) (HM.out.below hB3)).mono ?_
        rw [CV.out, CB.out]
        rintro e w4 ⟨rfl, hb4⟩
        have hB4 := below_next (w0 := w) hb4 hB3
        clear hb4
        go_wp2_with fail
        refine (dateOfI nn HN0 HN1 w4).mono ?_
        rintro e w' ⟨y4, m4, d4, hd4, rfl, rfl⟩
        obtain ⟨rfl, rfl, rfl⟩ := isDate_unique HI.out hd4
        clear hd4
        go_wp2_with fail
        refine (leapI y y0 y1 w4).mono ?_
        rw [HL.out]
        rintro e w' ⟨rfl, rfl⟩
        go_wp2_with fail
        refine (r8LeapS y (by omega) (by omega) w4).mono ?_
        rw [HL.out]
        rintro e w' ⟨rfl, rfl⟩
        go_wp2_with fail
        go_ret
        exact ⟨ret_bool (by simp), hB4⟩
  · have hl' : 1048576 < n := by omega
    clear hl
    go_enter Tryd.func14, Tryd.ntmps14
    go_wp2_with fail
    go_ret
    exact ⟨rfl, Below.refl _ _⟩
end Go.Proofs.YtphlbpailmdndaaDoor
