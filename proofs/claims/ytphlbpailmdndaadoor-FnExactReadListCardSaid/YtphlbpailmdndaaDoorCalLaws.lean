--%!
/- The walks of the calendar's laws that the seat has: each returns true. -/
import Derived.Test.YtphlbpailmdndaaDoorCal
namespace Go.Proofs.YtphlbpailmdndaaDoor
open Go.ChangeShapes Go.WideShapes Go.ChangeAt Go.RowKit
set_option linter.unusedVariables false
set_option maxHeartbeats 1000000
theorem dayOfI_no (y m d : Int) (h : ¬ (2000 ≤ y ∧ y ≤ 2273 ∧ 1 ≤ m ∧ m ≤ 12 ∧ 1 ≤ d ∧ d ≤ dim y m)) (w : World) :
    Calls Tryd.prog 48 #[.int .i64 y, .int .i64 m, .int .i64 d] w fun e w' => e = .returned (.tuple #[.int .i64 0, .int .i64 2]) ∧ w = w' := by
  have H := hide h
  clear h
  cases hy : inB y 2000 2273
  · go_enter Tryd.func48, Tryd.ntmps48
    go_wp2_with (first | (go_at_call 65; refine (inS _ _ _ _).mono ?_; rintro e w' ⟨rfl, rfl⟩) | (go_at_call 80; refine (inI _ _ _ _).mono ?_; rintro e w' ⟨rfl, rfl⟩) | go_in)
    go_ret2
    exact ⟨rfl, rfl⟩
  · cases hm : inB m 1 12
    · go_enter Tryd.func48, Tryd.ntmps48
      go_wp2_with (first | (go_at_call 65; refine (inS _ _ _ _).mono ?_; rintro e w' ⟨rfl, rfl⟩) | (go_at_call 80; refine (inI _ _ _ _).mono ?_; rintro e w' ⟨rfl, rfl⟩) | go_in)
      go_ret2
      exact ⟨rfl, rfl⟩
    · obtain ⟨y1, y2⟩ := (inB_iff _ _ _).1 hy
      obtain ⟨m1, m2⟩ := (inB_iff _ _ _).1 hm
      have hd : inB d 1 (dim y m) = false := inB_false (fun k => H.out ⟨y1, y2, m1, m2, k.1, k.2⟩)
      go_enter Tryd.func48, Tryd.ntmps48
      go_wp2_with (first | (go_at_call 65; refine (inS _ _ _ _).mono ?_; rintro e w' ⟨rfl, rfl⟩) | (go_at_call 80; refine (inI _ _ _ _).mono ?_; rintro e w' ⟨rfl, rfl⟩) | (go_at_call 87; refine (monthI _ _ (by omega) (by omega) (by omega) (by omega) _).mono ?_; rintro e w' ⟨rfl, rfl⟩) | go_in)
      go_ret2
      exact ⟨rfl, rfl⟩
theorem dayOfI_yes (y m d : Int) (h1 : 2000 ≤ y) (h2 : y ≤ 2273) (h3 : 1 ≤ m) (h4 : m ≤ 12) (h5 : 1 ≤ d) (h6 : d ≤ dim y m) (w : World) :
    Calls Tryd.prog 48 #[.int .i64 y, .int .i64 m, .int .i64 d] w fun e w' => e = .returned (if num y m d ≤ 99999 then .tuple #[.int .i64 (num y m d), .int .i64 0] else .tuple #[.int .i64 0, .int .i64 2]) ∧ w = w' := by
  obtain ⟨db1, db2⟩ := dim_bd y m
  have hy := inB_true h1 h2
  have hm := inB_true h3 h4
  have hd := inB_true h5 h6
  obtain ⟨n1, n2⟩ := num_bd h1 h2 h3 h4 h5 h6
  by_cases hn : num y m d ≤ 99999
  · have hN := inB_true n1 hn
    rw [if_pos hn]
    go_enter Tryd.func48, Tryd.ntmps48
    go_wp2_with (first | (go_at_call 65; refine (inS _ _ _ _).mono ?_; rintro e w' ⟨rfl, rfl⟩) | (go_at_call 80; refine (inI _ _ _ _).mono ?_; rintro e w' ⟨rfl, rfl⟩) | (go_at_call 87; refine (monthI _ _ (by omega) (by omega) (by omega) (by omega) _).mono ?_; rintro e w' ⟨rfl, rfl⟩) | (go_at_call 88; refine (numI _ _ _ (by omega) (by omega) (by omega) (by omega) (by omega) (by omega) _).mono ?_; rintro e w' ⟨rfl, rfl⟩) | go_in)
    go_ret2
    exact ⟨rfl, rfl⟩
  · have hN : inB (num y m d) 0 99999 = false := inB_false (fun k => hn k.2)
    rw [if_neg hn]
    go_enter Tryd.func48, Tryd.ntmps48
    go_wp2_with (first | (go_at_call 65; refine (inS _ _ _ _).mono ?_; rintro e w' ⟨rfl, rfl⟩) | (go_at_call 80; refine (inI _ _ _ _).mono ?_; rintro e w' ⟨rfl, rfl⟩) | (go_at_call 87; refine (monthI _ _ (by omega) (by omega) (by omega) (by omega) _).mono ?_; rintro e w' ⟨rfl, rfl⟩) | (go_at_call 88; refine (numI _ _ _ (by omega) (by omega) (by omega) (by omega) (by omega) (by omega) _).mono ?_; rintro e w' ⟨rfl, rfl⟩) | go_in)
    go_ret2
    exact ⟨rfl, rfl⟩
theorem numS_first (y : Int) (hy1 : 2000 ≤ y) (hy2 : y ≤ 2280) (w : World) :
    Calls Tryd.prog 121 #[.int .i64 y, .int .i64 1, .int .i64 1] w fun e w' => e = .returned (.int .i64 (fd y)) ∧ w = w' :=
  (numS y 1 1 hy1 hy2 (by omega) (by omega) (by omega) (by omega) w).mono fun e w' ⟨he, hw⟩ => ⟨he.trans (ret_int (by unfold num; rw [cum_1]; omega)), hw⟩
/-- some months later: the day and the code -/
def addRes (y m d k : Int) : Value :=
  if ((12 * y + m - 1 + k) / 12) ≤ 2273 ∧ num ((12 * y + m - 1 + k) / 12) ((12 * y + m - 1 + k) % 12 + 1) (min d (dim ((12 * y + m - 1 + k) / 12) ((12 * y + m - 1 + k) % 12 + 1))) ≤ 99999 then .tuple #[.int .i64 (num ((12 * y + m - 1 + k) / 12) ((12 * y + m - 1 + k) % 12 + 1) (min d (dim ((12 * y + m - 1 + k) / 12) ((12 * y + m - 1 + k) % 12 + 1)))), .int .i64 0] else .tuple #[.int .i64 0, .int .i64 6]
def AddBack (n k : Int) (w : World) (e : Ending) (w' : World) : Prop := ∃ y m d : Int, IsDate n y m d ∧ e = .returned (addRes y m d k) ∧ w = w'
theorem addRes_late {y m d k : Int} (h : 2273 < ((12 * y + m - 1 + k) / 12)) : addRes y m d k = .tuple #[.int .i64 0, .int .i64 6] := if_neg (by omega)
theorem addRes_over {y m d k d' : Int} (hd : min d (dim ((12 * y + m - 1 + k) / 12) ((12 * y + m - 1 + k) % 12 + 1)) = d') (h : 99999 < num ((12 * y + m - 1 + k) / 12) ((12 * y + m - 1 + k) % 12 + 1) d') : addRes y m d k = .tuple #[.int .i64 0, .int .i64 6] := if_neg (by rw [hd]; omega)
theorem addRes_yes {y m d k d' : Int} (hd : min d (dim ((12 * y + m - 1 + k) / 12) ((12 * y + m - 1 + k) % 12 + 1)) = d') (h1 : ((12 * y + m - 1 + k) / 12) ≤ 2273) (h : num ((12 * y + m - 1 + k) / 12) ((12 * y + m - 1 + k) % 12 + 1) d' ≤ 99999) : addRes y m d k = .tuple #[.int .i64 (num ((12 * y + m - 1 + k) / 12) ((12 * y + m - 1 + k) % 12 + 1) d'), .int .i64 0] := by
  unfold addRes; rw [hd, if_pos ⟨h1, h⟩]
theorem addI (n k : Int) (h0 : 0 ≤ n) (h1 : n ≤ 99999) (k0 : 0 ≤ k) (k1 : k ≤ 1200) (w : World) : Calls Tryd.prog 52 #[.int .i64 n, .int .i64 k] w (AddBack n k w) := by
  have hn := inB_true h0 h1
  have hk := inB_true k0 k1
  go_enter Tryd.func52, Tryd.ntmps52
  go_wp2_with (first | (go_at_call 65; refine (inS _ _ _ _).mono ?_; rintro e w' ⟨rfl, rfl⟩) | (go_at_call 80; refine (inI _ _ _ _).mono ?_; rintro e w' ⟨rfl, rfl⟩) | (go_at_call 73; go_in))
  refine (dateI _ (by omega) (by omega) _).mono ?_
  rintro e w' ⟨y, m, d, hd, rfl, rfl⟩
  have Hd := hide hd
  obtain ⟨y1, y2, m1, m2, d1, d2, -⟩ := hd
  have eY := hide (show ((12 * y + m - 1 + k) / 12) = (y + (m + (k - 1)) / 12) by omega)
  have eM := hide (show ((12 * y + m - 1 + k) % 12 + 1) = ((m + (k - 1)) % 12 + 1) by omega)
  obtain ⟨db1, db2⟩ := dim_bd (y + (m + (k - 1)) / 12) ((m + (k - 1)) % 12 + 1)
  by_cases hY : (y + (m + (k - 1)) / 12) ≤ 2273
  · have yin := inB_true (show 2000 ≤ (y + (m + (k - 1)) / 12) by omega) hY
    by_cases hmn : d ≤ dim (y + (m + (k - 1)) / 12) ((m + (k - 1)) % 12 + 1)
    · have em := hide (show min d (dim ((12 * y + m - 1 + k) / 12) ((12 * y + m - 1 + k) % 12 + 1)) = d by rw [eY.out, eM.out]; omega)
      obtain ⟨nb1, nb2⟩ := num_bd (show 2000 ≤ (y + (m + (k - 1)) / 12) by omega) hY (show 1 ≤ ((m + (k - 1)) % 12 + 1) by omega) (by omega) d1 (show d ≤ dim (y + (m + (k - 1)) / 12) ((m + (k - 1)) % 12 + 1) by omega)
      by_cases hN : num (y + (m + (k - 1)) / 12) ((m + (k - 1)) % 12 + 1) d ≤ 99999
      · have H0 := addRes_yes em.out (by rw [eY.out]; omega) (by rw [eY.out, eM.out]; omega)
        rw [eY.out, eM.out] at H0
        have H := hide H0
        clear H0
        have nin := inB_true nb1 hN
        go_wp2_with (first | (go_at_call 65; refine (inS _ _ _ _).mono ?_; rintro e w' ⟨rfl, rfl⟩) | (go_at_call 80; refine (inI _ _ _ _).mono ?_; rintro e w' ⟨rfl, rfl⟩) | (go_at_call 85; go_in) | (go_at_call 73; go_in) | (go_at_call 87; refine (monthI _ _ (by omega) (by omega) (by omega) (by omega) _).mono ?_; rintro e w' ⟨rfl, rfl⟩) | (go_at_call 88; refine (numI _ _ _ (by omega) (by omega) (by omega) (by omega) (by omega) (by omega) _).mono ?_; rintro e w' ⟨rfl, rfl⟩))
        go_ret2
        exact ⟨y, m, d, Hd.out, congrArg Ending.returned H.out.symm, rfl⟩
      · have H := hide (addRes_over em.out (by rw [eY.out, eM.out]; omega))
        have nin : inB (num (y + (m + (k - 1)) / 12) ((m + (k - 1)) % 12 + 1) d) 0 99999 = false := inB_false (by omega)
        go_wp2_with (first | (go_at_call 65; refine (inS _ _ _ _).mono ?_; rintro e w' ⟨rfl, rfl⟩) | (go_at_call 80; refine (inI _ _ _ _).mono ?_; rintro e w' ⟨rfl, rfl⟩) | (go_at_call 85; go_in) | (go_at_call 73; go_in) | (go_at_call 87; refine (monthI _ _ (by omega) (by omega) (by omega) (by omega) _).mono ?_; rintro e w' ⟨rfl, rfl⟩) | (go_at_call 88; refine (numI _ _ _ (by omega) (by omega) (by omega) (by omega) (by omega) (by omega) _).mono ?_; rintro e w' ⟨rfl, rfl⟩))
        go_ret2
        exact ⟨y, m, d, Hd.out, congrArg Ending.returned H.out.symm, rfl⟩
    · have em := hide (show min d (dim ((12 * y + m - 1 + k) / 12) ((12 * y + m - 1 + k) % 12 + 1)) = dim ((12 * y + m - 1 + k) / 12) ((12 * y + m - 1 + k) % 12 + 1) by rw [eY.out, eM.out]; omega)
      obtain ⟨nb1, nb2⟩ := num_bd (show 2000 ≤ (y + (m + (k - 1)) / 12) by omega) hY (show 1 ≤ ((m + (k - 1)) % 12 + 1) by omega) (by omega) (show 1 ≤ dim (y + (m + (k - 1)) / 12) ((m + (k - 1)) % 12 + 1) by omega) (Int.le_refl _)
      by_cases hN : num (y + (m + (k - 1)) / 12) ((m + (k - 1)) % 12 + 1) (dim (y + (m + (k - 1)) / 12) ((m + (k - 1)) % 12 + 1)) ≤ 99999
      · have H0 := addRes_yes em.out (by rw [eY.out]; omega) (by rw [eY.out, eM.out]; omega)
        rw [eY.out, eM.out] at H0
        have H := hide H0
        clear H0
        have nin := inB_true nb1 hN
        go_wp2_with (first | (go_at_call 65; refine (inS _ _ _ _).mono ?_; rintro e w' ⟨rfl, rfl⟩) | (go_at_call 80; refine (inI _ _ _ _).mono ?_; rintro e w' ⟨rfl, rfl⟩) | (go_at_call 85; go_in) | (go_at_call 73; go_in) | (go_at_call 87; refine (monthI _ _ (by omega) (by omega) (by omega) (by omega) _).mono ?_; rintro e w' ⟨rfl, rfl⟩) | (go_at_call 88; refine (numI _ _ _ (by omega) (by omega) (by omega) (by omega) (by omega) (by omega) _).mono ?_; rintro e w' ⟨rfl, rfl⟩))
        go_ret2
        exact ⟨y, m, d, Hd.out, congrArg Ending.returned H.out.symm, rfl⟩
      · have H := hide (addRes_over em.out (by rw [eY.out, eM.out]; omega))
        have nin : inB (num (y + (m + (k - 1)) / 12) ((m + (k - 1)) % 12 + 1) (dim (y + (m + (k - 1)) / 12) ((m + (k - 1)) % 12 + 1))) 0 99999 = false := inB_false (by omega)
        go_wp2_with (first | (go_at_call 65; refine (inS _ _ _ _).mono ?_; rintro e w' ⟨rfl, rfl⟩) | (go_at_call 80; refine (inI _ _ _ _).mono ?_; rintro e w' ⟨rfl, rfl⟩) | (go_at_call 85; go_in) | (go_at_call 73; go_in) | (go_at_call 87; refine (monthI _ _ (by omega) (by omega) (by omega) (by omega) _).mono ?_; rintro e w' ⟨rfl, rfl⟩) | (go_at_call 88; refine (numI _ _ _ (by omega) (by omega) (by omega) (by omega) (by omega) (by omega) _).mono ?_; rintro e w' ⟨rfl, rfl⟩))
        go_ret2
        exact ⟨y, m, d, Hd.out, congrArg Ending.returned H.out.symm, rfl⟩
  · have H := hide (addRes_late (d := d) (show 2273 < ((12 * y + m - 1 + k) / 12) by rw [eY.out]; omega))
    have yin : inB (y + (m + (k - 1)) / 12) 2000 2273 = false := inB_false (by omega)
    go_wp2_with (first | (go_at_call 65; refine (inS _ _ _ _).mono ?_; rintro e w' ⟨rfl, rfl⟩) | (go_at_call 80; refine (inI _ _ _ _).mono ?_; rintro e w' ⟨rfl, rfl⟩) | (go_at_call 85; go_in))
    go_ret2
    exact ⟨y, m, d, Hd.out, congrArg Ending.returned H.out.symm, rfl⟩
end Go.Proofs.YtphlbpailmdndaaDoor
