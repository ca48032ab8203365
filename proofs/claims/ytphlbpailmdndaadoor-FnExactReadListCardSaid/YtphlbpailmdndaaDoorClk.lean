--%!
/- Contracts: digits read out of a text; a clock read out of a text. Own work. -/
import Derived.Test.YtphlbpailmdndaaDoorTwo
import Derived.Test.YtphlbpailmdndaaDoorNum
import Derived.Test.YtphlbpailmdndaaDoorClkMath
import Derived.Test.YtphlbpailmdndaaDoorCut
namespace Go.Proofs.YtphlbpailmdndaaDoor
open Go.ChangeShapes Go.WideShapes Go.ChangeAt Go.RowKit
set_option linter.unusedVariables false
set_option maxRecDepth 100000
set_option maxHeartbeats 1000000

theorem all_pre {l : List UInt8} (h : digsTo l 0 l.length) : l.all digB = true := digs_all (a := 0) h
theorem all_not {l : List UInt8} {k : Nat} (hk : k < l.length) (h : digB l[k] = false) : l.all digB = false := digs_no (a := 0) (Nat.zero_le _) hk h
theorem not_lo {x : UInt8} (h : x.toNat < 48) : digB x = false := decide_eq_false (fun k => by omega)
theorem not_hi {x : UInt8} (h : 57 < x.toNat) : digB x = false := decide_eq_false (fun k => by omega)
theorem dgB_no {l : List UInt8} (h : l.all digB = false) : dgB l = false := by unfold dgB; rw [h]; rfl
theorem dgB_all {l : List UInt8} (h : l.all digB = true) : dgB l = inB (l.length : Int) 1 18 := by
  unfold dgB inB; rw [h, Bool.true_and]; exact decide_eq_decide.2 (by omega)
theorem dgB_long {l : List UInt8} (h : 18 < l.length) : dgB l = false := by unfold dgB; rw [decide_eq_false (by omega), Bool.and_false]
def sdB (l : List UInt8) : Bool := l.all digB
def sdV (l : List UInt8) : Int := if l.all digB = true then (dv 0 l : Int) else 0
theorem sdV_t {l : List UInt8} (h : sdB l = true) : sdV l = dv 0 l := if_pos h
theorem sdV_f {l : List UInt8} (h : sdB l = false) : sdV l = 0 := if_neg (by show ¬ sdB l = true; rw [h]; decide)
theorem digitsS (s : ByteArray) (hs : s.size ≤ 18) (w : World) :
    Calls Tryd.prog 69 #[.string s] w fun e w' => e = .returned (.tuple #[.int .i64 (sdV s.data.toList), .bool (sdB s.data.toList)]) ∧ w = w' := by
  have HL := hide (len_list s)
  go_enter Tryd.func69, Tryd.ntmps69
  go_wp2
  go_loop [4, 5] (fun n i => ∃ k : Nat, k ≤ s.size ∧ Hid (digsTo s.data.toList 0 k) ∧ n = .int .i64 (pre s.data.toList 0 k) ∧ i = .int .i64 k) (fun _ i => s.size - (intOf i).toNat)
  case atStart => exact ⟨0, Nat.zero_le _, hide (fun t h1 h2 => absurd h2 (by omega)), by rw [pre_start]; rfl, rfl⟩
  case round =>
    obtain ⟨k, hk, hdg, rfl, rfl⟩ := hrel
    have hpb := pre_bd hdg.out (by rw [HL.out]; exact hk) (Nat.zero_le _) (by omega)
    by_cases hlt : k < s.size
    · have hst := pre_step (l := s.data.toList) (a := 0) (k := k) (by rw [HL.out]; exact hlt) (Nat.zero_le _)
      have hpc := pre_bd17 hdg.out (by rw [HL.out]; exact hk) (Nat.zero_le _) (by omega)
      have hat := at_list s k hlt
      rw [hat] at hst
      obtain ⟨x, hx⟩ : ∃ x, s[k] = x := ⟨_, rfl⟩
      rw [hx] at hst hat
      obtain ⟨q, hq⟩ : ∃ q, pre s.data.toList 0 k = q := ⟨_, rfl⟩
      rw [hq] at hst hpb hpc ⊢
      by_cases hlo : x.toNat < 48
      · have H := hide (show sdB s.data.toList = false from all_not (l := s.data.toList) (k := k) (by rw [HL.out]; exact hlt) (by rw [hat]; exact not_lo hlo))
        clear hst hat hq
        go_wp2
        go_returns
        exact ⟨retTwo (intEq (sdV_f H.out).symm) (boolEq H.out.symm), rfl⟩
      · by_cases hhi : 57 < x.toNat
        · have H := hide (show sdB s.data.toList = false from all_not (l := s.data.toList) (k := k) (by rw [HL.out]; exact hlt) (by rw [hat]; exact not_hi hhi))
          clear hst hat hq
          go_wp2
          go_returns
          exact ⟨retTwo (intEq (sdV_f H.out).symm) (boolEq H.out.symm), rfl⟩
        · have HX : Hid (digB x = true) := hide (digB_iff.2 ⟨by omega, by omega⟩)
          have hw0 : IntKind.u8.wrap ((x.toNat : Int) - 48) = (x.toNat : Int) - 48 := IntWalk.u8_in _ (by omega)
          have hw1 : wrap64 (10 * (q : Int)) = 10 * (q : Int) := IntWalk.wrap64_in _ ⟨by omega, by omega⟩
          have hw2 : wrap64 (10 * (q : Int) + ((x.toNat : Int) - 48)) = 10 * (q : Int) + ((x.toNat : Int) - 48) := IntWalk.wrap64_in _ ⟨by omega, by omega⟩
          have HST := hide hst
          have HAT := hide hat
          clear hst hat hq
          go_wp2
          go_round
          case rel => exact ⟨k + 1, by omega, hide (fun t h1 h2 h3 => by
            by_cases e : t = k
            · subst e; rw [HAT.out]; exact HX.out
            · exact hdg.out t h1 (by omega) h3), intEq (by rw [HST.out]; omega), by go_num⟩
          case measure => simp [intOf]; omega
    · obtain rfl : k = s.size := by omega
      have H := hide (show sdB s.data.toList = true from all_pre (l := s.data.toList) (by rw [HL.out]; exact hdg.out))
      have H2 : Hid ((pre s.data.toList 0 s.size : Int) = dv 0 s.data.toList) := hide (by rw [← HL.out, pre_end]; rfl)
      go_wp2
      go_returns
      exact ⟨retTwo (intEq (by rw [sdV_t H.out]; exact H2.out)) (boolEq H.out.symm), rfl⟩
theorem digitsI (s : ByteArray) (hs : s.size ≤ 2097152) (w : World) :
    Calls Tryd.prog 70 #[.string s] w fun e w' => ∃ v : Int, (dgB s.data.toList = true → v = dv 0 s.data.toList) ∧ e = .returned (.tuple #[.int .i64 v, .bool (dgB s.data.toList)]) ∧ w = w' := by
  have HL := hide (len_list s)
  by_cases h18 : s.size ≤ 18
  · go_enter Tryd.func70, Tryd.ntmps70
    go_wp2
    go_loop [4, 5] (fun n i => ∃ k : Nat, k ≤ s.size ∧ Hid (digsTo s.data.toList 0 k) ∧ n = .int .i64 (pre s.data.toList 0 k) ∧ i = .int .i64 k) (fun _ i => s.size - (intOf i).toNat)
    case atStart => exact ⟨0, Nat.zero_le _, hide (fun t h1 h2 => absurd h2 (by omega)), by rw [pre_start]; rfl, rfl⟩
    case round =>
      obtain ⟨k, hk, hdg, rfl, rfl⟩ := hrel
      have hpb := pre_bd hdg.out (by rw [HL.out]; exact hk) (Nat.zero_le _) (by omega)
      by_cases hlt : k < s.size
      · have hst := pre_step (l := s.data.toList) (a := 0) (k := k) (by rw [HL.out]; exact hlt) (Nat.zero_le _)
        have hpc := pre_bd17 hdg.out (by rw [HL.out]; exact hk) (Nat.zero_le _) (by omega)
        have hat := at_list s k hlt
        rw [hat] at hst
        obtain ⟨x, hx⟩ : ∃ x, s[k] = x := ⟨_, rfl⟩
        rw [hx] at hst hat
        obtain ⟨q, hq⟩ : ∃ q, pre s.data.toList 0 k = q := ⟨_, rfl⟩
        rw [hq] at hst hpb hpc ⊢
        by_cases hlo : x.toNat < 48
        · have H := hide (dgB_no (all_not (l := s.data.toList) (k := k) (by rw [HL.out]; exact hlt) (by rw [hat]; exact not_lo hlo)))
          clear hst hat hq
          go_wp2
          go_returns
          exact ⟨_, fun e => absurd (H.out.symm.trans e) (by decide), retTwo rfl (boolEq H.out.symm), rfl⟩
        · by_cases hhi : 57 < x.toNat
          · have H := hide (dgB_no (all_not (l := s.data.toList) (k := k) (by rw [HL.out]; exact hlt) (by rw [hat]; exact not_hi hhi)))
            clear hst hat hq
            go_wp2
            go_returns
            exact ⟨_, fun e => absurd (H.out.symm.trans e) (by decide), retTwo rfl (boolEq H.out.symm), rfl⟩
          · have HX : Hid (digB x = true) := hide (digB_iff.2 ⟨by omega, by omega⟩)
            have hw0 : IntKind.u8.wrap ((x.toNat : Int) - 48) = (x.toNat : Int) - 48 := IntWalk.u8_in _ (by omega)
            have hw1 : wrap64 (10 * (q : Int)) = 10 * (q : Int) := IntWalk.wrap64_in _ ⟨by omega, by omega⟩
            have hw2 : wrap64 (10 * (q : Int) + ((x.toNat : Int) - 48)) = 10 * (q : Int) + ((x.toNat : Int) - 48) := IntWalk.wrap64_in _ ⟨by omega, by omega⟩
            have HST := hide hst
            have HAT := hide hat
            clear hst hat hq
            go_wp2
            go_round
            case rel => exact ⟨k + 1, by omega, hide (fun t h1 h2 h3 => by
              by_cases e : t = k
              · subst e; rw [HAT.out]; exact HX.out
              · exact hdg.out t h1 (by omega) h3), intEq (by rw [HST.out]; omega), by go_num⟩
            case measure => simp [intOf]; omega
      · obtain rfl : k = s.size := by omega
        have H := hide (show inB (s.size : Int) 1 18 = dgB s.data.toList by rw [dgB_all (all_pre (l := s.data.toList) (by rw [HL.out]; exact hdg.out)), HL.out])
        have H2 : Hid ((pre s.data.toList 0 s.size : Int) = dv 0 s.data.toList) := hide (by rw [← HL.out, pre_end]; rfl)
        go_wp2_with (go_at_call 80; refine (inI _ _ _ _).mono ?_; rw [H.out]; rintro e w' ⟨rfl, rfl⟩)
        go_returns
        exact ⟨_, fun _ => H2.out, rfl, rfl⟩
  · have hlong : 18 < s.size := by omega
    clear h18
    have HN := hide (dgB_long (l := s.data.toList) (by rw [HL.out]; exact hlong))
    go_enter Tryd.func70, Tryd.ntmps70
    go_wp2
    go_loop [4, 5] (fun n i => ∃ (k : Nat) (m : Int), k ≤ s.size ∧ n = .int .i64 m ∧ i = .int .i64 k) (fun _ i => s.size - (intOf i).toNat)
    case atStart => exact ⟨0, 0, Nat.zero_le _, rfl, rfl⟩
    case round =>
      obtain ⟨k, m, hk, rfl, rfl⟩ := hrel
      by_cases hlt : k < s.size
      · obtain ⟨x, hx⟩ : ∃ x, s[k] = x := ⟨_, rfl⟩
        by_cases hlo : x.toNat < 48
        · go_wp2
          go_returns
          exact ⟨_, fun e => absurd (HN.out.symm.trans e) (by decide), retTwo rfl (boolEq HN.out.symm), rfl⟩
        · by_cases hhi : 57 < x.toNat
          · go_wp2
            go_returns
            exact ⟨_, fun e => absurd (HN.out.symm.trans e) (by decide), retTwo rfl (boolEq HN.out.symm), rfl⟩
          · have hw0 : IntKind.u8.wrap ((x.toNat : Int) - 48) = (x.toNat : Int) - 48 := IntWalk.u8_in _ (by omega)
            go_wp2
            go_round
            case rel => exact ⟨k + 1, _, by omega, rfl, by go_num⟩
            case measure => simp [intOf]; omega
      · obtain rfl : k = s.size := by omega
        have H := hide (show inB (s.size : Int) 1 18 = dgB s.data.toList by rw [HN.out]; exact decide_eq_false (by omega))
        go_wp2_with (go_at_call 80; refine (inI _ _ _ _).mono ?_; rw [H.out]; rintro e w' ⟨rfl, rfl⟩)
        go_returns
        exact ⟨_, fun e => absurd (HN.out.symm.trans e) (by decide), rfl, rfl⟩
theorem sdV_ge (l : List UInt8) : 0 ≤ sdV l := by unfold sdV; split <;> omega
theorem cut_bd (l sep : List UInt8) : (Lib.cut l sep).1.length ≤ l.length ∧ (Lib.cut l sep).2.1.length ≤ l.length := by
  unfold Lib.cut
  split
  · simp only [List.length_take, List.length_drop]; omega
  · simp
/-- what a clock's text is read as -/
def ckV (l : List UInt8) : Int := (ckOf l).getD 0
def ckB (l : List UInt8) : Bool := (ckOf l).isSome
theorem ckV_none {l : List UInt8} (h : ckOf l = none) : ckV l = 0 := by unfold ckV; rw [h]; rfl
theorem ckB_none {l : List UInt8} (h : ckOf l = none) : ckB l = false := by unfold ckB; rw [h]; rfl
theorem ckV_some {l : List UInt8} {n : Int} (h : ckOf l = some n) : ckV l = n := by unfold ckV; rw [h]; rfl
theorem ckB_some {l : List UInt8} {n : Int} (h : ckOf l = some n) : ckB l = true := by unfold ckB; rw [h]; rfl
theorem ck_len {l : List UInt8} (h : l.length ≠ 5) : ckOf l = none := by
  cases hk : ckOf l with
  | none => rfl
  | some n => obtain ⟨a, b, c, d, rfl, _⟩ := ckOf_some hk; simp at h
theorem ck_mid {l : List UInt8} (h : 2 < l.length) (k : l[2] ≠ 58) : ckOf l = none := by
  cases hk : ckOf l with
  | none => rfl
  | some n => obtain ⟨a, b, c, d, rfl, _⟩ := ckOf_some hk; simp at k
theorem ck_parts {l : List UInt8} (h5 : l.length = 5) (k : l[2] = 58) : ckOf l = if sdB (l.take 2) = true ∧ sdB (l.drop 3) = true ∧ sdV (l.take 2) ≤ 23 ∧ sdV (l.drop 3) ≤ 59 then some (60 * sdV (l.take 2) + sdV (l.drop 3)) else none := by
  match l, h5, k with
  | [a, b, x, c, d], _, k =>
    simp only [List.getElem_cons_succ, List.getElem_cons_zero] at k
    subst k
    show ckOf [a, b, 58, c, d] = if sdB [a, b] = true ∧ sdB [c, d] = true ∧ sdV [a, b] ≤ 23 ∧ sdV [c, d] ≤ 59 then some (60 * sdV [a, b] + sdV [c, d]) else none
    have e1 : sdB [a, b] = (digB a && digB b) := by simp [sdB]
    have e2 : sdB [c, d] = (digB c && digB d) := by simp [sdB]
    rw [ckOf_5]
    by_cases p : sdB [a, b] = true
    · by_cases q : sdB [c, d] = true
      · rw [sdV_t p, sdV_t q]
        rw [e1, Bool.and_eq_true] at p
        rw [e2, Bool.and_eq_true] at q
        by_cases r : dv 0 [a, b] ≤ 23 ∧ dv 0 [c, d] ≤ 59
        · rw [if_pos ⟨rfl, p, q, r.1, r.2⟩, if_pos ⟨by rw [e1, p.1, p.2]; rfl, by rw [e2, q.1, q.2]; rfl, by omega, by omega⟩]
        · rw [if_neg (fun t => r ⟨t.2.2.2.1, t.2.2.2.2⟩), if_neg (fun t => r ⟨by omega, by omega⟩)]
      · rw [if_neg (fun t => q (by rw [e2, t.2.2.1.1, t.2.2.1.2]; rfl)), if_neg (fun t => q t.2.1)]
    · rw [if_neg (fun t => p (by rw [e1, t.2.1.1, t.2.1.2]; rfl)), if_neg (fun t => p t.1)]
theorem rdClockS (s : ByteArray) (w : World) :
    Calls Tryd.prog 27 #[.string s] w fun e w' => e = .returned (.tuple #[.int .i64 (ckV s.data.toList), .bool (ckB s.data.toList)]) ∧ w = w' := by
  have hL := len_list s
  by_cases h5 : s.size = 5
  · by_cases h2 : s.data.toList[2]'(by omega) = 58
    · have hp := ck_parts (by omega) h2
      have e0 : ((s.size : Int) == 5) = true := by simp [h5]
      have e1 : s[2] = 58 := h2
      obtain ⟨p, ep⟩ : ∃ p, s.extract 0 2 = p := ⟨_, rfl⟩
      obtain ⟨q, eq⟩ : ∃ q, s.extract 3 5 = q := ⟨_, rfl⟩
      have e35 : s.extract 3 5 = s.extract 3 s.size := by rw [h5]
      have lp : p.data.toList = s.data.toList.take 2 := by rw [← ep]; exact Lib.extract_from_zero s 2
      have lq : q.data.toList = s.data.toList.drop 3 := by rw [← eq, e35]; exact Lib.extract_to_end s 3
      have zp : p.size ≤ 18 := by rw [← len_list p, lp, List.length_take]; omega
      have zq : q.size ≤ 18 := by rw [← len_list q, lq, List.length_drop]; omega
      rw [← lp, ← lq] at hp
      clear e35
      have gp := sdV_ge p.data.toList
      have gq := sdV_ge q.data.toList
      obtain ⟨vp, hvp⟩ : ∃ v, sdV p.data.toList = v := ⟨_, rfl⟩
      obtain ⟨vq, hvq⟩ : ∃ v, sdV q.data.toList = v := ⟨_, rfl⟩
      obtain ⟨bp, hbp⟩ : ∃ v, sdB p.data.toList = v := ⟨_, rfl⟩
      obtain ⟨bq, hbq⟩ : ∃ v, sdB q.data.toList = v := ⟨_, rfl⟩
      rw [hvp, hvq, hbp, hbq] at hp
      rw [hvp] at gp
      rw [hvq] at gq
      have HP := hide hp
      have A1 := hide hvp
      have A2 := hide hvq
      have A3 := hide hbp
      have A4 := hide hbq
      clear hp hvp hvq hbp hbq lp lq hL h2
      by_cases hc : bp = true ∧ bq = true ∧ vp ≤ 23 ∧ vq ≤ 59
      · obtain ⟨rfl, rfl, c1, c2⟩ := hc
        have H := HP.out
        rw [if_pos ⟨rfl, rfl, c1, c2⟩] at H
        have HB := hide (ckB_some H)
        have HV := hide (ckV_some H)
        clear H
        go_enter Tryd.func27, Tryd.ntmps27
        go_wp2_with fail
        refine (digitsS p zp w).mono ?_
        rw [A1.out, A3.out]
        rintro e w' ⟨rfl, rfl⟩
        go_wp2_with fail
        refine (digitsS q zq w).mono ?_
        rw [A2.out, A4.out]
        rintro e w' ⟨rfl, rfl⟩
        go_wp2_with fail
        go_returns
        exact ⟨retTwo (intEq HV.out.symm) (boolEq HB.out.symm), rfl⟩
      · have H := HP.out
        rw [if_neg hc] at H
        have HB := hide (ckB_none H)
        have HV := hide (ckV_none H)
        clear H
        go_enter Tryd.func27, Tryd.ntmps27
        go_wp2_with fail
        refine (digitsS p zp w).mono ?_
        rw [A1.out, A3.out]
        rintro e w' ⟨rfl, rfl⟩
        go_wp2_with fail
        refine (digitsS q zq w).mono ?_
        rw [A2.out, A4.out]
        rintro e w' ⟨rfl, rfl⟩
        clear A1 A2 A3 A4 HP
        cases bp
        · go_wp2_with fail
          go_returns
          exact ⟨retTwo (intEq HV.out.symm) (boolEq HB.out.symm), rfl⟩
        · cases bq
          · go_wp2_with fail
            go_returns
            exact ⟨retTwo (intEq HV.out.symm) (boolEq HB.out.symm), rfl⟩
          · by_cases c1 : vp ≤ 23
            · have c2 : 59 < vq := by
                rcases Int.lt_or_le 59 vq with k | k
                · exact k
                · exact absurd ⟨rfl, rfl, c1, k⟩ hc
              clear hc
              go_wp2_with fail
              go_returns
              exact ⟨retTwo (intEq HV.out.symm) (boolEq HB.out.symm), rfl⟩
            · clear hc
              go_wp2_with fail
              go_returns
              exact ⟨retTwo (intEq HV.out.symm) (boolEq HB.out.symm), rfl⟩
    · have H := ck_mid (by omega) h2
      have HB := hide (ckB_none H)
      have HV := hide (ckV_none H)
      have e0 : ((s.size : Int) == 5) = true := by simp [h5]
      obtain ⟨x, e1⟩ : ∃ x, s[2] = x := ⟨_, rfl⟩
      have hx : ((x.toNat : Int) == 58) = false := beq_false_of_ne (fun e => h2 (by show s[2] = 58; rw [e1, ← UInt8.toNat_inj]; show x.toNat = 58; omega))
      clear h2 H
      go_enter Tryd.func27, Tryd.ntmps27
      go_wp2
      go_returns
      exact ⟨retTwo (intEq HV.out.symm) (boolEq HB.out.symm), rfl⟩
  · have H := ck_len (l := s.data.toList) (by omega)
    have HB := hide (ckB_none H)
    have HV := hide (ckV_none H)
    have e0 : ((s.size : Int) == 5) = false := beq_false_of_ne (by omega)
    clear h5 hL H
    go_enter Tryd.func27, Tryd.ntmps27
    go_wp2
    go_returns
    exact ⟨retTwo (intEq HV.out.symm) (boolEq HB.out.symm), rfl⟩
theorem rdClockI (s : ByteArray) (hs : s.size ≤ 2097152) (w : World) (hp : Pow w) (hm : Mx w) :
    Calls Tryd.prog 28 #[.string s] w fun e w' => e = .returned (.tuple #[.int .i64 (ckV s.data.toList), .bool (ckB s.data.toList)]) ∧ Below w.heap.size w w' := by
  have HP := hide hp
  have HM := hide hm
  clear hp hm
  obtain ⟨p, ep⟩ : ∃ p : ByteArray, p = ⟨(Lib.cut s.data.toList [58]).1.toArray⟩ := ⟨_, rfl⟩
  obtain ⟨q, eq⟩ : ∃ q : ByteArray, q = ⟨(Lib.cut s.data.toList [58]).2.1.toArray⟩ := ⟨_, rfl⟩
  obtain ⟨bf, hbf⟩ : ∃ b, b = (Lib.cut s.data.toList [58]).2.2 := ⟨_, rfl⟩
  have lp : p.data.toList = (Lib.cut s.data.toList [58]).1 := by rw [ep]
  have lq : q.data.toList = (Lib.cut s.data.toList [58]).2.1 := by rw [eq]
  obtain ⟨zp, zq⟩ := cut_bd s.data.toList [58]
  rw [← lp, len_list, len_list] at zp
  rw [← lq, len_list, len_list] at zq
  have EP := hide ep
  have EQ := hide eq
  have EF := hide hbf
  have LP := hide lp
  have LQ := hide lq
  clear ep eq hbf lp lq
  by_cases hk : ckI s.data.toList
  · have H := ck_yes hk
    obtain ⟨k1, k2, k3, k4⟩ := hk
    rw [← LP.out] at H k1 k3 k4
    rw [← LQ.out] at H k2 k4
    have HB := hide (ckB_some H)
    have HV := hide (ckV_some H)
    have K1 := hide k1
    have K2 := hide k2
    have b1 := dgB_bd k1
    have b2 := dgB_bd k2
    have Q : (!(⟨(clockV (60 * (dv 0 p.data.toList : Int) + dv 0 q.data.toList)).toArray⟩ : ByteArray).toList == s.toList) = false := by rw [Lib.toList_data, Lib.toList_data, k4]; simp
    obtain ⟨x, hx⟩ : ∃ x : ByteArray, x = ⟨(clockV (60 * (dv 0 p.data.toList : Int) + dv 0 q.data.toList)).toArray⟩ := ⟨_, rfl⟩
    rw [← hx] at Q
    have HX := hide hx
    clear hx H k1 k2 k4
    go_enter Tryd.func28, Tryd.ntmps28
    go_wp2_with fail
    refine (cutI s ⟨#[58]⟩ hs w HM.out).mono ?_
    rintro e w1 ⟨rfl, hb1⟩
    rw [← EP.out, ← EQ.out, ← EF.out]
    go_wp2_with fail
    refine (digitsI p (by omega) w1).mono ?_
    rintro e w' ⟨vp, hvp, rfl, rfl⟩
    rw [K1.out]
    obtain rfl := hvp K1.out
    clear hvp
    go_wp2_with fail
    refine (digitsI q (by omega) w1).mono ?_
    rintro e w' ⟨vq, hvq, rfl, rfl⟩
    rw [K2.out]
    obtain rfl := hvq K2.out
    clear hvq
    have HP1 := hide (HP.out.below hb1)
    obtain ⟨a, ha⟩ : ∃ a, dv 0 p.data.toList = a := ⟨_, rfl⟩
    obtain ⟨b, hb⟩ : ∃ b, dv 0 q.data.toList = b := ⟨_, rfl⟩
    rw [ha, hb] at HV HX
    rw [ha] at b1 k3 ⊢
    rw [hb] at b2 ⊢
    clear ha hb
    go_wp2_with fail
    refine (clockI (60 * (a : Int) + b) w1 HP1.out).mono ?_
    rintro e w2 ⟨rfl, hb2⟩
    rw [← HX.out]
    have hB2 := below_next (w0 := w) hb2 hb1
    clear hb1 hb2
    go_wp2_with fail
    go_returns
    exact ⟨retTwo (intEq HV.out.symm) (boolEq HB.out.symm), hB2⟩
  · have H := ck_no hk
    have HB := hide (ckB_none H)
    have HV := hide (ckV_none H)
    unfold ckI at hk
    rw [← LP.out, ← LQ.out] at hk
    have HK := hide hk
    clear H hk
    go_enter Tryd.func28, Tryd.ntmps28
    go_wp2_with fail
    refine (cutI s ⟨#[58]⟩ hs w HM.out).mono ?_
    rintro e w1 ⟨rfl, hb1⟩
    rw [← EP.out, ← EQ.out, ← EF.out]
    go_wp2_with fail
    refine (digitsI p (by omega) w1).mono ?_
    rintro e w' ⟨vp, hvp, rfl, rfl⟩
    go_wp2_with fail
    refine (digitsI q (by omega) w1).mono ?_
    rintro e w' ⟨vq, hvq, rfl, rfl⟩
    have HP1 := hide (HP.out.below hb1)
    have VP := hide hvp
    have VQ := hide hvq
    clear hvp hvq
    cases hdp : dgB p.data.toList
    · clear hdp
      go_wp2_with fail
      go_returns
      exact ⟨retTwo (intEq HV.out.symm) (boolEq HB.out.symm), hb1⟩
    · cases hdq : dgB q.data.toList
      · clear hdp hdq
        go_wp2_with fail
        go_returns
        exact ⟨retTwo (intEq HV.out.symm) (boolEq HB.out.symm), hb1⟩
      · obtain rfl := VP.out hdp
        obtain rfl := VQ.out hdq
        have b1 := dgB_bd hdp
        have b2 := dgB_bd hdq
        by_cases k3 : dv 0 p.data.toList ≤ 23
        · have Q : (!(⟨(clockV (60 * (dv 0 p.data.toList : Int) + dv 0 q.data.toList)).toArray⟩ : ByteArray).toList == s.toList) = true := by
            rw [Lib.toList_data, Lib.toList_data]
            have : clockV (60 * (dv 0 p.data.toList : Int) + dv 0 q.data.toList) ≠ s.data.toList := fun e => HK.out ⟨hdp, hdq, k3, e⟩
            simpa using this
          obtain ⟨x, hx⟩ : ∃ x : ByteArray, x = ⟨(clockV (60 * (dv 0 p.data.toList : Int) + dv 0 q.data.toList)).toArray⟩ := ⟨_, rfl⟩
          rw [← hx] at Q
          obtain ⟨a, ha⟩ : ∃ a, dv 0 p.data.toList = a := ⟨_, rfl⟩
          obtain ⟨b, hb⟩ : ∃ b, dv 0 q.data.toList = b := ⟨_, rfl⟩
          rw [ha, hb] at hx
          have HX := hide hx
          rw [ha] at b1 k3 ⊢
          rw [hb] at b2 ⊢
          clear ha hb hdp hdq hx VP VQ HK
          go_wp2_with fail
          refine (clockI (60 * (a : Int) + b) w1 HP1.out).mono ?_
          rintro e w2 ⟨rfl, hb2⟩
          rw [← HX.out]
          have hB2 := below_next (w0 := w) hb2 hb1
          clear hb1 hb2
          go_wp2_with fail
          go_returns
          exact ⟨retTwo (intEq HV.out.symm) (boolEq HB.out.symm), hB2⟩
        · clear hdp hdq
          go_wp2_with fail
          go_returns
          exact ⟨retTwo (intEq HV.out.symm) (boolEq HB.out.symm), hb1⟩
theorem fnExactReadClock_walk (s : ByteArray) (hs : s.size ≤ maxLen) (w : World) (hp : Pow w) (hm : Mx w) :
    Calls Tryd.prog 8 #[.string s] w fun e w' => e = .returned (.bool true) ∧ Below w.heap.size w w' := by
  unfold maxLen at hs
  have HP := hide hp
  have HM := hide hm
  clear hp hm
  by_cases hl : s.size ≤ 1048576
  · go_enter Tryd.func8, Tryd.ntmps8
    go_wp2_with fail
    refine (rdClockS s w).mono ?_
    rintro e w' ⟨rfl, rfl⟩
    go_wp2_with fail
    refine (rdClockI s (by omega) w HP.out HM.out).mono ?_
    rintro e w1 ⟨rfl, hb1⟩
    go_wp2_with fail
    go_ret
    exact ⟨rfl, hb1⟩
  · go_enter Tryd.func8, Tryd.ntmps8
    go_wp2_with fail
    go_ret
    exact ⟨rfl, Below.refl _ _⟩
end Go.Proofs.YtphlbpailmdndaaDoor
