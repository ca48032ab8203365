--%!
/- Contract: the reference's reading of a decimal number out of a text. Own work. -/
import Derived.Test.YtphlbpailmdndaaDoorNums
import Derived.Test.YtphlbpailmdndaaDoorNumMath
namespace Go.Proofs.YtphlbpailmdndaaDoor
open Go.ChangeShapes Go.WideShapes Go.ChangeAt Go.RowKit
set_option linter.unusedVariables false
set_option maxRecDepth 100000
set_option maxHeartbeats 4000000

theorem retTwo {a b c d : Value} (h : a = c) (k : b = d) : Ending.returned (.tuple #[a, b]) = .returned (.tuple #[c, d]) := by rw [h, k]
theorem intEq {k : IntKind} {a b : Int} (h : a = b) : Value.int k a = .int k b := by rw [h]
theorem boolEq {a b : Bool} (h : a = b) : Value.bool a = .bool b := by rw [h]
theorem len_list (s : ByteArray) : s.data.toList.length = s.size := by rw [Array.length_toList]; rfl
theorem at_list (s : ByteArray) (k : Nat) (h : k < s.size) : s.data.toList[k]'(by rw [len_list]; exact h) = s[k] := rfl
theorem digS (c : UInt8) (w : World) : Calls Tryd.prog 91 #[.int .u8 (c.toNat : Int)] w fun e w' => e = .returned (.bool (digB c)) ∧ w = w' := by
  by_cases h1 : 48 ≤ c.toNat
  · by_cases h2 : c.toNat ≤ 57
    · have H := hide (digB_iff.2 ⟨h1, h2⟩)
      have d2 : decide ((c.toNat : Int) ≤ 57) = true := by simp; omega
      go_enter Tryd.func91, Tryd.ntmps91
      go_wp2
      go_ret
      exact ⟨ret_bool H.out.symm, rfl⟩
    · have H : Hid (digB c = false) := hide (decide_eq_false (fun k => h2 k.2))
      have d2 : decide ((c.toNat : Int) ≤ 57) = false := by simp; omega
      go_enter Tryd.func91, Tryd.ntmps91
      go_wp2
      go_ret
      exact ⟨ret_bool H.out.symm, rfl⟩
  · have H : Hid (digB c = false) := hide (decide_eq_false (fun k => h1 k.1))
    have d1 : decide ((48 : Int) ≤ (c.toNat : Int)) = false := by simp; omega
    go_enter Tryd.func91, Tryd.ntmps91
    go_wp2
    go_ret
    exact ⟨ret_bool H.out.symm, rfl⟩
/-- the value of a text's digits from a place on, up to another -/
def pre (l : List UInt8) (a k : Nat) : Nat := dv 0 ((l.take k).drop a)
theorem pre_step {l : List UInt8} {a k : Nat} (h : k < l.length) (ha : a ≤ k) : pre l a (k + 1) = 10 * pre l a k + (l[k].toNat - 48) := by
  unfold pre
  rw [List.take_succ_eq_append_getElem h, List.drop_append_of_le_length (by rw [List.length_take]; omega), dv_snoc]
theorem pre_start (l : List UInt8) (a : Nat) : pre l a a = 0 := by unfold pre; rw [List.drop_take]; simp [dv]
theorem pre_end (l : List UInt8) (a : Nat) : pre l a l.length = dv 0 (l.drop a) := by unfold pre; rw [List.take_length]
def digsTo (l : List UInt8) (a k : Nat) : Prop := ∀ t, a ≤ t → t < k → ∀ h : t < l.length, digB l[t] = true
theorem pre_bd {l : List UInt8} {a k : Nat} (h : digsTo l a k) (hk : k ≤ l.length) (ha : a ≤ k) (h18 : k - a ≤ 18) : pre l a k < 1000000000000000000 := by
  have e : ((l.take k).drop a).all digB = true := by
    refine List.all_eq_true.2 fun x hx => ?_
    obtain ⟨i, hi, rfl⟩ := List.getElem_of_mem hx
    rw [List.getElem_drop, List.getElem_take]
    rw [List.length_drop, List.length_take] at hi
    exact h (a + i) (by omega) (by omega) (by omega)
  have h := dv_lt e (show 0 < 10 ^ 0 by decide)
  rw [List.length_drop, List.length_take] at h
  have h2 : 10 ^ (0 + (min k l.length - a)) ≤ 10 ^ 18 := Nat.pow_le_pow_right (by decide) (by omega)
  exact Nat.lt_of_lt_of_le h (Nat.le_trans h2 (by decide))
theorem pre_bd17 {l : List UInt8} {a k : Nat} (h : digsTo l a k) (hk : k ≤ l.length) (ha : a ≤ k) (h17 : k - a ≤ 17) : pre l a k < 100000000000000000 := by
  have e : ((l.take k).drop a).all digB = true := by
    refine List.all_eq_true.2 fun x hx => ?_
    obtain ⟨i, hi, rfl⟩ := List.getElem_of_mem hx
    rw [List.getElem_drop, List.getElem_take]
    rw [List.length_drop, List.length_take] at hi
    exact h (a + i) (by omega) (by omega) (by omega)
  have h := dv_lt e (show 0 < 10 ^ 0 by decide)
  rw [List.length_drop, List.length_take] at h
  have h2 : 10 ^ (0 + (min k l.length - a)) ≤ 10 ^ 17 := Nat.pow_le_pow_right (by decide) (by omega)
  exact Nat.lt_of_lt_of_le h (Nat.le_trans h2 (by decide))
theorem digs_all {l : List UInt8} {a : Nat} (h : digsTo l a l.length) : (l.drop a).all digB = true := by
  refine List.all_eq_true.2 fun x hx => ?_
  obtain ⟨i, hi, rfl⟩ := List.getElem_of_mem hx
  rw [List.getElem_drop]
  rw [List.length_drop] at hi
  exact h (a + i) (by omega) (by omega) (by omega)
theorem digs_no {l : List UInt8} {a k : Nat} (ha : a ≤ k) (hk : k < l.length) (h : digB l[k] = false) : (l.drop a).all digB = false := by
  cases e : (l.drop a).all digB with
  | false => rfl
  | true =>
    have hm : l[k] ∈ l.drop a := by
      have : l[k] = (l.drop a)[k - a]'(by rw [List.length_drop]; omega) := by
        rw [List.getElem_drop]
        congr 1; omega
      rw [this]; exact List.getElem_mem _
    rw [List.all_eq_true.1 e _ hm] at h; cases h
theorem numB_digits {l : List UInt8} (h : (bodyOf l).all digB = false) : numB l = false := by unfold numB; rw [h, Bool.and_false]
theorem body_0 {l : List UInt8} (h : (hl : 0 < l.length) → l[0]'hl ≠ 45) : negB l = false ∧ bodyOf l = l.drop 0 := by
  have hn : negB l = false := by
    unfold negB
    refine decide_eq_false fun e => ?_
    cases l with
    | nil => cases e
    | cons c r => exact h (by simp) (by simpa using e)
  exact ⟨hn, by unfold bodyOf; rw [hn]; rfl⟩
theorem body_1 {l : List UInt8} (hl : 0 < l.length) (h : l[0] = 45) : negB l = true ∧ bodyOf l = l.drop 1 := by
  cases l with
  | nil => cases hl
  | cons c r =>
    have hn : negB (c :: r) = true := by
      unfold negB
      exact decide_eq_true (by simp only [List.getElem_cons_zero] at h; rw [h]; rfl)
    exact ⟨hn, by unfold bodyOf; rw [hn]; rfl⟩
theorem l01NumberS (s : ByteArray) (hs : s.size ≤ 2097152) (w : World) :
    Calls Tryd.prog 57 #[.string s] w fun e w' => e = .returned (.tuple #[.int .i64 (numV s.data.toList), .bool (numB s.data.toList)]) ∧ w = w' := by
  have hL := len_list s
  by_cases h0 : s.size = 0
  · have hnil : s.data.toList = [] := List.eq_nil_of_length_eq_zero (by rw [hL, h0])
    have H : Hid (numB s.data.toList = false) := hide (by rw [hnil]; rfl)
    have H2 := hide (numV_f H.out)
    have z1 : ((s.size : Int) == 0) = true := by simp [h0]
    have hle : s.size ≤ 0 := by omega
    clear hnil h0 hL
    go_enter Tryd.func57, Tryd.ntmps57
    go_wp2
    go_returns
    exact ⟨retTwo (intEq H2.out.symm) (boolEq H.out.symm), rfl⟩
  · have hpos : 0 < s.size := by omega
    obtain ⟨c, hc⟩ : ∃ c, s[0] = c := ⟨_, rfl⟩
    have hc' : s.data.toList[0]'(by omega) = c := hc
    by_cases hneg : c = 45
    · obtain ⟨hn, hbo⟩ := body_1 (l := s.data.toList) (by omega) (by rw [hc', hneg])
      have g1 : ((c.toNat : Int) == 45) = true := by rw [hneg]; rfl
      have hbl : (bodyOf s.data.toList).length = s.size - 1 := by rw [hbo, List.length_drop, hL]
      clear hneg
      by_cases h1 : s.size = 1
      · have H : Hid (numB s.data.toList = false) := hide (by unfold numB; rw [decide_eq_false (fun k => k.1 (List.eq_nil_of_length_eq_zero (by rw [hbl, h1])))]; rfl)
        have H2 := hide (numV_f H.out)
        have e1 : ((s.size : Int) == 1) = true := by simp [h1]
        have hle : s.size ≤ 1 := by omega
        have hc0 := hc
        clear hbl hbo hn hL h1 hc' h0
        go_enter Tryd.func57, Tryd.ntmps57
        go_wp2
        go_returns
        exact ⟨retTwo (intEq H2.out.symm) (boolEq H.out.symm), rfl⟩
      · have e1 : ((s.size : Int) == 1) = false := beq_false_of_ne (by omega)
        by_cases h18 : 18 < s.size - 1
        · have H := hide (numB_long (l := s.data.toList) (by rw [hbl]; exact h18))
          have H2 := hide (numV_f H.out)
          have e2 : decide ((18 : Int) < (s.size : Int) - 1) = true := by simp; omega
          have h18' : 19 < s.size := by omega
          clear hbl hbo hn hL h1 hc' h0 h18
          go_enter Tryd.func57, Tryd.ntmps57
          go_wp2
          go_returns
          exact ⟨retTwo (intEq H2.out.symm) (boolEq H.out.symm), rfl⟩
        · have e2 : decide ((18 : Int) < (s.size : Int) - 1) = false := by simp; omega
          have ha1 : 1 < s.size := by omega
          obtain ⟨d, hd⟩ : ∃ d, s[1] = d := ⟨_, rfl⟩
          have hd' : s.data.toList[1]'(by omega) = d := hd
          have hhead : (bodyOf s.data.toList).head? = some d := by rw [hbo, List.head?_drop, List.getElem?_eq_getElem (by omega), hd']
          by_cases hz : d = 48 ∧ 1 < s.size
          · have H : Hid (numB s.data.toList = false) := hide (by unfold numB; rw [decide_eq_false (fun k => k.2.2 ⟨by rw [hhead, hz.1], by rw [hL]; exact hz.2⟩)]; rfl)
            have H2 := hide (numV_f H.out)
            obtain ⟨hz1, hz2⟩ := hz
            have e3 : ((d.toNat : Int) == 48) = true := by rw [hz1]; rfl
            have e4 : decide ((1 : Int) < (s.size : Int)) = true := by simp; omega
            have h18' : s.size ≤ 19 := by omega
            clear hbl hbo hn hL h1 hc' h0 h18 hhead hz1 hd'
            go_enter Tryd.func57, Tryd.ntmps57
            go_wp2
            go_returns
            exact ⟨retTwo (intEq H2.out.symm) (boolEq H.out.symm), rfl⟩
          · by_cases hz1 : d = 48
            · have e3 : ((d.toNat : Int) == 48) = true := by rw [hz1]; rfl
              have hs1 : s.size ≤ 1 := by
                rcases Nat.lt_or_ge 1 s.size with k | k
                · exact absurd ⟨hz1, k⟩ hz
                · exact k
              have e4 : decide ((1 : Int) < (s.size : Int)) = false := by simp; omega
              have HG : Hid (∀ h : (bodyOf s.data.toList).all digB = true, numB s.data.toList = true) := hide (fun h => by
                unfold numB
                rw [h, decide_eq_true (show bodyOf s.data.toList ≠ [] ∧ (bodyOf s.data.toList).length ≤ 18 ∧ ¬ ((bodyOf s.data.toList).head? = some 48 ∧ 1 < s.data.toList.length) from ⟨fun e => by rw [e] at hbl; simp only [List.length_nil] at hbl; omega, by rw [hbl]; omega, fun k => by have := k.2; rw [hL] at this; omega⟩)]
                rfl)
              have HBo := hide hbo
              have HNn := hide hn
              have HL := hide hL
              have h18' : s.size ≤ 19 := by omega
              clear hbl hbo hn hL h1 hc' h0 h18 hhead hz1 hz hd'
              go_enter Tryd.func57, Tryd.ntmps57
              go_wp2
              go_loop [5, 6] (fun n i => ∃ k : Nat, 1 ≤ k ∧ k ≤ s.size ∧ Hid (digsTo s.data.toList 1 k) ∧ n = .int .i64 (pre s.data.toList 1 k) ∧ i = .int .i64 k) (fun _ i => s.size - (intOf i).toNat)
              case atStart => exact ⟨1, Nat.le_refl _, by omega, hide (fun t h1 h2 => absurd h1 (by omega)), by rw [pre_start]; rfl, rfl⟩
              case round =>
                clear e1 e2 e3 g1 hd hc
                obtain ⟨k, hk0, hk, hdg, rfl, rfl⟩ := hrel
                have hpb := pre_bd hdg.out (by rw [HL.out]; exact hk) hk0 (by omega)
                by_cases hlt : k < s.size
                · have hst := pre_step (l := s.data.toList) (a := 1) (k := k) (by rw [HL.out]; exact hlt) hk0
                  have hpc := pre_bd17 hdg.out (by rw [HL.out]; exact hk) hk0 (by omega)
                  have hat := at_list s k hlt
                  rw [hat] at hst
                  obtain ⟨x, hx⟩ : ∃ x, s[k] = x := ⟨_, rfl⟩
                  rw [hx] at hst hat
                  obtain ⟨q, hq⟩ : ∃ q, pre s.data.toList 1 k = q := ⟨_, rfl⟩
                  rw [hq] at hst hpb hpc ⊢
                  cases hdx : digB x
                  · have H := hide (numB_digits (l := s.data.toList) (by rw [HBo.out]; exact digs_no hk0 (by rw [HL.out]; exact hlt) (by rw [hat]; exact hdx)))
                    have H2 := hide (numV_f H.out)
                    have HX := hide hdx
                    clear hst hat hq hdx
                    go_wp2_with (go_at_call 91; refine (digS _ _).mono ?_; rw [HX.out]; rintro e w' ⟨rfl, rfl⟩)
                    go_returns
                    exact ⟨retTwo (intEq H2.out.symm) (boolEq H.out.symm), rfl⟩
                  · have hxb := digB_iff.1 hdx
                    have HX := hide hdx
                    have hw1 : wrap64 (10 * (q : Int)) = 10 * (q : Int) := IntWalk.wrap64_in _ ⟨by omega, by omega⟩
                    have hw2 : wrap64 (10 * (q : Int) + ((x.toNat : Int) - 48)) = 10 * (q : Int) + ((x.toNat : Int) - 48) := IntWalk.wrap64_in _ ⟨by omega, by omega⟩
                    have HST := hide hst
                    have HAT := hide hat
                    clear hst hat hq hdx
                    go_wp2_with (go_at_call 91; refine (digS _ _).mono ?_; rw [HX.out]; rintro e w' ⟨rfl, rfl⟩)
                    go_round
                    case rel => exact ⟨k + 1, by omega, by omega, hide (fun t h1 h2 h3 => by
                      by_cases e : t = k
                      · subst e; rw [HAT.out]; exact HX.out
                      · exact hdg.out t h1 (by omega) h3), intEq (by rw [HST.out]; omega), by go_num⟩
                    case measure => simp [intOf]; omega
                · obtain rfl : k = s.size := by omega
                  have hall : (bodyOf s.data.toList).all digB = true := by rw [HBo.out]; exact digs_all (by rw [HL.out]; exact hdg.out)
                  have H := hide (HG.out hall)
                  have H2 : Hid (numV s.data.toList = -(pre s.data.toList 1 s.size : Int)) := hide (by rw [numV_t H.out, HNn.out, HBo.out, ← pre_end, HL.out]; rfl)
                  clear hall
                  go_wp2
                  go_returns
                  exact ⟨retTwo (intEq H2.out.symm) (boolEq H.out.symm), rfl⟩
            · have e3 : ((d.toNat : Int) == 48) = false := by
                have : d.toNat ≠ 48 := fun e => hz1 (by rw [← UInt8.toNat_inj]; exact e)
                simp; omega
              have HG : Hid (∀ h : (bodyOf s.data.toList).all digB = true, numB s.data.toList = true) := hide (fun h => by
                unfold numB
                rw [h, decide_eq_true (show bodyOf s.data.toList ≠ [] ∧ (bodyOf s.data.toList).length ≤ 18 ∧ ¬ ((bodyOf s.data.toList).head? = some 48 ∧ 1 < s.data.toList.length) from ⟨fun e => by rw [e] at hbl; simp only [List.length_nil] at hbl; omega, by rw [hbl]; omega, fun k => by rw [hhead] at k; exact hz1 (Option.some.inj k.1)⟩)]
                rfl)
              have HBo := hide hbo
              have HNn := hide hn
              have HL := hide hL
              have h18' : s.size ≤ 19 := by omega
              clear hbl hbo hn hL h1 hc' h0 h18 hhead hz1 hz hd'
              go_enter Tryd.func57, Tryd.ntmps57
              go_wp2
              go_loop [5, 6] (fun n i => ∃ k : Nat, 1 ≤ k ∧ k ≤ s.size ∧ Hid (digsTo s.data.toList 1 k) ∧ n = .int .i64 (pre s.data.toList 1 k) ∧ i = .int .i64 k) (fun _ i => s.size - (intOf i).toNat)
              case atStart => exact ⟨1, Nat.le_refl _, by omega, hide (fun t h1 h2 => absurd h1 (by omega)), by rw [pre_start]; rfl, rfl⟩
              case round =>
                clear e1 e2 e3 g1 hd hc
                obtain ⟨k, hk0, hk, hdg, rfl, rfl⟩ := hrel
                have hpb := pre_bd hdg.out (by rw [HL.out]; exact hk) hk0 (by omega)
                by_cases hlt : k < s.size
                · have hst := pre_step (l := s.data.toList) (a := 1) (k := k) (by rw [HL.out]; exact hlt) hk0
                  have hpc := pre_bd17 hdg.out (by rw [HL.out]; exact hk) hk0 (by omega)
                  have hat := at_list s k hlt
                  rw [hat] at hst
                  obtain ⟨x, hx⟩ : ∃ x, s[k] = x := ⟨_, rfl⟩
                  rw [hx] at hst hat
                  obtain ⟨q, hq⟩ : ∃ q, pre s.data.toList 1 k = q := ⟨_, rfl⟩
                  rw [hq] at hst hpb hpc ⊢
                  cases hdx : digB x
                  · have H := hide (numB_digits (l := s.data.toList) (by rw [HBo.out]; exact digs_no hk0 (by rw [HL.out]; exact hlt) (by rw [hat]; exact hdx)))
                    have H2 := hide (numV_f H.out)
                    have HX := hide hdx
                    clear hst hat hq hdx
                    go_wp2_with (go_at_call 91; refine (digS _ _).mono ?_; rw [HX.out]; rintro e w' ⟨rfl, rfl⟩)
                    go_returns
                    exact ⟨retTwo (intEq H2.out.symm) (boolEq H.out.symm), rfl⟩
                  · have hxb := digB_iff.1 hdx
                    have HX := hide hdx
                    have hw1 : wrap64 (10 * (q : Int)) = 10 * (q : Int) := IntWalk.wrap64_in _ ⟨by omega, by omega⟩
                    have hw2 : wrap64 (10 * (q : Int) + ((x.toNat : Int) - 48)) = 10 * (q : Int) + ((x.toNat : Int) - 48) := IntWalk.wrap64_in _ ⟨by omega, by omega⟩
                    have HST := hide hst
                    have HAT := hide hat
                    clear hst hat hq hdx
                    go_wp2_with (go_at_call 91; refine (digS _ _).mono ?_; rw [HX.out]; rintro e w' ⟨rfl, rfl⟩)
                    go_round
                    case rel => exact ⟨k + 1, by omega, by omega, hide (fun t h1 h2 h3 => by
                      by_cases e : t = k
                      · subst e; rw [HAT.out]; exact HX.out
                      · exact hdg.out t h1 (by omega) h3), intEq (by rw [HST.out]; omega), by go_num⟩
                    case measure => simp [intOf]; omega
                · obtain rfl : k = s.size := by omega
                  have hall : (bodyOf s.data.toList).all digB = true := by rw [HBo.out]; exact digs_all (by rw [HL.out]; exact hdg.out)
                  have H := hide (HG.out hall)
                  have H2 : Hid (numV s.data.toList = -(pre s.data.toList 1 s.size : Int)) := hide (by rw [numV_t H.out, HNn.out, HBo.out, ← pre_end, HL.out]; rfl)
                  clear hall
                  go_wp2
                  go_returns
                  exact ⟨retTwo (intEq H2.out.symm) (boolEq H.out.symm), rfl⟩
    · obtain ⟨hn, hbo⟩ := body_0 (l := s.data.toList) (fun _ => by rw [hc']; exact hneg)
      have g1 : ((c.toNat : Int) == 45) = false := by
        have : c.toNat ≠ 45 := fun e => hneg (by rw [← UInt8.toNat_inj]; exact e)
        simp; omega
      have hbl : (bodyOf s.data.toList).length = s.size := by rw [hbo, List.length_drop, hL]; omega
      clear hneg
      by_cases h1 : s.size = 0
      · omega
      · have e1 : ((s.size : Int) == 0) = false := beq_false_of_ne (by omega)
        by_cases h18 : 18 < s.size
        · have H := hide (numB_long (l := s.data.toList) (by rw [hbl]; exact h18))
          have H2 := hide (numV_f H.out)
          have e2 : decide ((18 : Int) < (s.size : Int) - 0) = true := by simp; omega
          have e2' : decide ((18 : Int) < (s.size : Int)) = true := by simp; omega
          have h18' : 18 < s.size := by omega
          clear hbl hbo hn hL h1 hc' h0 h18
          go_enter Tryd.func57, Tryd.ntmps57
          go_wp2
          go_returns
          exact ⟨retTwo (intEq H2.out.symm) (boolEq H.out.symm), rfl⟩
        · have e2 : decide ((18 : Int) < (s.size : Int) - 0) = false := by simp; omega
          have e2' : decide ((18 : Int) < (s.size : Int)) = false := by simp; omega
          have ha1 : 0 < s.size := by omega
          obtain ⟨d, rfl⟩ : ∃ d, d = c := ⟨_, rfl⟩
          have hd' := hc'
          have hd := hc
          have hhead : (bodyOf s.data.toList).head? = some d := by rw [hbo, List.head?_drop, List.getElem?_eq_getElem (by omega), hd']
          by_cases hz : d = 48 ∧ 1 < s.size
          · have H : Hid (numB s.data.toList = false) := hide (by unfold numB; rw [decide_eq_false (fun k => k.2.2 ⟨by rw [hhead, hz.1], by rw [hL]; exact hz.2⟩)]; rfl)
            have H2 := hide (numV_f H.out)
            obtain ⟨hz1, hz2⟩ := hz
            have e3 : ((d.toNat : Int) == 48) = true := by rw [hz1]; rfl
            have e4 : decide ((1 : Int) < (s.size : Int)) = true := by simp; omega
            have h18' : s.size ≤ 18 := by omega
            clear hbl hbo hn hL h1 hc' h0 h18 hhead hz1 hd'
            go_enter Tryd.func57, Tryd.ntmps57
            go_wp2
            go_returns
            exact ⟨retTwo (intEq H2.out.symm) (boolEq H.out.symm), rfl⟩
          · by_cases hz1 : d = 48
            · have e3 : ((d.toNat : Int) == 48) = true := by rw [hz1]; rfl
              have hs1 : s.size ≤ 1 := by
                rcases Nat.lt_or_ge 1 s.size with k | k
                · exact absurd ⟨hz1, k⟩ hz
                · exact k
              have e4 : decide ((1 : Int) < (s.size : Int)) = false := by simp; omega
              have HG : Hid (∀ h : (bodyOf s.data.toList).all digB = true, numB s.data.toList = true) := hide (fun h => by
                unfold numB
                rw [h, decide_eq_true (show bodyOf s.data.toList ≠ [] ∧ (bodyOf s.data.toList).length ≤ 18 ∧ ¬ ((bodyOf s.data.toList).head? = some 48 ∧ 1 < s.data.toList.length) from ⟨fun e => by rw [e] at hbl; simp only [List.length_nil] at hbl; omega, by rw [hbl]; omega, fun k => by have := k.2; rw [hL] at this; omega⟩)]
                rfl)
              have HBo := hide hbo
              have HNn := hide hn
              have HL := hide hL
              have h18' : s.size ≤ 18 := by omega
              clear hbl hbo hn hL h1 hc' h0 h18 hhead hz1 hz hd'
              go_enter Tryd.func57, Tryd.ntmps57
              go_wp2
              go_loop [5, 6] (fun n i => ∃ k : Nat, 0 ≤ k ∧ k ≤ s.size ∧ Hid (digsTo s.data.toList 0 k) ∧ n = .int .i64 (pre s.data.toList 0 k) ∧ i = .int .i64 k) (fun _ i => s.size - (intOf i).toNat)
              case atStart => exact ⟨0, Nat.le_refl _, by omega, hide (fun t h1 h2 => absurd h1 (by omega)), by rw [pre_start]; rfl, rfl⟩
              case round =>
                clear e1 e2 e3 g1 hd hc
                obtain ⟨k, hk0, hk, hdg, rfl, rfl⟩ := hrel
                have hpb := pre_bd hdg.out (by rw [HL.out]; exact hk) hk0 (by omega)
                by_cases hlt : k < s.size
                · have hst := pre_step (l := s.data.toList) (a := 0) (k := k) (by rw [HL.out]; exact hlt) hk0
                  have hpc := pre_bd17 hdg.out (by rw [HL.out]; exact hk) hk0 (by omega)
                  have hat := at_list s k hlt
                  rw [hat] at hst
                  obtain ⟨x, hx⟩ : ∃ x, s[k] = x := ⟨_, rfl⟩
                  rw [hx] at hst hat
                  obtain ⟨q, hq⟩ : ∃ q, pre s.data.toList 0 k = q := ⟨_, rfl⟩
                  rw [hq] at hst hpb hpc ⊢
                  cases hdx : digB x
                  · have H := hide (numB_digits (l := s.data.toList) (by rw [HBo.out]; exact digs_no hk0 (by rw [HL.out]; exact hlt) (by rw [hat]; exact hdx)))
                    have H2 := hide (numV_f H.out)
                    have HX := hide hdx
                    clear hst hat hq hdx
                    go_wp2_with (go_at_call 91; refine (digS _ _).mono ?_; rw [HX.out]; rintro e w' ⟨rfl, rfl⟩)
                    go_returns
                    exact ⟨retTwo (intEq H2.out.symm) (boolEq H.out.symm), rfl⟩
                  · have hxb := digB_iff.1 hdx
                    have HX := hide hdx
                    have hw1 : wrap64 (10 * (q : Int)) = 10 * (q : Int) := IntWalk.wrap64_in _ ⟨by omega, by omega⟩
                    have hw2 : wrap64 (10 * (q : Int) + ((x.toNat : Int) - 48)) = 10 * (q : Int) + ((x.toNat : Int) - 48) := IntWalk.wrap64_in _ ⟨by omega, by omega⟩
                    have HST := hide hst
                    have HAT := hide hat
                    clear hst hat hq hdx
                    go_wp2_with (go_at_call 91; refine (digS _ _).mono ?_; rw [HX.out]; rintro e w' ⟨rfl, rfl⟩)
                    go_round
                    case rel => exact ⟨k + 1, by omega, by omega, hide (fun t h1 h2 h3 => by
                      by_cases e : t = k
                      · subst e; rw [HAT.out]; exact HX.out
                      · exact hdg.out t h1 (by omega) h3), intEq (by rw [HST.out]; omega), by go_num⟩
                    case measure => simp [intOf]; omega
                · obtain rfl : k = s.size := by omega
                  have hall : (bodyOf s.data.toList).all digB = true := by rw [HBo.out]; exact digs_all (by rw [HL.out]; exact hdg.out)
                  have H := hide (HG.out hall)
                  have H2 : Hid (numV s.data.toList = (pre s.data.toList 0 s.size : Int)) := hide (by rw [numV_t H.out, HNn.out, HBo.out, ← pre_end, HL.out]; rfl)
                  clear hall
                  go_wp2
                  go_returns
                  exact ⟨retTwo (intEq H2.out.symm) (boolEq H.out.symm), rfl⟩
            · have e3 : ((d.toNat : Int) == 48) = false := by
                have : d.toNat ≠ 48 := fun e => hz1 (by rw [← UInt8.toNat_inj]; exact e)
                simp; omega
              have HG : Hid (∀ h : (bodyOf s.data.toList).all digB = true, numB s.data.toList = true) := hide (fun h => by
                unfold numB
                rw [h, decide_eq_true (show bodyOf s.data.toList ≠ [] ∧ (bodyOf s.data.toList).length ≤ 18 ∧ ¬ ((bodyOf s.data.toList).head? = some 48 ∧ 1 < s.data.toList.length) from ⟨fun e => by rw [e] at hbl; simp only [List.length_nil] at hbl; omega, by rw [hbl]; omega, fun k => by rw [hhead] at k; exact hz1 (Option.some.inj k.1)⟩)]
                rfl)
              have HBo := hide hbo
              have HNn := hide hn
              have HL := hide hL
              have h18' : s.size ≤ 18 := by omega
              clear hbl hbo hn hL h1 hc' h0 h18 hhead hz1 hz hd'
              go_enter Tryd.func57, Tryd.ntmps57
              go_wp2
              go_loop [5, 6] (fun n i => ∃ k : Nat, 0 ≤ k ∧ k ≤ s.size ∧ Hid (digsTo s.data.toList 0 k) ∧ n = .int .i64 (pre s.data.toList 0 k) ∧ i = .int .i64 k) (fun _ i => s.size - (intOf i).toNat)
              case atStart => exact ⟨0, Nat.le_refl _, by omega, hide (fun t h1 h2 => absurd h1 (by omega)), by rw [pre_start]; rfl, rfl⟩
              case round =>
                clear e1 e2 e3 g1 hd hc
                obtain ⟨k, hk0, hk, hdg, rfl, rfl⟩ := hrel
                have hpb := pre_bd hdg.out (by rw [HL.out]; exact hk) hk0 (by omega)
                by_cases hlt : k < s.size
                · have hst := pre_step (l := s.data.toList) (a := 0) (k := k) (by rw [HL.out]; exact hlt) hk0
                  have hpc := pre_bd17 hdg.out (by rw [HL.out]; exact hk) hk0 (by omega)
                  have hat := at_list s k hlt
                  rw [hat] at hst
                  obtain ⟨x, hx⟩ : ∃ x, s[k] = x := ⟨_, rfl⟩
                  rw [hx] at hst hat
                  obtain ⟨q, hq⟩ : ∃ q, pre s.data.toList 0 k = q := ⟨_, rfl⟩
                  rw [hq] at hst hpb hpc ⊢
                  cases hdx : digB x
                  · have H := hide (numB_digits (l := s.data.toList) (by rw [HBo.out]; exact digs_no hk0 (by rw [HL.out]; exact hlt) (by rw [hat]; exact hdx)))
                    have H2 := hide (numV_f H.out)
                    have HX := hide hdx
                    clear hst hat hq hdx
                    go_wp2_with (go_at_call 91; refine (digS _ _).mono ?_; rw [HX.out]; rintro e w' ⟨rfl, rfl⟩)
                    go_returns
                    exact ⟨retTwo (intEq H2.out.symm) (boolEq H.out.symm), rfl⟩
                  · have hxb := digB_iff.1 hdx
                    have HX := hide hdx
                    have hw1 : wrap64 (10 * (q : Int)) = 10 * (q : Int) := IntWalk.wrap64_in _ ⟨by omega, by omega⟩
                    have hw2 : wrap64 (10 * (q : Int) + ((x.toNat : Int) - 48)) = 10 * (q : Int) + ((x.toNat : Int) - 48) := IntWalk.wrap64_in _ ⟨by omega, by omega⟩
                    have HST := hide hst
                    have HAT := hide hat
                    clear hst hat hq hdx
                    go_wp2_with (go_at_call 91; refine (digS _ _).mono ?_; rw [HX.out]; rintro e w' ⟨rfl, rfl⟩)
                    go_round
                    case rel => exact ⟨k + 1, by omega, by omega, hide (fun t h1 h2 h3 => by
                      by_cases e : t = k
                      · subst e; rw [HAT.out]; exact HX.out
                      · exact hdg.out t h1 (by omega) h3), intEq (by rw [HST.out]; omega), by go_num⟩
                    case measure => simp [intOf]; omega
                · obtain rfl : k = s.size := by omega
                  have hall : (bodyOf s.data.toList).all digB = true := by rw [HBo.out]; exact digs_all (by rw [HL.out]; exact hdg.out)
                  have H := hide (HG.out hall)
                  have H2 : Hid (numV s.data.toList = (pre s.data.toList 0 s.size : Int)) := hide (by rw [numV_t H.out, HNn.out, HBo.out, ← pre_end, HL.out]; rfl)
                  clear hall
                  go_wp2
                  go_returns
                  exact ⟨retTwo (intEq H2.out.symm) (boolEq H.out.symm), rfl⟩
end Go.Proofs.YtphlbpailmdndaaDoor
