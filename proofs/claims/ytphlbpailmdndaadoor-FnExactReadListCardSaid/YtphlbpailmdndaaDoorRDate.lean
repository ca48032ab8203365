--%!
/- Contracts: a day read out of a text, reference and program alike; the walk of the law on it. Printed by gen_rdate.py. Own work. -/
import Derived.Test.YtphlbpailmdndaaDoorDText
import Derived.Test.YtphlbpailmdndaaDoorRDMath
import Derived.Test.YtphlbpailmdndaaDoorCalLaws
import Derived.Test.YtphlbpailmdndaaDoorClk
import Derived.Test.YtphlbpailmdndaaDoorSpl
namespace Go.Proofs.YtphlbpailmdndaaDoor
open Go.ChangeShapes Go.WideShapes Go.ChangeAt Go.RowKit
set_option linter.unusedVariables false
set_option maxRecDepth 100000
set_option maxHeartbeats 1000000

theorem find_no (y m d : Int) (h : dOf y m d = none) (w : World) :
    Calls Tryd.prog 99 #[.int .i64 y, .int .i64 m, .int .i64 d] w fun e w' => ∃ n : Int, e = .returned (.tuple #[.int .i64 n, .bool false]) ∧ w = w' := by
  by_cases k : 2000 ≤ y ∧ y ≤ 2273 ∧ 1 ≤ m ∧ m ≤ 12 ∧ 1 ≤ d ∧ d ≤ dim y m
  · have hn : ¬ num y m d ≤ 99999 := fun e => by unfold dOf at h; rw [if_pos ⟨k, e⟩] at h; cases h
    obtain ⟨a, b, c, e, f, g⟩ := k
    have := findS_yes y m d a b c e f g w
    rw [decide_eq_false hn] at this
    exact this.mono fun e w' ⟨h1, h2⟩ => ⟨_, h1, h2⟩
  · exact (findS_no y m d k w).mono fun e w' ⟨h1, h2⟩ => ⟨_, h1, h2⟩
theorem find_yes (y m d n : Int) (h : dOf y m d = some n) (w : World) :
    Calls Tryd.prog 99 #[.int .i64 y, .int .i64 m, .int .i64 d] w fun e w' => e = .returned (.tuple #[.int .i64 n, .bool true]) ∧ w = w' := by
  obtain ⟨⟨a, b, c, e, f, g⟩, hn, rfl⟩ := dOf_some h
  have := findS_yes y m d a b c e f g w
  rw [decide_eq_true hn] at this
  exact this
theorem dayOf_no (y m d : Int) (h : dOf y m d = none) (w : World) :
    Calls Tryd.prog 48 #[.int .i64 y, .int .i64 m, .int .i64 d] w fun e w' => e = .returned (.tuple #[.int .i64 0, .int .i64 2]) ∧ w = w' := by
  by_cases k : 2000 ≤ y ∧ y ≤ 2273 ∧ 1 ≤ m ∧ m ≤ 12 ∧ 1 ≤ d ∧ d ≤ dim y m
  · have hn : ¬ num y m d ≤ 99999 := fun e => by unfold dOf at h; rw [if_pos ⟨k, e⟩] at h; cases h
    obtain ⟨a, b, c, e, f, g⟩ := k
    have := dayOfI_yes y m d a b c e f g w
    rw [if_neg hn] at this
    exact this
  · exact dayOfI_no y m d k w
theorem dayOf_yes (y m d n : Int) (h : dOf y m d = some n) (w : World) :
    Calls Tryd.prog 48 #[.int .i64 y, .int .i64 m, .int .i64 d] w fun e w' => e = .returned (.tuple #[.int .i64 n, .int .i64 0]) ∧ w = w' := by
  obtain ⟨⟨a, b, c, e, f, g⟩, hn, rfl⟩ := dOf_some h
  have := dayOfI_yes y m d a b c e f g w
  rw [if_pos hn] at this
  exact this
theorem dtx_list (y m d : Int) : dtx y m d = ⟨(dtxL y m d).toArray⟩ := by
  unfold dtx dtxL itoaT padS
  rw [show (⟨#[45]⟩ : ByteArray) = ⟨[(45 : UInt8)].toArray⟩ from rfl, app_list, app_list, app_list, app_list]
  simp
def rdV (l : List UInt8) : Int := (rdOf l).getD 0
def rdB (l : List UInt8) : Bool := (rdOf l).isSome
theorem rdV_none {l : List UInt8} (h : rdOf l = none) : rdV l = 0 := by unfold rdV; rw [h]; rfl
theorem rdB_none {l : List UInt8} (h : rdOf l = none) : rdB l = false := by unfold rdB; rw [h]; rfl
theorem rdV_some {l : List UInt8} {n : Int} (h : rdOf l = some n) : rdV l = n := by unfold rdV; rw [h]; rfl
theorem rdB_some {l : List UInt8} {n : Int} (h : rdOf l = some n) : rdB l = true := by unfold rdB; rw [h]; rfl
theorem rd10 {l : List UInt8} (h : l.length ≠ 10) : rdOf l = none := by
  cases hk : rdOf l with
  | none => rfl
  | some n => obtain ⟨a, b, c, e, f, g, h', i, rfl, _⟩ := rdOf_some hk; simp at h
theorem rd4 {l : List UInt8} (h : 4 < l.length) (k : l[4] ≠ 45) : rdOf l = none := by
  cases hk : rdOf l with
  | none => rfl
  | some n => obtain ⟨a, b, c, e, f, g, h', i, rfl, _⟩ := rdOf_some hk; simp at k
theorem rd7 {l : List UInt8} (h : 7 < l.length) (k : l[7] ≠ 45) : rdOf l = none := by
  cases hk : rdOf l with
  | none => rfl
  | some n => obtain ⟨a, b, c, e, f, g, h', i, rfl, _⟩ := rdOf_some hk; simp at k
theorem rd_split {l : List UInt8} (h : l.length = 10) (k4 : l[4] = 45) (k7 : l[7] = 45) : rdOf l = if sdB (l.take 4) = true ∧ sdB ((l.take 7).drop 5) = true ∧ sdB (l.drop 8) = true then dOf (sdV (l.take 4)) (sdV ((l.take 7).drop 5)) (sdV (l.drop 8)) else none := by
  match l, h, k4, k7 with
  | [a, b, c, e, x, f, g, z, h', i], _, k4, k7 =>
    simp only [List.getElem_cons_succ, List.getElem_cons_zero] at k4 k7
    subst k4 k7
    show rdOf [a, b, c, e, 45, f, g, 45, h', i] = if sdB [a, b, c, e] = true ∧ sdB [f, g] = true ∧ sdB [h', i] = true then dOf (sdV [a, b, c, e]) (sdV [f, g]) (sdV [h', i]) else none
    rw [rdOf_10]
    by_cases p : sdB [a, b, c, e] = true ∧ sdB [f, g] = true ∧ sdB [h', i] = true
    · rw [if_pos p, if_pos ⟨⟨rfl, rfl⟩, p⟩, sdV_t p.1, sdV_t p.2.1, sdV_t p.2.2]
    · rw [if_neg p, if_neg (fun t => p t.2)]
theorem splitA (c : UInt8) (s : ByteArray) (hs : s.size ≤ 2097152) (w : World) (hm : Mx w) :
    Calls Tryd.prog 76 #[.string s, .string ⟨#[c]⟩] w fun e w' => ∃ g cp, e = .returned (.slice (some ⟨g, 0, none⟩) (splB c s).length cp) ∧ w.heap.size ≤ g ∧ g < w'.heap.size ∧ (splB c s).length ≤ cp ∧ cp ≤ maxLen ∧ AtA w' g (splB c s) strA ∧ Below w.heap.size w w' := by
  obtain ⟨h1, h2⟩ := splitB_splB c s
  have hl := splB_len c s
  refine (splitI s ⟨#[c]⟩ hs (Nat.le_refl 1) w hm).mono ?_
  rintro e w' ⟨rfl, rfl⟩
  rw [← h2, h1]
  refine ⟨w.heap.size, _, rfl, Nat.le_refl _, by rw [World.size_alloc]; omega, Nat.le_refl _, by unfold maxLen; omega, fun k hk => ?_, (Below.refl _ w).alloc (Nat.le_refl _) _⟩
  refine (cell_of_row _ _ _ _ _ _ (heap_alloc_new w _)).trans ?_
  rw [List.getElem?_toArray, List.getElem?_map, List.getElem?_eq_getElem hk]
  rfl
theorem l03ReadS (s : ByteArray) (w : World) :
    Calls Tryd.prog 75 #[.string s] w fun e w' => e = .returned (.tuple #[.int .i64 (rdV s.data.toList), .bool (rdB s.data.toList)]) ∧ w = w' := by
  have hL := len_list s
  by_cases h10 : s.size = 10
  · have e0 : ((s.size : Int) == 10) = true := by simp [h10]
    by_cases h4 : s.data.toList[4]'(by omega) = 45
    · have e1 : s[4] = 45 := h4
      by_cases h7 : s.data.toList[7]'(by omega) = 45
      · have e2 : s[7] = 45 := h7
        have hp := rd_split (by omega) h4 h7
        obtain ⟨p, ep⟩ : ∃ p, s.extract 0 4 = p := ⟨_, rfl⟩
        obtain ⟨q, eq⟩ : ∃ q, s.extract 5 7 = q := ⟨_, rfl⟩
        obtain ⟨r, er⟩ : ∃ r, s.extract 8 10 = r := ⟨_, rfl⟩
        have lp : p.data.toList = s.data.toList.take 4 := by rw [← ep]; exact Lib.extract_from_zero s 4
        have lq : q.data.toList = (s.data.toList.take 7).drop 5 := by rw [← eq]; exact piece s 5 7
        have e810 : s.extract 8 10 = s.extract 8 s.size := by rw [h10]
        have lr : r.data.toList = s.data.toList.drop 8 := by rw [← er, e810]; exact Lib.extract_to_end s 8
        have zp : p.size ≤ 18 := by rw [← len_list p, lp, List.length_take]; omega
        have zq : q.size ≤ 18 := by rw [← len_list q, lq, List.length_drop, List.length_take]; omega
        have zr : r.size ≤ 18 := by rw [← len_list r, lr, List.length_drop]; omega
        rw [← lp, ← lq, ← lr] at hp
        obtain ⟨vp, hvp⟩ : ∃ v, sdV p.data.toList = v := ⟨_, rfl⟩
        obtain ⟨bp, hbp⟩ : ∃ v, sdB p.data.toList = v := ⟨_, rfl⟩
        obtain ⟨vq, hvq⟩ : ∃ v, sdV q.data.toList = v := ⟨_, rfl⟩
        obtain ⟨bq, hbq⟩ : ∃ v, sdB q.data.toList = v := ⟨_, rfl⟩
        obtain ⟨vr, hvr⟩ : ∃ v, sdV r.data.toList = v := ⟨_, rfl⟩
        obtain ⟨br, hbr⟩ : ∃ v, sdB r.data.toList = v := ⟨_, rfl⟩
        rw [hvp, hvq, hvr, hbp, hbq, hbr] at hp
        have HP := hide hp
        have Vp := hide hvp
        have Bp := hide hbp
        have Vq := hide hvq
        have Bq := hide hbq
        have Vr := hide hvr
        have Br := hide hbr
        clear hp hvp hvq hvr hbp hbq hbr lp lq lr hL h4 h7 e810
        by_cases hc : bp = true ∧ bq = true ∧ br = true
        · obtain ⟨rfl, rfl, rfl⟩ := hc
          have H := HP.out
          rw [if_pos ⟨rfl, rfl, rfl⟩] at H
          cases hd : dOf vp vq vr with
          | none =>
            rw [hd] at H
            have HB := hide (rdB_none H)
            have HV := hide (rdV_none H)
            clear H
            have HD := hide hd
            clear hd HP
            go_enter Tryd.func75, Tryd.ntmps75
            go_wp2_with fail
            refine (digitsS p zp w).mono ?_
            rw [Vp.out, Bp.out]
            rintro e w' ⟨rfl, rfl⟩
            clear ep
            go_wp2_with fail
            refine (digitsS q zq w).mono ?_
            rw [Vq.out, Bq.out]
            rintro e w' ⟨rfl, rfl⟩
            clear eq
            go_wp2_with fail
            refine (digitsS r zr w).mono ?_
            rw [Vr.out, Br.out]
            rintro e w' ⟨rfl, rfl⟩
            clear er
            go_wp2_with fail
            refine (find_no vp vq vr HD.out w).mono ?_
            rintro e w' ⟨n, rfl, rfl⟩
            go_wp2_with fail
            go_returns
            exact ⟨retTwo (intEq HV.out.symm) (boolEq HB.out.symm), rfl⟩
          | some n =>
            rw [hd] at H
            have HB := hide (rdB_some H)
            have HV := hide (rdV_some H)
            clear H
            have HD := hide hd
            clear hd HP
            go_enter Tryd.func75, Tryd.ntmps75
            go_wp2_with fail
            refine (digitsS p zp w).mono ?_
            rw [Vp.out, Bp.out]
            rintro e w' ⟨rfl, rfl⟩
            clear ep
            go_wp2_with fail
            refine (digitsS q zq w).mono ?_
            rw [Vq.out, Bq.out]
            rintro e w' ⟨rfl, rfl⟩
            clear eq
            go_wp2_with fail
            refine (digitsS r zr w).mono ?_
            rw [Vr.out, Br.out]
            rintro e w' ⟨rfl, rfl⟩
            clear er
            go_wp2_with fail
            refine (find_yes vp vq vr n HD.out w).mono ?_
            rintro e w' ⟨rfl, rfl⟩
            go_wp2_with fail
            go_returns
            exact ⟨retTwo (intEq HV.out.symm) (boolEq HB.out.symm), rfl⟩
        · have H := HP.out
          rw [if_neg hc] at H
          have HB := hide (rdB_none H)
          have HV := hide (rdV_none H)
          clear H
          clear HP
          cases bp
          · clear hc
            go_enter Tryd.func75, Tryd.ntmps75
            go_wp2_with fail
            refine (digitsS p zp w).mono ?_
            rw [Vp.out, Bp.out]
            rintro e w' ⟨rfl, rfl⟩
            clear ep
            go_wp2_with fail
            refine (digitsS q zq w).mono ?_
            rw [Vq.out, Bq.out]
            rintro e w' ⟨rfl, rfl⟩
            clear eq
            go_wp2_with fail
            refine (digitsS r zr w).mono ?_
            rw [Vr.out, Br.out]
            rintro e w' ⟨rfl, rfl⟩
            clear er
            go_wp2_with fail
            go_returns
            exact ⟨retTwo (intEq HV.out.symm) (boolEq HB.out.symm), rfl⟩
          · cases bq
            · clear hc
              go_enter Tryd.func75, Tryd.ntmps75
              go_wp2_with fail
              refine (digitsS p zp w).mono ?_
              rw [Vp.out, Bp.out]
              rintro e w' ⟨rfl, rfl⟩
              clear ep
              go_wp2_with fail
              refine (digitsS q zq w).mono ?_
              rw [Vq.out, Bq.out]
              rintro e w' ⟨rfl, rfl⟩
              clear eq
              go_wp2_with fail
              refine (digitsS r zr w).mono ?_
              rw [Vr.out, Br.out]
              rintro e w' ⟨rfl, rfl⟩
              clear er
              go_wp2_with fail
              go_returns
              exact ⟨retTwo (intEq HV.out.symm) (boolEq HB.out.symm), rfl⟩
            · cases br
              · clear hc
                go_enter Tryd.func75, Tryd.ntmps75
                go_wp2_with fail
                refine (digitsS p zp w).mono ?_
                rw [Vp.out, Bp.out]
                rintro e w' ⟨rfl, rfl⟩
                clear ep
                go_wp2_with fail
                refine (digitsS q zq w).mono ?_
                rw [Vq.out, Bq.out]
                rintro e w' ⟨rfl, rfl⟩
                clear eq
                go_wp2_with fail
                refine (digitsS r zr w).mono ?_
                rw [Vr.out, Br.out]
                rintro e w' ⟨rfl, rfl⟩
                clear er
                go_wp2_with fail
                go_returns
                exact ⟨retTwo (intEq HV.out.symm) (boolEq HB.out.symm), rfl⟩
              · exact absurd ⟨rfl, rfl, rfl⟩ hc
      · have H := rd7 (by omega) h7
        have HB := hide (rdB_none H)
        have HV := hide (rdV_none H)
        clear H
        obtain ⟨x, ex⟩ : ∃ x, s[7] = x := ⟨_, rfl⟩
        have hx : ((x.toNat : Int) == 45) = false := beq_false_of_ne (fun e => h7 (by show s[7] = 45; rw [ex, ← UInt8.toNat_inj]; show x.toNat = 45; omega))
        clear h7
        go_enter Tryd.func75, Tryd.ntmps75
        go_wp2
        go_returns
        exact ⟨retTwo (intEq HV.out.symm) (boolEq HB.out.symm), rfl⟩
    · have H := rd4 (by omega) h4
      have HB := hide (rdB_none H)
      have HV := hide (rdV_none H)
      clear H
      obtain ⟨x, ex⟩ : ∃ x, s[4] = x := ⟨_, rfl⟩
      have hx : ((x.toNat : Int) == 45) = false := beq_false_of_ne (fun e => h4 (by show s[4] = 45; rw [ex, ← UInt8.toNat_inj]; show x.toNat = 45; omega))
      clear h4
      go_enter Tryd.func75, Tryd.ntmps75
      go_wp2
      go_returns
      exact ⟨retTwo (intEq HV.out.symm) (boolEq HB.out.symm), rfl⟩
  · have H := rd10 (l := s.data.toList) (by omega)
    have HB := hide (rdB_none H)
    have HV := hide (rdV_none H)
    clear H
    have e0 : ((s.size : Int) == 10) = false := beq_false_of_ne (by omega)
    clear h10 hL
    go_enter Tryd.func75, Tryd.ntmps75
    go_wp2
    all_goals
      go_returns
      exact ⟨retTwo (intEq HV.out.symm) (boolEq HB.out.symm), rfl⟩
theorem rdDateS (s : ByteArray) (w : World) :
    Calls Tryd.prog 31 #[.string s] w fun e w' => e = .returned (.tuple #[.int .i64 (rdV s.data.toList), .bool (rdB s.data.toList)]) ∧ w = w' := by
  go_enter Tryd.func31, Tryd.ntmps31
  go_wp2_with fail
  refine (l03ReadS s w).mono ?_
  rintro e w' ⟨rfl, rfl⟩
  go_wp2_with fail
  go_returns
  exact ⟨rfl, rfl⟩
theorem len_three {α : Type} {l : List α} (h : l.length = 3) : ∃ p q r, l = [p, q, r] := by
  match l, h with
  | [p, q, r], _ => exact ⟨p, q, r, rfl⟩
theorem splB_data (c : UInt8) (s : ByteArray) : (splB c s).map (fun x => x.data.toList) = spl c s.data.toList := by
  unfold splB
  rw [List.map_map]
  have : ((fun x : ByteArray => x.data.toList) ∘ fun l : List UInt8 => (⟨l.toArray⟩ : ByteArray)) = id := by funext x; rfl
  rw [this, List.map_id]
theorem splB_size (c : UInt8) (s : ByteArray) : ∀ x ∈ splB c s, x.size ≤ s.size := by
  intro x hx
  unfold splB at hx
  obtain ⟨l, hl, rfl⟩ := List.mem_map.1 hx
  rw [size_lst, ← len_list]
  exact spl_piece c _ l hl
theorem rdDateI (s : ByteArray) (hs : s.size ≤ 2097152) (w : World) (hp : Pow w) (hm : Mx w) :
    Calls Tryd.prog 32 #[.string s] w fun e w' => e = .returned (.tuple #[.int .i64 (rdV s.data.toList), .bool (rdB s.data.toList)]) ∧ Below w.heap.size w w' := by
  have HP := hide hp
  have HM := hide hm
  clear hp hm
  by_cases h3 : (splB 45 s).length = 3
  · obtain ⟨p, q, r, hpq⟩ := len_three h3
    have hzp : p.size ≤ s.size := splB_size 45 s p (by rw [hpq]; simp)
    have hzq : q.size ≤ s.size := splB_size 45 s q (by rw [hpq]; simp)
    have hzr : r.size ≤ s.size := splB_size 45 s r (by rw [hpq]; simp)
    have hsp := splB_data 45 s
    rw [hpq] at hsp
    have HSP := hide hsp.symm
    have HPQ := hide hpq
    clear h3 hpq hsp
    go_enter Tryd.func32, Tryd.ntmps32
    go_wp2_with fail
    refine (splitA 45 s hs w HM.out).mono ?_
    rintro e w1 ⟨g, cp, rfl, hg1, hg2, hg3, hg4, ha, hb1⟩
    rw [HPQ.out] at ha hg3 ⊢
    have c0 : w1.cell? ⟨g, 0, none⟩ = some (.string p) := ha 0 (by simp)
    have c1 : w1.cell? ⟨g, 1, none⟩ = some (.string q) := ha 1 (by simp)
    have c2 : w1.cell? ⟨g, 2, none⟩ = some (.string r) := ha 2 (by simp)
    clear ha hg1
    simp only [List.length_cons, List.length_nil] at hg3 ⊢
    have HP1 := hide (HP.out.below hb1)
    go_wp2_with fail
    refine (digitsI p (by omega) w1).mono ?_
    rintro e w' ⟨y, hvp, rfl, rfl⟩
    have Vp := hide hvp
    obtain ⟨bp, hbp⟩ : ∃ b, dgB p.data.toList = b := ⟨_, rfl⟩
    rw [hbp]
    have Bp := hide hbp
    clear hvp hbp
    go_wp2_with fail
    refine (digitsI q (by omega) w1).mono ?_
    rintro e w' ⟨m, hvq, rfl, rfl⟩
    have Vq := hide hvq
    obtain ⟨bq, hbq⟩ : ∃ b, dgB q.data.toList = b := ⟨_, rfl⟩
    rw [hbq]
    have Bq := hide hbq
    clear hvq hbq
    go_wp2_with fail
    refine (digitsI r (by omega) w1).mono ?_
    rintro e w' ⟨d, hvr, rfl, rfl⟩
    have Vr := hide hvr
    obtain ⟨br, hbr⟩ : ∃ b, dgB r.data.toList = b := ⟨_, rfl⟩
    rw [hbr]
    have Br := hide hbr
    clear hvr hbr
    go_wp2_with fail
    cases hd : dOf y m d with
    | none =>
      have H : rdOf s.data.toList = none := rd_no HSP.out (fun n k => by
        obtain ⟨k1, k2, k3, k4, -⟩ := k
        rw [← Vp.out k1, ← Vq.out k2, ← Vr.out k3, hd] at k4
        cases k4)
      have HB := hide (rdB_none H)
      have HV := hide (rdV_none H)
      clear H
      have HD := hide hd
      clear hd
      refine (dayOf_no y m d HD.out w1).mono ?_
      rintro e w' ⟨rfl, rfl⟩
      cases bp
      · go_wp2_with fail
        go_returns
        exact ⟨retTwo (intEq HV.out.symm) (boolEq HB.out.symm), hb1⟩
      · cases bq
        · go_wp2_with fail
          go_returns
          exact ⟨retTwo (intEq HV.out.symm) (boolEq HB.out.symm), hb1⟩
        · cases br
          · go_wp2_with fail
            go_returns
            exact ⟨retTwo (intEq HV.out.symm) (boolEq HB.out.symm), hb1⟩
          · go_wp2_with fail
            go_returns
            exact ⟨retTwo (intEq HV.out.symm) (boolEq HB.out.symm), hb1⟩
    | some n =>
      have HD := hide hd
      clear hd
      refine (dayOf_yes y m d n HD.out w1).mono ?_
      rintro e w' ⟨rfl, rfl⟩
      cases bp
      · have H : rdOf s.data.toList = none := rd_no HSP.out (fun n k => by
          obtain ⟨k1, k2, k3, -, -⟩ := k
          rw [Bp.out] at k1
          cases k1)
        have HB := hide (rdB_none H)
        have HV := hide (rdV_none H)
        clear H
        go_wp2_with fail
        go_returns
        exact ⟨retTwo (intEq HV.out.symm) (boolEq HB.out.symm), hb1⟩
      · skip
        cases bq
        · have H : rdOf s.data.toList = none := rd_no HSP.out (fun n k => by
            obtain ⟨k1, k2, k3, -, -⟩ := k
            rw [Bq.out] at k2
            cases k2)
          have HB := hide (rdB_none H)
          have HV := hide (rdV_none H)
          clear H
          go_wp2_with fail
          go_returns
          exact ⟨retTwo (intEq HV.out.symm) (boolEq HB.out.symm), hb1⟩
        · skip
          cases br
          · have H : rdOf s.data.toList = none := rd_no HSP.out (fun n k => by
              obtain ⟨k1, k2, k3, -, -⟩ := k
              rw [Br.out] at k3
              cases k3)
            have HB := hide (rdB_none H)
            have HV := hide (rdV_none H)
            clear H
            go_wp2_with fail
            go_returns
            exact ⟨retTwo (intEq HV.out.symm) (boolEq HB.out.symm), hb1⟩
          · obtain rfl := Vp.out Bp.out
            obtain rfl := Vq.out Bq.out
            obtain rfl := Vr.out Br.out
            obtain ⟨hdate, n0, n1⟩ := dOf_date HD.out
            have HDT : Hid (DTextIs n (dtx (dv 0 p.data.toList) (dv 0 q.data.toList) (dv 0 r.data.toList))) := hide (.inr ⟨inB_true n0 n1, _, _, _, hdate, rfl⟩)
            clear hdate n0 n1
            go_wp2_with fail
            refine (dtextI n w1 HP1.out).mono ?_
            rintro e w2 ⟨t, ht, rfl, hb2⟩
            have ht' := (dtextIs_unique ht HDT.out).trans (dtx_list _ _ _)
            have hB2 := below_next (w0 := w) hb2 hb1
            clear ht hb2 hb1
            by_cases ht2 : dtxL (dv 0 p.data.toList) (dv 0 q.data.toList) (dv 0 r.data.toList) = s.data.toList
            · have H := rd_yes ⟨Bp.out, Bq.out, Br.out, HD.out, ht2⟩
              have HB := hide (rdB_some H)
              have HV := hide (rdV_some H)
              clear H
              have Q : (!t.toList == s.toList) = false := by rw [ht', Lib.toList_data, Lib.toList_data, ht2]; simp
              clear ht' ht2
              go_wp2_with fail
              go_returns
              exact ⟨retTwo (intEq HV.out.symm) (boolEq HB.out.symm), hB2⟩
            · have H : rdOf s.data.toList = none := rd_no HSP.out (fun n k => ht2 k.2.2.2.2)
              have HB := hide (rdB_none H)
              have HV := hide (rdV_none H)
              clear H
              have Q : (!t.toList == s.toList) = true := by rw [ht', Lib.toList_data, Lib.toList_data]; simpa using ht2
              clear ht' ht2
              go_wp2_with fail
              go_returns
              exact ⟨retTwo (intEq HV.out.symm) (boolEq HB.out.symm), hB2⟩
  · have H : rdOf s.data.toList = none := rdd_len (by rw [← splB_data, List.length_map]; exact h3)
    have HB := hide (rdB_none H)
    have HV := hide (rdV_none H)
    clear H
    obtain ⟨m, hm⟩ : ∃ m, (splB 45 s).length = m := ⟨_, rfl⟩
    have e1 : ((m : Int) == 3) = false := beq_false_of_ne (by omega)
    have HMl := hide hm
    clear hm h3
    go_enter Tryd.func32, Tryd.ntmps32
    go_wp2_with fail
    refine (splitA 45 s hs w HM.out).mono ?_
    rintro e w1 ⟨g, cp, rfl, hg1, hg2, hg3, hg4, ha, hb1⟩
    clear ha
    rw [HMl.out]
    go_wp2_with fail
    go_returns
    exact ⟨retTwo (intEq HV.out.symm) (boolEq HB.out.symm), hb1⟩
theorem fnExactReadDate_walk (s : ByteArray) (hs : s.size ≤ maxLen) (w : World) (hp : Pow w) (hm : Mx w) :
    Calls Tryd.prog 10 #[.string s] w fun e w' => e = .returned (.bool true) ∧ Below w.heap.size w w' := by
  unfold maxLen at hs
  have HP := hide hp
  have HM := hide hm
  clear hp hm
  by_cases hl : s.size ≤ 1048576
  · go_enter Tryd.func10, Tryd.ntmps10
    go_wp2_with fail
    refine (rdDateS s w).mono ?_
    rintro e w' ⟨rfl, rfl⟩
    go_wp2_with fail
    refine (rdDateI s (by omega) w HP.out HM.out).mono ?_
    rintro e w1 ⟨rfl, hb1⟩
    go_wp2_with fail
    go_ret
    exact ⟨rfl, hb1⟩
  · go_enter Tryd.func10, Tryd.ntmps10
    go_wp2_with fail
    go_ret
    exact ⟨rfl, Below.refl _ _⟩
end Go.Proofs.YtphlbpailmdndaaDoor
