--%!
/- Contracts: a list of numbers as text, reference and program alike; the walk of the law on it. Own work. -/
import Derived.Test.YtphlbpailmdndaaDoorDText
import Derived.Test.YtphlbpailmdndaaDoorNmArg
import Derived.Lib.Join
namespace Go.Proofs.YtphlbpailmdndaaDoor
open Go.ChangeShapes Go.WideShapes Go.ChangeAt Go.RowKit
set_option linter.unusedVariables false
set_option maxRecDepth 100000
set_option maxHeartbeats 1000000

def inL (n : Int) : Bool := inB n (-1000000000000) 1000000000000
def fitL (l : List Int) : Bool := l.all inL && decide (l.length ≤ 64)
theorem fitL_iff {l : List Int} : fitL l = true ↔ l.all inL = true ∧ l.length ≤ 64 := by unfold fitL; rw [Bool.and_eq_true, decide_eq_true_iff]
theorem fitL_no {l : List Int} {k : Nat} (hk : k < l.length) (h : inL l[k] = false) : fitL l = false := by
  unfold fitL
  have : l.all inL = false := by
    cases e : l.all inL with
    | false => rfl
    | true => rw [List.all_eq_true.1 e _ (List.getElem_mem hk)] at h; cases h
  rw [this]; rfl
def goodTo (l : List Int) (k : Nat) : Prop := ∀ (t : Nat) (h : t < l.length), t < k → inL l[t] = true
theorem good_all {l : List Int} (h : goodTo l l.length) : l.all inL = true := by
  refine List.all_eq_true.2 fun x hx => ?_
  obtain ⟨i, hi, rfl⟩ := List.getElem_of_mem hx
  exact h i hi hi
theorem good_next {l : List Int} {k : Nat} (h : goodTo l k) (hk : k < l.length) (e : inL l[k] = true) : goodTo l (k + 1) := fun t ht hlt => by
  by_cases q : t = k
  · subst q; exact e
  · exact h t ht (by omega)
/-- numbers as text, commas between -/
def jt (l : List Int) : List UInt8 := Lib.join (l.map Lib.itoa) [44]
theorem jt_nil : jt [] = [] := rfl
theorem jt_one (n : Int) : jt [n] = Lib.itoa n := Lib.join_one _ _
theorem jt_snoc {l : List Int} (h : l ≠ []) (n : Int) : jt (l ++ [n]) = jt l ++ (44 :: Lib.itoa n) := by
  cases l with
  | nil => exact absurd rfl h
  | cons x r =>
    unfold jt
    rw [List.cons_append, List.map_cons, List.map_cons, Lib.join_cons, Lib.join_cons, List.map_append]
    unfold Lib.joinTail
    rw [List.map_append, List.flatten_append]
    simp
theorem inL_bd {n : Int} (h : inL n = true) : -1000000000000 ≤ n ∧ n ≤ 1000000000000 := (inB_iff _ _ _).1 h
theorem jt_len (l : List Int) (h : l.all inL = true) : (jt l).length ≤ 21 * l.length := by
  have tl : ∀ r : List Int, r.all inL = true → (Lib.joinTail [44] (r.map Lib.itoa)).length ≤ 21 * r.length := by
    intro r
    induction r with
    | nil => intro _; simp [Lib.joinTail]
    | cons x r ih =>
      intro hr
      rw [List.all_cons, Bool.and_eq_true] at hr
      have := ih hr.2
      have hx := inL_bd hr.1
      have h1 := itoa_le (n := x) (by omega) (by omega)
      unfold Lib.joinTail at this ⊢
      simp at this ⊢
      omega
  cases l with
  | nil => simp [jt_nil]
  | cons x r =>
    rw [List.all_cons, Bool.and_eq_true] at h
    have hx := inL_bd h.1
    have h1 := itoa_le (n := x) (by omega) (by omega)
    have h2 := tl r h.2
    unfold jt
    rw [List.map_cons, Lib.join_cons, List.length_append, List.length_cons]
    omega
noncomputable def jtB (l : List Int) : ByteArray := ⟨(jt l).toArray⟩
theorem jtB_size (l : List Int) (h : l.all inL = true) : (jtB l).size ≤ 21 * l.length := by unfold jtB; rw [size_lst]; exact jt_len l h
theorem jtB_one (n : Int) : jtB [n] = itoaT n := by unfold jtB itoaT; rw [jt_one]
theorem jtB_snoc {l : List Int} (h : l ≠ []) (n : Int) : jtB (l ++ [n]) = jtB l ++ ⟨#[44]⟩ ++ itoaT n := by
  unfold jtB itoaT
  rw [jt_snoc h, show (⟨#[44]⟩ : ByteArray) = ⟨[(44 : UInt8)].toArray⟩ from rfl, app_list, app_list, List.append_assoc]
  rfl
theorem jtB_nil : jtB [] = ByteArray.empty := rfl
noncomputable def lbody (l : List Int) : ByteArray := if l.length = 0 then ⟨#[45]⟩ else jtB l
theorem lbody_0 {l : List Int} (h : l.length = 0) : lbody l = ⟨#[45]⟩ := if_pos h
theorem lbody_p {l : List Int} (h : 0 < l.length) : lbody l = jtB l := if_neg (by omega)
noncomputable def ltext (l : List Int) : ByteArray := if fitL l = true then lbody l else ByteArray.empty
theorem ltext_t {l : List Int} (h : fitL l = true) : ltext l = lbody l := if_pos h
theorem ltext_f {l : List Int} (h : fitL l = false) : ltext l = ByteArray.empty := if_neg (by rw [h]; decide)
theorem all_take {l : List Int} (h : l.all inL = true) (k : Nat) : (l.take k).all inL = true := List.all_eq_true.2 fun x hx => List.all_eq_true.1 h x (List.mem_of_mem_take hx)
theorem l01FitsS (A : Option Addr) (n c : Nat) (l : List Int) (hn : l.length = n) (hm : n ≤ 1048576) (w : World) (hp : NmRd w w.heap.size A l) :
    Calls Tryd.prog 77 #[.slice A n c] w fun e w' => e = .returned (.bool (fitL l)) ∧ Below w.heap.size w w' := by
  subst hn
  have HP := hide hp
  clear hp
  go_enter Tryd.func77, Tryd.ntmps77
  go_wp2
  go_loopw [3] (fun i wr => ∃ k : Nat, k ≤ l.length ∧ Hid (goodTo l k) ∧ Below w.heap.size w wr ∧ i = .int .i64 k) (fun i _ => l.length - (intOf i).toNat)
  case atStart => exact ⟨0, Nat.zero_le _, hide (fun t h h0 => absurd h0 (by omega)), Below.refl _ _, rfl⟩
  case round =>
    obtain ⟨k, hk, hg, hbw, rfl⟩ := hrel
    by_cases hlt : k < l.length
    · obtain ⟨g, off, rfl, hg0, hp⟩ := (HP.out.below hbw) (by omega)
      have c1 := hp k hlt
      clear hp
      cases hi : inL l[k]
      · have H := hide (fitL_no hlt hi)
        have HI := hide (show inB l[k] (-1000000000000) 1000000000000 = false from hi)
        clear hi
        go_wp2_with (go_at_call 65; refine (inS _ _ _ _).mono ?_; rw [HI.out]; rintro e w' ⟨rfl, rfl⟩)
        go_ret
        exact ⟨ret_bool H.out.symm, hbw⟩
      · have H := hide (good_next hg.out hlt hi)
        have HI := hide (show inB l[k] (-1000000000000) 1000000000000 = true from hi)
        clear hi
        go_wp2_with (go_at_call 65; refine (inS _ _ _ _).mono ?_; rw [HI.out]; rintro e w' ⟨rfl, rfl⟩)
        go_roundw
        case rel => exact ⟨k + 1, by omega, H, hbw, by go_num⟩
        case measure => simp [intOf]; omega
    · obtain rfl : k = l.length := by omega
      have H := hide (show decide ((l.length : Int) ≤ 64) = fitL l by unfold fitL; rw [good_all hg.out, Bool.true_and]; exact decide_eq_decide.2 (by omega))
      go_wp2
      go_ret
      exact ⟨ret_bool H.out, hbw⟩
theorem l01ListS (A : Option Addr) (n c : Nat) (l : List Int) (hn : l.length = n) (hf : fitL l = true) (w : World) (hp : NmRd w w.heap.size A l) :
    Calls Tryd.prog 78 #[.slice A n c] w fun e w' => e = .returned (.string (lbody l)) ∧ Below w.heap.size w w' := by
  subst hn
  have HP := hide hp
  clear hp
  obtain ⟨ha, hlen⟩ := fitL_iff.1 hf
  have HA := hide ha
  clear hf ha
  by_cases h0 : l.length = 0
  · have H := hide (lbody_0 h0)
    have e0 : ((l.length : Int) == 0) = true := by simp [h0]
    clear h0
    go_enter Tryd.func78, Tryd.ntmps78
    go_wp2
    go_ret
    exact ⟨ret_str H.out.symm, Below.refl _ _⟩
  · have hpos : 0 < l.length := by omega
    have H := hide (lbody_p hpos)
    have e0 : ((l.length : Int) == 0) = false := beq_false_of_ne (by omega)
    clear h0
    go_enter Tryd.func78, Tryd.ntmps78
    go_wp2
    go_loopw [3, 4] (fun o i wr => ∃ k : Nat, k ≤ l.length ∧ o = .string (jtB (l.take k)) ∧ Below w.heap.size w wr ∧ i = .int .i64 k) (fun _ i _ => l.length - (intOf i).toNat)
    case atStart => exact ⟨0, Nat.zero_le _, by rw [List.take_zero, jtB_nil]; rfl, Below.refl _ _, rfl⟩
    case round =>
      obtain ⟨k, hk, rfl, hbw, rfl⟩ := hrel
      have hsz := jtB_size (l.take k) (all_take HA.out k)
      rw [List.length_take] at hsz
      by_cases hlt : k < l.length
      · obtain ⟨g, off, rfl, hg0, hp⟩ := (HP.out.below hbw) (by omega)
        have c1 := hp k hlt
        clear hp
        have hb := inL_bd (List.all_eq_true.1 HA.out _ (List.getElem_mem hlt))
        obtain ⟨x, hx⟩ : ∃ x, l[k] = x := ⟨_, rfl⟩
        rw [hx] at c1 hb
        have hi := itoaT_le (n := x) (by omega) (by omega)
        by_cases h0 : k = 0
        · have HN : Hid (jtB (l.take k) ++ itoaT x = jtB (l.take (k + 1))) := hide (by rw [List.take_succ_eq_append_getElem hlt, hx, h0, List.take_zero, List.nil_append, jtB_one, jtB_nil]; simp)
          obtain ⟨o, ho⟩ : ∃ o, jtB (l.take k) = o := ⟨_, rfl⟩
          rw [ho] at HN hsz ⊢
          have g0 : decide ((0 : Int) < (k : Int)) = false := by simp; omega
          have gk : k ≤ 0 := by omega
          have c2 : wr.cell? ⟨g, off, none⟩ = some (.int .i64 x) := by rw [h0] at c1; exact c1
          clear hx ho h0
          go_wp2_with (go_at_call 55; refine (decTS x (by omega) (by omega) _).mono ?_; rintro e w2 ⟨rfl, hb2⟩; have hB2 := below_next (w0 := w) hb2 hbw; clear hb2)
          go_roundw
          case rel => exact ⟨k + 1, by omega, by rw [← HN.out], hB2, by go_num⟩
          case measure => simp [intOf]; omega
        · have hne : l.take k ≠ [] := fun e => by have := congrArg List.length e; rw [List.length_take, List.length_nil] at this; omega
          have HN : Hid (jtB (l.take k) ++ ⟨#[44]⟩ ++ itoaT x = jtB (l.take (k + 1))) := hide (by rw [List.take_succ_eq_append_getElem hlt, hx, jtB_snoc hne])
          obtain ⟨o, ho⟩ : ∃ o, jtB (l.take k) = o := ⟨_, rfl⟩
          rw [ho] at HN hsz ⊢
          have ha : (o ++ ⟨#[44]⟩ : ByteArray).size ≤ 10000 := by rw [ByteArray.size_append]; show o.size + 1 ≤ 10000; omega
          have g0 : decide ((0 : Int) < (k : Int)) = true := by simp; omega
          clear hx hne ho
          go_wp2_with (go_at_call 55; refine (decTS x (by omega) (by omega) _).mono ?_; rintro e w2 ⟨rfl, hb2⟩; have hB2 := below_next (w0 := w) hb2 hbw; clear hb2)
          go_roundw
          case rel => exact ⟨k + 1, by omega, by rw [← HN.out], hB2, by go_num⟩
          case measure => simp [intOf]; omega
      · obtain rfl : k = l.length := by omega
        rw [List.take_length]
        go_wp2
        go_ret
        exact ⟨ret_str H.out.symm, hbw⟩
theorem ltextS (A : Option Addr) (n c : Nat) (l : List Int) (hn : l.length = n) (hm : n ≤ 1048576) (w : World) (hp : NmRd w w.heap.size A l) :
    Calls Tryd.prog 33 #[.slice A n c] w fun e w' => e = .returned (.string (ltext l)) ∧ Below w.heap.size w w' := by
  have HP := hide hp
  clear hp
  cases hf : fitL l
  · have H := hide (ltext_f hf)
    have HF := hide hf
    clear hf
    go_enter Tryd.func33, Tryd.ntmps33
    go_wp2_with fail
    refine (l01FitsS A n c l hn hm w HP.out).mono ?_
    rw [HF.out]
    rintro e w1 ⟨rfl, hb1⟩
    go_wp2_with fail
    go_ret
    exact ⟨ret_str H.out.symm, hb1⟩
  · have H := hide (ltext_t hf)
    have HF := hide hf
    clear hf
    go_enter Tryd.func33, Tryd.ntmps33
    go_wp2_with fail
    refine (l01FitsS A n c l hn hm w HP.out).mono ?_
    rw [HF.out]
    rintro e w1 ⟨rfl, hb1⟩
    go_wp2_with fail
    refine (l01ListS A n c l hn HF.out w1 ((HP.out.below hb1).more hb1.size)).mono ?_
    rintro e w2 ⟨rfl, hb2⟩
    have hB2 := below_next (w0 := w) hb2 hb1
    clear hb1 hb2
    go_wp2_with fail
    go_ret
    exact ⟨ret_str H.out.symm, hB2⟩
theorem fewI (n m : Int) (w : World) : Calls Tryd.prog 79 #[.int .i64 n, .int .i64 m] w fun e w' => e = .returned (.bool (decide (n ≤ m))) ∧ w = w' := by
  go_enter Tryd.func79, Tryd.ntmps79
  go_wp2
  go_ret
  exact ⟨rfl, rfl⟩
theorem joinI (g c : Nat) (xs : List ByteArray) (w : World) (ha : AtA w g xs strA) (hg : g < w.heap.size) (hc : xs.length ≤ c) (hN : xs.length ≤ 64) (hl : (Lib.join (xs.map (·.data.toList)) [44]).length ≤ 140737488355328) :
    Calls Tryd.prog 81 #[.slice (some ⟨g, 0, none⟩) xs.length c, .string ⟨#[44]⟩] w fun e w' => e = .returned (.string ⟨(Lib.join (xs.map (·.data.toList)) [44]).toArray⟩) ∧ Below w.heap.size w w' :=
  Tryd.strings_Join g 0 c xs ⟨#[44]⟩ w (fun j x hj => by
    obtain ⟨hj', e⟩ := List.getElem?_eq_some_iff.1 hj
    rw [Nat.zero_add, ha j hj', e]; rfl) hg (by omega) hc hl
theorem ltextI (A : Option Addr) (n c : Nat) (l : List Int) (hn : l.length = n) (hm : n ≤ 1048576) (w : World) (hp : NmRd w w.heap.size A l) (hpw : Pow w) :
    Calls Tryd.prog 35 #[.slice A n c] w fun e w' => e = .returned (.string (ltext l)) ∧ Below w.heap.size w w' := by
  subst hn
  have HP := hide hp
  have HW := hide hpw
  clear hp hpw
  obtain ⟨i0, hi, hz0, hz1, hz2⟩ := info_parts str_info
  by_cases h64 : l.length ≤ 64
  · have d0 : decide ((l.length : Int) ≤ 64) = true := by simp; omega
    by_cases h0 : l.length = 0
    · have H := hide (show ltext l = ⟨#[45]⟩ by rw [ltext_t (fitL_iff.2 ⟨by rw [List.eq_nil_of_length_eq_zero h0]; rfl, h64⟩), lbody_0 h0])
      have e0 : ((l.length : Int) == 0) = true := by simp [h0]
      clear h0
      go_enter Tryd.func35, Tryd.ntmps35
      go_wp2_with (go_at_call 79; refine (fewI _ _ _).mono ?_; rintro e w' ⟨rfl, rfl⟩)
      go_ret
      exact ⟨ret_str H.out.symm, Below.refl _ _⟩
    · have e0 : ((l.length : Int) == 0) = false := beq_false_of_ne (by omega)
      have hpos : 0 < l.length := by omega
      clear h0
      go_enter Tryd.func35, Tryd.ntmps35
      go_wp2_with (go_at_call 79; refine (fewI _ _ _).mono ?_; rintro e w' ⟨rfl, rfl⟩)
      go_loopw [3, 16] (fun v i wr => ∃ k : Nat, k ≤ l.length ∧ Hid (goodTo l k) ∧ Hid (OwnsA wr w.heap.size 9 v strA ((l.take k).map itoaT)) ∧ Below w.heap.size w wr ∧ i = .int .i64 k) (fun _ i _ => l.length - (intOf i).toNat)
      case atStart => exact ⟨0, Nat.zero_le _, hide (fun t h h0 => absurd h0 (by omega)), hide (OwnsA.empty (Nat.le_refl _)), by go_grown, rfl⟩
      case round =>
        obtain ⟨k, hk, hgd, hown, hbw, rfl⟩ := hrel
        have hz := hbw.size
        have hol : ((l.take k).map itoaT).length = k := by rw [List.length_map, List.length_take]; omega
        by_cases hlt : k < l.length
        · obtain ⟨g, off, rfl, hg0, hp⟩ := (HP.out.below hbw) (by omega)
          have c1 := hp k hlt
          clear hp
          cases hin : inL l[k]
          · have H := hide (ltext_f (fitL_no hlt hin))
            have HI := hide (show inB l[k] (-1000000000000) 1000000000000 = false from hin)
            clear hin
            go_wp2_with (go_at_call 80; refine (inI _ _ _ _).mono ?_; rw [HI.out]; rintro e w' ⟨rfl, rfl⟩)
            go_ret
            exact ⟨ret_str H.out.symm, hbw⟩
          · have HG := hide (good_next hgd.out hlt hin)
            have HI := hide (show inB l[k] (-1000000000000) 1000000000000 = true from hin)
            have hb := inL_bd hin
            have HT : Hid ((l.take k).map itoaT ++ [itoaT l[k]] = (l.take (k + 1)).map itoaT) := hide (by rw [List.take_succ_eq_append_getElem hlt, List.map_append]; rfl)
            clear hin
            obtain ⟨x, hx⟩ : ∃ x, l[k] = x := ⟨_, rfl⟩
            rw [hx] at c1 hb HI HT
            obtain ⟨out, ho⟩ : ∃ out, (l.take k).map itoaT = out := ⟨_, rfl⟩
            rw [ho] at hown hol HT
            have hol2 : out.length ≤ 64 := by omega
            clear hx ho hol
            go_wp2_with (first | (go_at_call 80; refine (inI _ _ _ _).mono ?_; rw [HI.out]; rintro e w' ⟨rfl, rfl⟩) | fail)
            refine (decTI x (by omega) (by omega) wr (HW.out.below hbw)).mono ?_
            rintro e w2 ⟨rfl, hb2⟩
            have hown2 := hide (OwnsA.below hown.out hb2)
            have hB2 := below_next (w0 := w) hb2 hbw
            have hz2' := hB2.size
            obtain ⟨p, hp⟩ : ∃ p, itoaT x = p := ⟨_, rfl⟩
            rw [hp] at HT ⊢
            clear hb2 hown c1 hp
            go_wp2_with (at_builtin; refine wpList_append_own _ rfl _ _ 44 rfl w.heap.size 9 i0 (.string ByteArray.empty) 1 16 Tryd.underlying44 hi hz0 hz1 hz2 rfl (by decide) _ _ _ rfl (World.ownsRow.alloc hown2.out _) ⟨w2.heap.size, 0, none⟩ 1 1 [.string p] rfl rfl new_cell (by intro u hu; rw [List.mem_singleton.1 hu]; rfl) (by unfold maxLen; omega) (by omega) (by simp; omega) ?_)
            intro v' wo hown' hgrow _
            have R := push_A (b := p) hown2.out (by simpa [strA] using hown') hgrow hB2 hz2'
            rw [HT.out] at R
            have O := hide R.1
            have hbo := R.2
            clear hown' hgrow R hown2 hbw hz hB2 hz2'
            go_wp2_with fail
            go_roundw
            case rel => exact ⟨k + 1, by omega, HG, O, hbo, by go_num⟩
            case measure => simp [intOf]; omega
        · obtain rfl : k = l.length := by omega
          have hall := good_all hgd.out
          have hfit := fitL_iff.2 ⟨hall, h64⟩
          rw [List.take_length] at hown hol
          have hmap : (l.map itoaT).map (·.data.toList) = l.map Lib.itoa := by
            rw [List.map_map]; exact List.map_congr_left fun x _ => rfl
          have H : Hid ((⟨(Lib.join ((l.map itoaT).map (·.data.toList)) [44]).toArray⟩ : ByteArray) = ltext l) := hide (by rw [hmap, ltext_t hfit, lbody_p hpos]; rfl)
          have hjl : (Lib.join ((l.map itoaT).map (·.data.toList)) [44]).length ≤ 140737488355328 := by
            rw [hmap]; have := jt_len l hall; unfold jt at this; omega
          obtain ⟨out, ho⟩ : ∃ out, l.map itoaT = out := ⟨_, rfl⟩
          rw [ho] at hown hol H hjl
          have hO : out.length ≤ 64 := by omega
          rcases hown.out.form with ⟨-, e⟩ | ⟨g, cp, rfl, h1, h2, h3, h4, h5⟩
          · rw [e] at hol; simp at hol; omega
          · have H5 := hide h5
            have HJ := hide hjl
            clear h5 hown hall hfit hmap ho hjl hol
            go_wp2_with fail
            refine (joinI g cp out wr H5.out h4 h1 hO HJ.out).mono ?_
            rintro e w2 ⟨rfl, hb2⟩
            have hB2 := below_next (w0 := w) hb2 hbw
            rw [H.out]
            clear hb2 hbw
            go_wp2_with fail
            go_ret
            exact ⟨rfl, hB2⟩
  · have d0 : decide ((l.length : Int) ≤ 64) = false := by simp; omega
    have H := hide (ltext_f (l := l) (by unfold fitL; rw [decide_eq_false h64, Bool.and_false]))
    clear h64
    go_enter Tryd.func35, Tryd.ntmps35
    go_wp2_with (go_at_call 79; refine (fewI _ _ _).mono ?_; rintro e w' ⟨rfl, rfl⟩)
    go_ret
    exact ⟨ret_str H.out.symm, Below.refl _ _⟩
theorem fnExactListText_walk (A : Option Addr) (n c : Nat) (l : List Int) (hn : l.length = n) (hmx : n ≤ maxLen) (hf : NmFit l) (w : World) (hp : NmRd w w.heap.size A l) (hpw : Pow w) :
    Calls Tryd.prog 11 #[.slice A n c] w fun e w' => e = .returned (.bool true) ∧ Below w.heap.size w w' := by
  have HR := hide hp
  have HW := hide hpw
  clear hp hpw hf
  unfold maxLen at hmx
  by_cases hl : n ≤ 1048576
  · go_enter Tryd.func11, Tryd.ntmps11
    go_wp2_with fail
    refine (toNums A n c l hn hl _ HR.out).mono ?_
    rintro e w1 ⟨g1, rfl, p1, p2, p3, hb1⟩
    have P3 := hide (nmRd_of p3 p2)
    clear p3
    go_wp2_with fail
    refine (ltextS _ n n l hn hl _ P3.out).mono ?_
    rintro e w2 ⟨rfl, hb2⟩
    have hB2 := below_next (w0 := w) hb2 hb1
    clear hb1 hb2 P3
    obtain ⟨t, ht⟩ : ∃ t, ltext l = t := ⟨_, rfl⟩
    rw [ht]
    have HT := hide ht
    clear ht
    go_wp2_with fail
    refine (toNums A n c l hn hl _ ((HR.out.below hB2).more hB2.size)).mono ?_
    rintro e w3 ⟨g2, rfl, q1, q2, q3, hb3⟩
    have hB3 := below_next (w0 := w) hb3 hB2
    have Q3 := hide q3
    clear q3 hB2 hb3
    go_wp2_with fail
    refine (ltextI _ n n l hn hl _ (nmRd_of Q3.out q2) (HW.out.below hB3)).mono ?_
    rintro e w4 ⟨rfl, hb4⟩
    rw [HT.out]
    have hB4 := below_next (w0 := w) hb4 hB3
    have Q4 := hide (Q3.out.below hb4 q2)
    have q4 := Nat.lt_of_lt_of_le q2 hb4.size
    clear hB3 hb4 Q3
    go_wp2_with fail
    refine (toNums A n c l hn hl _ ((HR.out.below hB4).more hB4.size)).mono ?_
    rintro e w5 ⟨g3, rfl, r1, r2, r3, hb5⟩
    have hB5 := below_next (w0 := w) hb5 hB4
    have Q5 := hide (Q4.out.below hb5 q4)
    have R5 := hide r3
    clear r3 hB4 hb5 Q4
    go_wp2_with fail
    refine (eqNums g2 g3 n n n l hn hl w5 Q5.out R5.out).mono ?_
    rintro e w6 ⟨rfl, k, rfl⟩
    have hB6 : Below w.heap.size w (w5.drewN k) := ⟨hB5.os, hB5.tape, hB5.output, hB5.size, hB5.block⟩
    clear hB5
    go_wp2_with fail
    go_ret
    exact ⟨rfl, hB6⟩
  · have hl' : 1048576 < n := by omega
    clear hl
    go_enter Tryd.func11, Tryd.ntmps11
    go_wp2_with fail
    go_ret
    exact ⟨rfl, Below.refl _ _⟩
end Go.Proofs.YtphlbpailmdndaaDoor
