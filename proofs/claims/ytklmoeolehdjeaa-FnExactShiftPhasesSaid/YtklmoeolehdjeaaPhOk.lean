--%!
/- Contracts of the functions that say whether phases are valid, reference and program alike. Own work. -/
import Derived.Test.YtklmoeolehdjeaaPh
import Derived.Test.YtklmoeolehdjeaaPhMath
import Derived.Test.YtklmoeolehdjeaaShelf
namespace Go.Proofs.Ytklmoeolehdjeaa
open Go.ChangeShapes Go.WideShapes Go.ChangeAt Go.RowKit
set_option linter.unusedVariables false
set_option maxRecDepth 100000
set_option maxHeartbeats 1000000

theorem colB_index (c : UInt8) : decide (0 ≤ Lib.indexByte [87, 82, 71, 89] c) = colB ⟨#[c]⟩ := by
  rw [colB_one]
  by_cases h1 : c = 87
  · subst h1; decide
  by_cases h2 : c = 82
  · subst h2; decide
  by_cases h3 : c = 71
  · subst h3; decide
  by_cases h4 : c = 89
  · subst h4; decide
  rw [decide_eq_false (by simp [h1, h2, h3, h4] : ¬ (c = 87 ∨ c = 82 ∨ c = 71 ∨ c = 89))]
  simp [Lib.indexByte, Ne.symm h1, Ne.symm h2, Ne.symm h3, Ne.symm h4]
theorem isColorI (s : ByteArray) (hs : s.size ≤ maxLen) (w : World) :
    Calls Try.prog 53 #[.string s] w fun e w' => e = .returned (.bool (colB s)) ∧ w = w' := by
  unfold maxLen at hs
  by_cases h : s.size = 1
  · obtain ⟨c, rfl⟩ := one_byte h
    have H := hide (colB_index c)
    clear h
    go_enter Try.func53, Try.ntmps53
    go_wp2_with (go_at_call 76; refine (Try.strings_Contains_one _ c _).mono ?_; rintro e w' ⟨rfl, rfl⟩)
    go_ret
    exact ⟨ret_bool H.out, rfl⟩
  · have H := hide (colB_size h)
    have g : ((s.size : Int) == 1) = false := by simp; omega
    clear h
    go_enter Try.func53, Try.ntmps53
    go_wp2_with fail
    go_ret
    exact ⟨ret_bool H.out.symm, rfl⟩
theorem toList_no {s : ByteArray} {c : UInt8} (h : s ≠ ⟨#[c]⟩) : (s.toList == [c]) = false := by
  have := toList_ne h
  rw [Lib.toList_data ⟨#[c]⟩] at this
  simpa using this
theorem isEmpty_of {s : ByteArray} (h : s = ByteArray.empty) : s.toList.isEmpty = true := by subst h; rw [Lib.toList_data]; rfl
theorem isEmpty_ne {s : ByteArray} (h : s ≠ ByteArray.empty) : s.toList.isEmpty = false := isEmpty_no fun e => h (eq_empty e)
theorem l05ColorS (s : ByteArray) (w : World) :
    Calls Try.prog 75 #[.string s] w fun e w' => e = .returned (.bool (colB s)) ∧ w = w' := by
  by_cases h1 : s = ⟨#[87]⟩
  · have H := hide (decide_eq_true (.inl h1) : colB s = true)
    subst h1
    go_enter Try.func75, Try.ntmps75
    go_wp2
    go_ret
    exact ⟨ret_bool H.out.symm, rfl⟩
  · have g1 : (s.toList == [87]) = false := toList_no h1
    by_cases h2 : s = ⟨#[82]⟩
    · have H := hide (decide_eq_true (.inr (.inl h2)) : colB s = true)
      subst h2
      clear h1 g1
      go_enter Try.func75, Try.ntmps75
      go_wp2
      go_ret
      exact ⟨ret_bool H.out.symm, rfl⟩
    · have g2 : (s.toList == [82]) = false := toList_no h2
      by_cases h3 : s = ⟨#[71]⟩
      · have H := hide (decide_eq_true (.inr (.inr (.inl h3))) : colB s = true)
        subst h3
        clear h1 g1 h2 g2
        go_enter Try.func75, Try.ntmps75
        go_wp2
        go_ret
        exact ⟨ret_bool H.out.symm, rfl⟩
      · have g3 : (s.toList == [71]) = false := toList_no h3
        by_cases h4 : s = ⟨#[89]⟩
        · have H := hide (decide_eq_true (.inr (.inr (.inr h4))) : colB s = true)
          subst h4
          clear h1 g1 h2 g2 h3 g3
          go_enter Try.func75, Try.ntmps75
          go_wp2
          go_ret
          exact ⟨ret_bool H.out.symm, rfl⟩
        · have g4 : (s.toList == [89]) = false := toList_no h4
          have H := hide (decide_eq_false (by rintro (h | h | h | h) <;> contradiction) : colB s = false)
          clear h1 h2 h3 h4
          go_enter Try.func75, Try.ntmps75
          go_wp2
          go_ret
          exact ⟨ret_bool H.out.symm, rfl⟩
theorem validI (g n c : Nat) (ps : List (ByteArray × Int)) (hn : ps.length = n) (hm : n ≤ 1048576) (hf : PhFit ps) (w : World) (hp : PhAt w g 0 ps) (hg : g < w.heap.size) :
    Calls Try.prog 24 #[.slice (some ⟨g, 0, none⟩) n c] w fun e w' => e = .returned (.bool (okPh ps)) ∧ Below w.heap.size w w' := by
  subst hn
  have HP := hide hp
  have HF := hide hf
  clear hp hf
  go_enter Try.func24, Try.ntmps24
  go_wp2
  go_loopw [3, 8] (fun t i wr => ∃ k : Nat, k ≤ ps.length ∧ Hid ((ps.take k).all elOk = true) ∧ (∃ m : Int, Hid (m = sm (ps.take k)) ∧ 0 ≤ m ∧ m ≤ 600 * (k : Int) ∧ t = .int .i64 m) ∧ Below w.heap.size w wr ∧ i = .int .i64 k) (fun _ i _ => ps.length - (intOf i).toNat)
  case atStart => exact ⟨0, Nat.zero_le _, hide rfl, ⟨0, hide rfl, by omega, by omega, rfl⟩, Below.refl _ _, rfl⟩
  case round =>
    obtain ⟨k, hk, hall, ⟨m, hm1, hm2, hm3, rfl⟩, hbw, rfl⟩ := hrel
    by_cases hlt : k < ps.length
    · obtain ⟨c1, c2⟩ := (HP.out.below hbw hg) k hlt
      rw [Nat.zero_add] at c1 c2
      have hsz := (HF.out.at_ hlt).1
      have hz := hbw.size
      obtain ⟨p, hp⟩ : ∃ p, p = ps[k] := ⟨_, rfl⟩
      rw [← hp] at c1 c2 hsz
      have HPK := hide hp
      clear hp
      cases h1 : inB p.2 1 600
      · have H := hide (okPh_a (all_no hlt (by rw [← HPK.out]; exact elOk_n h1)))
        go_wp2_with (first | (go_at_call 52; refine (inI _ _ _ _).mono ?_; rw [h1]; rintro e w' ⟨rfl, rfl⟩))
        go_ret
        exact ⟨ret_bool H.out.symm, by go_grown⟩
      · by_cases h2 : p.1 = ByteArray.empty
        · have hE := isEmpty_of h2
          have H := hide (all_take_succ hall.out hlt (by rw [← HPK.out, elOk_c h1]; exact colOk_e h2))
          have M := hide (sm_succ ps k hlt)
          have hb := (inB_iff _ _ _).1 h1
          clear h2
          go_wp2_with (first | (go_at_call 52; refine (inI _ _ _ _).mono ?_; rw [h1]; rintro e w' ⟨rfl, rfl⟩))
          go_roundw
          case rel => exact ⟨k + 1, by omega, H, ⟨_, hide (by rw [M.out, ← HPK.out, hm1.out]), by omega, by omega, rfl⟩, by go_grown, by go_num⟩
          case measure => simp [intOf]; omega
        · have hE := isEmpty_ne h2
          cases h3 : colB p.1
          · have H := hide (okPh_a (all_no hlt (by rw [← HPK.out, elOk_c h1, colOk_c h2]; exact h3)))
            clear h2
            go_wp2_with (first | (go_at_call 52; refine (inI _ _ _ _).mono ?_; rw [h1]; rintro e w' ⟨rfl, rfl⟩) | (go_at_call 53; refine (isColorI _ hsz _).mono ?_; rw [h3]; rintro e w' ⟨rfl, rfl⟩))
            go_ret
            exact ⟨ret_bool H.out.symm, by go_grown⟩
          · have H := hide (all_take_succ hall.out hlt (by rw [← HPK.out, elOk_c h1, colOk_c h2]; exact h3))
            have M := hide (sm_succ ps k hlt)
            have hb := (inB_iff _ _ _).1 h1
            clear h2
            go_wp2_with (first | (go_at_call 52; refine (inI _ _ _ _).mono ?_; rw [h1]; rintro e w' ⟨rfl, rfl⟩) | (go_at_call 53; refine (isColorI _ hsz _).mono ?_; rw [h3]; rintro e w' ⟨rfl, rfl⟩))
            go_roundw
            case rel => exact ⟨k + 1, by omega, H, ⟨_, hide (by rw [M.out, ← HPK.out, hm1.out]), by omega, by omega, rfl⟩, by go_grown, by go_num⟩
            case measure => simp [intOf]; omega
    · obtain rfl : k = ps.length := by omega
      have hall' := all_full hall.out
      have hm1' : m = sm ps := by rw [hm1.out, sm_full]
      cases h1 : inB (ps.length : Int) 1 40
      · have H := hide (okPh_b (ps := ps) (by have := inB_no h1; omega))
        clear hm1' hall'
        go_wp2_with (first | (go_at_call 52; refine (inI _ _ _ _).mono ?_; rw [h1]; rintro e w' ⟨rfl, rfl⟩))
        go_ret
        exact ⟨ret_bool H.out.symm, by go_grown⟩
      · have hb := (inB_iff _ _ _).1 h1
        have H0 := okPh_c hall' (by omega) (by omega)
        rw [← hm1'] at H0
        by_cases h2 : m ≤ 600
        · have H := hide (H0.trans (decide_eq_true h2))
          have d : decide (m ≤ 600) = true := decide_eq_true h2
          clear hm1' hall' H0
          go_wp2_with (first | (go_at_call 52; refine (inI _ _ _ _).mono ?_; rw [h1]; rintro e w' ⟨rfl, rfl⟩))
          go_ret
          exact ⟨ret_bool H.out.symm, by go_grown⟩
        · have H := hide (H0.trans (decide_eq_false h2))
          have d : decide (m ≤ 600) = false := decide_eq_false h2
          clear hm1' hall' H0
          go_wp2_with (first | (go_at_call 52; refine (inI _ _ _ _).mono ?_; rw [h1]; rintro e w' ⟨rfl, rfl⟩))
          go_ret
          exact ⟨ret_bool H.out.symm, by go_grown⟩
theorem l06OkS (g n c : Nat) (ps : List (ByteArray × Int)) (hn : ps.length = n) (hm : n ≤ 1048576) (w : World) (hp : PhAt w g 0 ps) :
    Calls Try.prog 51 #[.slice (some ⟨g, 0, none⟩) n c] w fun e w' => e = .returned (.bool (okPh ps)) ∧ w = w' := by
  subst hn
  have HP := hide hp
  clear hp
  by_cases hl : 1 ≤ ps.length
  · have l1 : decide ((ps.length : Int) < 1) = false := by simp; omega
    by_cases hl2 : ps.length ≤ 40
    · have l2 : decide ((40 : Int) < ps.length) = false := by simp; omega
      go_enter Try.func51, Try.ntmps51
      go_wp2
      go_loop [3, 4] (fun t i => ∃ k : Nat, k ≤ ps.length ∧ Hid ((ps.take k).all elOk = true) ∧ (∃ m : Int, Hid (m = sm (ps.take k)) ∧ 0 ≤ m ∧ m ≤ 600 * (k : Int) ∧ t = .int .i64 m) ∧ i = .int .i64 k) (fun _ i => ps.length - (intOf i).toNat)
      case atStart => exact ⟨0, Nat.zero_le _, hide rfl, ⟨0, hide rfl, by omega, by omega, rfl⟩, rfl⟩
      case round =>
        clear l1 l2
        obtain ⟨k, hk, hall, ⟨m, hm1, hm2, hm3, rfl⟩, rfl⟩ := hrel
        by_cases hlt : k < ps.length
        · obtain ⟨c1, c2⟩ := HP.out k hlt
          rw [Nat.zero_add] at c1 c2
          obtain ⟨p, hp⟩ : ∃ p, p = ps[k] := ⟨_, rfl⟩
          rw [← hp] at c1 c2
          have HPK := hide hp
          clear hp
          cases h1 : inB p.2 1 600
          · have H := hide (okPh_a (all_no hlt (by rw [← HPK.out]; exact elOk_n h1)))
            go_wp2_with (first | (go_at_call 74; refine (inS _ _ _ _).mono ?_; rw [h1]; rintro e w' ⟨rfl, rfl⟩))
            go_ret
            exact ⟨ret_bool H.out.symm, rfl⟩
          · by_cases h2 : p.1 = ByteArray.empty
            · have hE := isEmpty_of h2
              have H := hide (all_take_succ hall.out hlt (by rw [← HPK.out, elOk_c h1]; exact colOk_e h2))
              have M := hide (sm_succ ps k hlt)
              have hb := (inB_iff _ _ _).1 h1
              clear h2
              go_wp2_with (first | (go_at_call 74; refine (inS _ _ _ _).mono ?_; rw [h1]; rintro e w' ⟨rfl, rfl⟩))
              go_round
              case rel => exact ⟨k + 1, by omega, H, ⟨_, hide (by rw [M.out, ← HPK.out, hm1.out]), by omega, by omega, rfl⟩, by go_num⟩
              case measure => simp [intOf]; omega
            · have hE := isEmpty_ne h2
              cases h3 : colB p.1
              · have H := hide (okPh_a (all_no hlt (by rw [← HPK.out, elOk_c h1, colOk_c h2]; exact h3)))
                clear h2
                go_wp2_with (first | (go_at_call 74; refine (inS _ _ _ _).mono ?_; rw [h1]; rintro e w' ⟨rfl, rfl⟩) | (go_at_call 75; refine (l05ColorS _ _).mono ?_; rw [h3]; rintro e w' ⟨rfl, rfl⟩))
                go_ret
                exact ⟨ret_bool H.out.symm, rfl⟩
              · have H := hide (all_take_succ hall.out hlt (by rw [← HPK.out, elOk_c h1, colOk_c h2]; exact h3))
                have M := hide (sm_succ ps k hlt)
                have hb := (inB_iff _ _ _).1 h1
                clear h2
                go_wp2_with (first | (go_at_call 74; refine (inS _ _ _ _).mono ?_; rw [h1]; rintro e w' ⟨rfl, rfl⟩) | (go_at_call 75; refine (l05ColorS _ _).mono ?_; rw [h3]; rintro e w' ⟨rfl, rfl⟩))
                go_round
                case rel => exact ⟨k + 1, by omega, H, ⟨_, hide (by rw [M.out, ← HPK.out, hm1.out]), by omega, by omega, rfl⟩, by go_num⟩
                case measure => simp [intOf]; omega
        · obtain rfl : k = ps.length := by omega
          have H0 := okPh_c (all_full hall.out) hl hl2
          rw [← sm_full, ← hm1.out] at H0
          by_cases h2 : m ≤ 600
          · have H := hide (H0.trans (decide_eq_true h2))
            have d : decide (m ≤ 600) = true := decide_eq_true h2
            clear H0
            go_wp2
            go_ret
            exact ⟨ret_bool H.out.symm, rfl⟩
          · have H := hide (H0.trans (decide_eq_false h2))
            have d : decide (m ≤ 600) = false := decide_eq_false h2
            clear H0
            go_wp2
            go_ret
            exact ⟨ret_bool H.out.symm, rfl⟩
    · have H := hide (okPh_b (ps := ps) (by omega))
      have l2 : decide ((40 : Int) < ps.length) = true := by simp; omega
      go_enter Try.func51, Try.ntmps51
      go_wp2
      go_ret
      exact ⟨ret_bool H.out.symm, rfl⟩
  · have H := hide (okPh_b (ps := ps) (by omega))
    have l1 : decide ((ps.length : Int) < 1) = true := by simp; omega
    go_enter Try.func51, Try.ntmps51
    go_wp2
    go_ret
    exact ⟨ret_bool H.out.symm, rfl⟩
end Go.Proofs.Ytklmoeolehdjeaa
