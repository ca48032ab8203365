--%!
/- Contracts of the functions that lay the tenths of phases, reference (bytes) and program (texts) alike. Own work. -/
import Derived.Test.YtklmoeolehdjeaaPhOk
import Derived.Test.YtklmoeolehdjeaaOwn
namespace Go.Proofs.Ytklmoeolehdjeaa
open Go.ChangeShapes Go.WideShapes Go.ChangeAt Go.RowKit
set_option linter.unusedVariables false
set_option maxRecDepth 100000
set_option maxHeartbeats 2000000

/-- the byte of a color -/
def cb (s : ByteArray) : UInt8 := s.data.toList.headD 0
def nameOf (b : UInt8) : ByteArray := if b = 0 then ByteArray.empty else ⟨#[b]⟩
def tn (ps : List (ByteArray × Int)) : List UInt8 := ps.flatMap fun p => List.replicate p.2.toNat (cb p.1)
def strV (b : UInt8) : Value := .string (nameOf b)
theorem nameOf_cb {s : ByteArray} (h : colOk s = true) : nameOf (cb s) = s := by
  unfold colOk at h
  rw [Bool.or_eq_true, decide_eq_true_iff] at h
  rcases h with rfl | h
  · rfl
  · unfold colB at h
    rw [decide_eq_true_iff] at h
    rcases h with rfl | rfl | rfl | rfl <;> rfl
theorem tn_len {ps : List (ByteArray × Int)} (h : ps.all elOk = true) : ((tn ps).length : Int) = sm ps := by
  induction ps with
  | nil => rfl
  | cons p ps ih =>
    rw [List.all_cons, Bool.and_eq_true] at h
    have e := elOk_parts h.1
    have i := ih h.2
    unfold tn sm at i ⊢
    rw [List.flatMap_cons, List.length_append, List.length_replicate, List.map_cons, List.sum_cons]
    omega
theorem tn_succ (ps : List (ByteArray × Int)) (k : Nat) (h : k < ps.length) : tn (ps.take (k + 1)) = tn (ps.take k) ++ List.replicate ps[k].2.toNat (cb ps[k].1) := by
  unfold tn
  rw [List.take_succ_eq_append_getElem h, List.flatMap_append]
  simp
theorem tn_take_len {ps : List (ByteArray × Int)} (h : ps.all elOk = true) (k : Nat) : ((tn (ps.take k)).length : Int) ≤ 600 * (k : Int) := by
  have e : (ps.take k).all elOk = true := List.all_eq_true.2 fun x hx => List.all_eq_true.1 h x (List.mem_of_mem_take hx)
  rw [tn_len e]
  exact (sm_bd e).2
theorem tn_pos {ps : List (ByteArray × Int)} (h : ps.all elOk = true) (h1 : 1 ≤ ps.length) : 1 ≤ (tn ps).length := by
  have e := tn_len h
  match ps, h1 with
  | p :: qs, _ =>
    rw [List.all_cons, Bool.and_eq_true] at h
    have a := elOk_parts h.1
    have b := (sm_bd (ps := qs) (k := qs.length) (by rw [List.take_length]; exact h.2)).1
    rw [List.take_length] at b
    have : sm (p :: qs) = p.2 + sm qs := by unfold sm; simp
    omega
theorem tenthsI (g n c : Nat) (ps : List (ByteArray × Int)) (hn : ps.length = n) (hm : n ≤ 40) (hok : ps.all elOk = true) (w : World) (hp : PhAt w g 0 ps) (hg : g < w.heap.size) :
    Calls Try.prog 55 #[.slice (some ⟨g, 0, none⟩) n c] w fun e w' => ∃ v, e = .returned v ∧ Owns w' w.heap.size 9 v strV (tn ps) ∧ Below w.heap.size w w' := by
  subst hn
  have HP := hide hp
  have HOK := hide hok
  clear hp hok
  obtain ⟨i0, hi, hz0, hz1, hz2⟩ := info_parts str_info
  go_enter Try.func55, Try.ntmps55
  go_wp2
  go_loopw [3, 9] (fun v i wr => ∃ k : Nat, k ≤ ps.length ∧ Hid (Owns wr w.heap.size 9 v strV (tn (ps.take k))) ∧ Below w.heap.size w wr ∧ i = .int .i64 k) (fun _ i _ => ps.length - (intOf i).toNat)
  case atStart => exact ⟨0, Nat.zero_le _, hide (Owns.empty (Nat.le_refl _)), by go_grown, rfl⟩
  case round =>
    obtain ⟨k, hk, hown, hbw, rfl⟩ := hrel
    by_cases hlt : k < ps.length
    · obtain ⟨c1, c2⟩ := (HP.out.below hbw hg) k hlt
      rw [Nat.zero_add] at c1 c2
      have hel := elOk_parts (List.all_eq_true.1 HOK.out _ (List.getElem_mem hlt))
      have hT := tn_succ ps k hlt
      have hL := tn_take_len HOK.out k
      obtain ⟨s, hs⟩ : ∃ s, s = ps[k].1 := ⟨_, rfl⟩
      obtain ⟨z, hz⟩ : ∃ z : Nat, ps[k].2 = (z : Int) := Int.eq_ofNat_of_zero_le (show 0 ≤ ps[k].2 by omega)
      rw [hz] at c2 hel hT
      rw [← hs] at c1 hel hT
      rw [Int.toNat_natCast] at hT
      obtain ⟨he1, he2, he3⟩ := hel
      have HN := hide (nameOf_cb he3)
      have HT := hide hT
      clear hs hz hT he3
      obtain ⟨wo, rfl⟩ : ∃ wo : World, wo = wr := ⟨_, rfl⟩
      go_wp2
      have B0 := hide (heap_alloc_new wo (.cells #[.string s, .int .i64 (z : Int)] 49) : BlkIs (wo.alloc (.cells #[.string s, .int .i64 (z : Int)] 49)) wo.heap.size 49 #[.string s, .int .i64 (z : Int)])
      have O0 := hide (World.ownsRow.alloc hown.out (.cells #[.string s, .int .i64 (z : Int)] 49))
      have hbz := hbw.size
      have hB0 : Below w.heap.size w (wo.alloc (.cells #[.string s, .int .i64 (z : Int)] 49)) := by go_grown
      clear hown
      go_loopw [3, 15] (fun v j wi => ∃ q : Nat, q ≤ z ∧ Hid (Owns wi w.heap.size 9 v strV (tn (ps.take k) ++ List.replicate q (cb s))) ∧ Hid (BlkIs wi wo.heap.size 49 #[.string s, .int .i64 (z : Int)]) ∧ Below w.heap.size w wi ∧ j = .int .i64 q) (fun _ j _ => z - (intOf j).toNat)
      case atStart => exact ⟨0, Nat.zero_le _, hide (by rw [List.replicate_zero, List.append_nil]; exact O0.out), B0, hB0, rfl⟩
      case round =>
        clear O0 B0 hB0
        obtain ⟨q, hq, hown, hblk, hbi, rfl⟩ := hrel
        by_cases hlq : q < z
        · have d0 : wr.cell? ⟨wo.heap.size, 0, none⟩ = some (.string s) := cell_of_row _ _ _ _ _ _ hblk.out
          have hz := hbi.size
          have hlen : (tn (ps.take k) ++ List.replicate q (cb s)).length ≤ 100000 := by rw [List.length_append, List.length_replicate]; omega
          go_wp2_with (at_builtin; refine wpList_append_own _ rfl _ _ 61 rfl w.heap.size 9 i0 (.string ByteArray.empty) 1 16 Try.underlying61 hi hz0 hz1 hz2 rfl (by decide) _ _ _ rfl (World.ownsRow.alloc hown.out _) ⟨wr.heap.size, 0, none⟩ 1 1 [.string s] rfl rfl ?c1 ?c2 ?c3 ?c4 ?c5 ?_)
          case c1 => exact new_cell
          case c2 => intro u hu; simp at hu; subst hu; rfl
          case c3 => unfold maxLen; omega
          case c4 => omega
          case c5 => simp; omega
          · intro v' w1 hown' hgrow _
            have R := own_push (b := cb s) hown.out (by rw [show strV (cb s) = .string s by unfold strV; rw [HN.out]]; simpa using hown') hgrow hbi hz
            have Q := own_push_blk hown.out hgrow hblk.out (by decide)
            have R1 := hide R.1
            have R2 := R.2
            have Q1 := hide Q
            clear hown' hgrow R Q hown hblk hbi d0
            go_wp2
            go_roundw
            case rel => exact ⟨q + 1, by omega, hide (by rw [List.replicate_succ', ← List.append_assoc]; exact R1.out), Q1, R2, by go_num⟩
            case measure => simp [intOf]; omega
        · obtain rfl : q = z := by omega
          go_wp2
          go_roundw
          case rel => exact ⟨k + 1, by omega, hide (by rw [HT.out]; exact hown.out), hbi, by go_num⟩
          case measure => simp [intOf]; omega
    · obtain rfl : k = ps.length := by omega
      go_wp2
      go_ret
      exact ⟨_, rfl, by have := hown.out; rwa [List.take_length] at this, hbw⟩
theorem tenthsS (g n c : Nat) (ps : List (ByteArray × Int)) (hn : ps.length = n) (hm : n ≤ 40) (hok : ps.all elOk = true) (w : World) (hp : PhAt w g 0 ps) (hg : g < w.heap.size) :
    Calls Try.prog 54 #[.slice (some ⟨g, 0, none⟩) n c] w fun e w' => ∃ v, e = .returned v ∧ Owns w' w.heap.size 5 v byteV (tn ps) ∧ Below w.heap.size w w' := by
  subst hn
  have HP := hide hp
  have HOK := hide hok
  clear hp hok
  obtain ⟨i0, hi, hz0, hz1, hz2⟩ := info_parts u8_info
  go_enter Try.func54, Try.ntmps54
  go_wp2
  go_loopw [3, 4] (fun v i wr => ∃ k : Nat, k ≤ ps.length ∧ Hid (Owns wr w.heap.size 5 v byteV (tn (ps.take k))) ∧ Below w.heap.size w wr ∧ i = .int .i64 k) (fun _ i _ => ps.length - (intOf i).toNat)
  case atStart => exact ⟨0, Nat.zero_le _, hide (Owns.empty (Nat.le_refl _)), by go_grown, rfl⟩
  case round =>
    obtain ⟨k, hk, hown, hbw, rfl⟩ := hrel
    by_cases hlt : k < ps.length
    · obtain ⟨c1, c2⟩ := (HP.out.below hbw hg) k hlt
      rw [Nat.zero_add] at c1 c2
      have hel := elOk_parts (List.all_eq_true.1 HOK.out _ (List.getElem_mem hlt))
      have hT := tn_succ ps k hlt
      have hL := tn_take_len HOK.out k
      obtain ⟨s, hs⟩ : ∃ s, s = ps[k].1 := ⟨_, rfl⟩
      obtain ⟨z, hz⟩ : ∃ z : Nat, ps[k].2 = (z : Int) := Int.eq_ofNat_of_zero_le (show 0 ≤ ps[k].2 by omega)
      have HK : Hid (ps[k].2 = (z : Int)) := hide hz
      rw [hz] at c2 hel hT
      rw [← hs] at c1 hel hT
      rw [Int.toNat_natCast] at hT
      obtain ⟨he1, he2, he3⟩ := hel
      have HT := hide hT
      clear hs hz hT
      obtain ⟨wo, rfl⟩ : ∃ wo : World, wo = wr := ⟨_, rfl⟩
      have hbz := hbw.size
      have hcase : s = ByteArray.empty ∨ ∃ c : UInt8, s = ⟨#[c]⟩ := by
        by_cases h0 : s = ByteArray.empty
        · exact .inl h0
        · refine .inr (one_byte ?_)
          rw [colOk_c h0] at he3
          exact Classical.byContradiction fun h => by rw [colB_size h] at he3; cases he3
      clear he3
      rcases hcase with rfl | ⟨x, rfl⟩
      · go_wp2
        have O0 := hown
        clear hown
        go_loopw [3, 6] (fun v j wi => ∃ q : Nat, q ≤ z ∧ Hid (Owns wi w.heap.size 5 v byteV (tn (ps.take k) ++ List.replicate q (cb ByteArray.empty))) ∧ Below w.heap.size w wi ∧ j = .int .i64 q) (fun _ j _ => z - (intOf j).toNat)
        case atStart => exact ⟨0, Nat.zero_le _, hide (by rw [List.replicate_zero, List.append_nil]; exact O0.out), hbw, rfl⟩
        case round =>
          clear O0
          obtain ⟨q, hq, hown, hbi, rfl⟩ := hrel
          have e2 := ((HP.out.below hbi hg) k hlt).2
          rw [Nat.zero_add, HK.out] at e2
          by_cases hlq : q < z
          · have hz := hbi.size
            have hlen : (tn (ps.take k) ++ List.replicate q (cb ByteArray.empty)).length ≤ 100000 := by rw [List.length_append, List.length_replicate]; omega
            go_wp2_with (at_builtin; refine wpList_append_own _ rfl _ _ 59 rfl w.heap.size 5 i0 (.int .u8 0) 1 1 Try.underlying59 hi hz0 hz1 hz2 rfl (by decide) _ _ _ rfl (World.ownsRow.alloc hown.out _) ⟨wr.heap.size, 0, none⟩ 1 1 [(.int .u8 0 : Value)] rfl rfl ?c1 ?c2 ?c3 ?c4 ?c5 ?_)
            case c1 => exact new_cell
            case c2 => intro u hu; simp at hu; subst hu; rfl
            case c3 => unfold maxLen; omega
            case c4 => omega
            case c5 => simp; omega
            · intro v' w1 hown' hgrow _
              have R := own_push (b := cb ByteArray.empty) hown.out (by rw [show byteV (cb ByteArray.empty) = (.int .u8 0 : Value) from rfl]; simpa using hown') hgrow hbi hz
              have R1 := hide R.1
              have R2 := R.2
              clear hown' hgrow R hown hbi
              go_wp2
              go_roundw
              case rel => exact ⟨q + 1, by omega, hide (by rw [List.replicate_succ', ← List.append_assoc]; exact R1.out), R2, by go_num⟩
              case measure => simp [intOf]; omega
          · obtain rfl : q = z := by omega
            go_wp2
            go_roundw
            case rel => exact ⟨k + 1, by omega, hide (by rw [HT.out]; exact hown.out), hbi, by go_num⟩
            case measure => simp [intOf]; omega
      · have hx0 : ∀ h, (⟨#[x]⟩ : ByteArray)[0]'h = x := fun _ => rfl
        go_wp2
        have O0 := hown
        clear hown
        go_loopw [3, 6] (fun v j wi => ∃ q : Nat, q ≤ z ∧ Hid (Owns wi w.heap.size 5 v byteV (tn (ps.take k) ++ List.replicate q (cb ⟨#[x]⟩))) ∧ Below w.heap.size w wi ∧ j = .int .i64 q) (fun _ j _ => z - (intOf j).toNat)
        case atStart => exact ⟨0, Nat.zero_le _, hide (by rw [List.replicate_zero, List.append_nil]; exact O0.out), hbw, rfl⟩
        case round =>
          clear O0
          obtain ⟨q, hq, hown, hbi, rfl⟩ := hrel
          have e2 := ((HP.out.below hbi hg) k hlt).2
          rw [Nat.zero_add, HK.out] at e2
          by_cases hlq : q < z
          · have hz := hbi.size
            have hlen : (tn (ps.take k) ++ List.replicate q (cb ⟨#[x]⟩)).length ≤ 100000 := by rw [List.length_append, List.length_replicate]; omega
            go_wp2_with (at_builtin; refine wpList_append_own _ rfl _ _ 59 rfl w.heap.size 5 i0 (.int .u8 0) 1 1 Try.underlying59 hi hz0 hz1 hz2 rfl (by decide) _ _ _ rfl (World.ownsRow.alloc hown.out _) ⟨wr.heap.size, 0, none⟩ 1 1 [(.int .u8 (x.toNat : Int) : Value)] rfl rfl ?d1 ?d2 ?d3 ?d4 ?d5 ?_)
            case d1 => exact new_cell
            case d2 => intro u hu; simp at hu; subst hu; rfl
            case d3 => unfold maxLen; omega
            case d4 => omega
            case d5 => simp; omega
            · intro v' w1 hown' hgrow _
              have R := own_push (b := cb ⟨#[x]⟩) hown.out (by rw [show byteV (cb ⟨#[x]⟩) = (.int .u8 (x.toNat : Int) : Value) from rfl]; simpa using hown') hgrow hbi hz
              have R1 := hide R.1
              have R2 := R.2
              clear hown' hgrow R hown hbi
              go_wp2
              go_roundw
              case rel => exact ⟨q + 1, by omega, hide (by rw [List.replicate_succ', ← List.append_assoc]; exact R1.out), R2, by go_num⟩
              case measure => simp [intOf]; omega
          · obtain rfl : q = z := by omega
            go_wp2
            go_roundw
            case rel => exact ⟨k + 1, by omega, hide (by rw [HT.out]; exact hown.out), hbi, by go_num⟩
            case measure => simp [intOf]; omega
    · obtain rfl : k = ps.length := by omega
      go_wp2
      go_ret
      exact ⟨_, rfl, by have := hown.out; rwa [List.take_length] at this, hbw⟩
end Go.Proofs.Ytklmoeolehdjeaa
