--%!
/- Contracts of the functions on lists of phases that the laws themselves hold: their sizes, their copies, their comparison. Own work. -/
import Derived.Test.YtklmoeolehdjeaaNums
import Derived.Deep.RegionHeld3
import Derived.StillTailTactics
namespace Go.Proofs.Ytklmoeolehdjeaa
open Go.ChangeShapes Go.WideShapes Go.ChangeAt Go.RowKit
set_option linter.unusedVariables false
set_option maxRecDepth 100000
set_option maxHeartbeats 1000000

/-- phases lie in a block, one after the other -/
def PhAt (w : World) (g off : Nat) (ps : List (ByteArray × Int)) : Prop :=
  ∀ (k : Nat) (h : k < ps.length), w.cell? ⟨g, off + k * 2, none⟩ = some (.string ps[k].1) ∧ w.cell? ⟨g, off + k * 2 + 1, none⟩ = some (.int .i64 ps[k].2)
theorem PhAt.below {w w' : World} {g off B : Nat} {ps : List (ByteArray × Int)} (h : PhAt w g off ps) (hb : Below B w w') (hg : g < B) : PhAt w' g off ps := fun k hk =>
  ⟨(hb.cell (p := ⟨g, off + k * 2, none⟩) hg).trans (h k hk).1, (hb.cell (p := ⟨g, off + k * 2 + 1, none⟩) hg).trans (h k hk).2⟩
/-- a slice value reads as phases; nil and empty ones too -/
def PhRd (w : World) (B : Nat) (A : Option Addr) (ps : List (ByteArray × Int)) : Prop :=
  0 < ps.length → ∃ g off, A = some ⟨g, off, none⟩ ∧ g < B ∧ PhAt w g off ps
theorem PhRd.below {w w' : World} {B : Nat} {A : Option Addr} {ps : List (ByteArray × Int)} (h : PhRd w B A ps) (hb : Below B w w') : PhRd w' B A ps := fun h0 => by
  obtain ⟨g, off, e, hg, hp⟩ := h h0
  exact ⟨g, off, e, hg, hp.below hb hg⟩
theorem PhRd.more {w : World} {B B' : Nat} {A : Option Addr} {ps : List (ByteArray × Int)} (h : PhRd w B A ps) (hB : B ≤ B') : PhRd w B' A ps := fun h0 => by
  obtain ⟨g, off, e, hg, hp⟩ := h h0
  exact ⟨g, off, e, by omega, hp⟩
/-- all integers and all texts are in range -/
def PhFit (ps : List (ByteArray × Int)) : Prop := ∀ p ∈ ps, p.1.size ≤ maxLen ∧ -9223372036854775808 ≤ p.2 ∧ p.2 ≤ 9223372036854775807
theorem run_make_rowN {P : Program} (t e : TypeId) (i : TypeInfo) (z : Value) (ht : P.underlying t = some (.slice e)) (hi : P.info? e = some i) (hz : i.zero = some z)
    (kl kc : IntKind) (n c : Nat) (hnc : n ≤ c) (hbytes : i.bytes * c ≤ 281474976710656) (h63 : c ≤ 9223372036854775807) (w : World) :
    (Instr.makeSlice t (.int kl (n : Int)) (.int kc (c : Int))).run P w = .ok (.slice (some ⟨w.heap.size, 0, none⟩) n c) (w.alloc (.cells (madeCells z.cells (c * i.size)) e)) := by
  have hb : (i.bytes : Int) * (c : Int) ≤ 281474976710656 := by
    have h : ((i.bytes * c : Nat) : Int) ≤ 281474976710656 := by omega
    rwa [Int.natCast_mul] at h
  have hr := run_make (P := P) w t e i z ht hi hz kl kc n c (by omega) (by omega) hb (by omega)
  simp only [Int.toNat_natCast] at hr
  exact hr
theorem PhFit.at_ {ps : List (ByteArray × Int)} (h : PhFit ps) {k : Nat} (hk : k < ps.length) : ps[k].1.size ≤ maxLen ∧ -9223372036854775808 ≤ ps[k].2 ∧ ps[k].2 ≤ 9223372036854775807 := h _ (List.getElem_mem hk)
theorem szPhase1 (s : ByteArray) (n left : Int) (hs : s.size ≤ maxLen) (h0 : 0 ≤ left) (h1 : left ≤ 1048576) (w : World) :
    Calls Try.prog 41 #[.agg #[.string s, .int .i64 n], .int .i64 left] w fun e w' => ∃ r : Int, e = .returned (.int .i64 r) ∧ (-1 ≤ r ∧ r ≤ left) ∧ Below w.heap.size w w' := by
  unfold maxLen at hs
  by_cases h : (s.size : Int) ≤ left
  · go_enter Try.func41, Try.ntmps41
    go_wp2
    go_ret
    exact ⟨_, rfl, by omega, by go_grown⟩
  · go_enter Try.func41, Try.ntmps41
    go_wp2
    go_ret
    exact ⟨_, rfl, by omega, by go_grown⟩
theorem szPhases (A : Option Addr) (n c : Nat) (ps : List (ByteArray × Int)) (hn : ps.length = n) (hm : n ≤ maxLen) (hf : PhFit ps) (left : Int) (h0 : 0 ≤ left) (h1 : left ≤ 1048576) (w : World) (hp : PhRd w w.heap.size A ps) :
    Calls Try.prog 13 #[.slice A n c, .int .i64 left] w fun e w' => ∃ r : Int, e = .returned (.int .i64 r) ∧ (-1 ≤ r ∧ r ≤ left ∧ (0 ≤ r → (n : Int) ≤ left)) ∧ Below w.heap.size w w' := by
  subst hn
  unfold maxLen at hm
  have HF := hide hf
  have HP := hide hp
  clear hf hp
  by_cases hl : (ps.length : Int) ≤ left
  · go_enter Try.func13, Try.ntmps13
    go_wp2
    go_loopw [1, 5] (fun l i wr => ∃ k : Nat, k ≤ ps.length ∧ ∃ m : Int, 0 ≤ m ∧ m ≤ left - ps.length ∧ Below w.heap.size w wr ∧ l = .int .i64 m ∧ i = .int .i64 k) (fun _ i _ => ps.length - (intOf i).toNat)
    case atStart => exact ⟨0, Nat.zero_le _, left - ps.length, by omega, by omega, Below.refl _ _, rfl, rfl⟩
    case round =>
      obtain ⟨k, hk, m, hm0, hm1, hbw, rfl, rfl⟩ := hrel
      by_cases hlt : k < ps.length
      · obtain ⟨g, off, rfl, hg, hp⟩ := (HP.out.below hbw) (by omega)
        obtain ⟨c1, c2⟩ := hp k hlt
        have hsz := (HF.out.at_ hlt).1
        have hz := hbw.size
        clear hp
        go_wp2_with (go_at_call 41; refine (szPhase1 _ _ _ hsz hm0 (by omega) _).mono ?_; rintro e w2 ⟨r, rfl, hr, hb2⟩; have hB2 := below_next (w0 := w) hb2 hbw; clear hb2)
        · go_ret
          exact ⟨-1, rfl, by omega, hB2⟩
        · go_roundw
          case rel => exact ⟨k + 1, by omega, r, by omega, by omega, hB2, rfl, by go_num⟩
          case measure => simp [intOf]; omega
      · go_wp2
        go_ret
        exact ⟨m, rfl, by omega, hbw⟩
  · go_enter Try.func13, Try.ntmps13
    go_wp2
    go_ret
    exact ⟨_, rfl, by omega, by go_grown⟩
theorem toPh (s : ByteArray) (n : Int) (w : World) :
    Calls Try.prog 43 #[.agg #[.string s, .int .i64 n]] w fun e w' => e = .returned (.agg #[.string s, .int .i64 n]) ∧ Below w.heap.size w w' := by
  go_enter Try.func43, Try.ntmps43
  go_wp2
  go_returns
  exact ⟨rfl, by go_grown⟩
theorem getElem_madeCells (z : Array Value) (n j : Nat) (h : j < n) : (madeCells z n)[j]? = some z[j % z.size]! := by
  unfold madeCells
  rw [Array.getElem?_map, Array.getElem?_range, if_pos h]
  rfl
theorem phAt_made (W : World) (n : Nat) (t : TypeId) : PhAt (W.alloc (.cells (madeCells #[.string ByteArray.empty, .int .i64 0] (n * 2)) t)) W.heap.size 0 (List.replicate n (ByteArray.empty, 0)) := by
  intro k hk
  rw [List.length_replicate] at hk
  rw [cell_of_row _ _ _ _ _ _ (heap_alloc_new W _), cell_of_row _ _ _ _ _ _ (heap_alloc_new W _), getElem_madeCells _ _ _ (by omega), getElem_madeCells _ _ _ (by omega)]
  simp only [List.getElem_replicate]
  rw [show (0 + k * 2) % (#[Value.string ByteArray.empty, Value.int .i64 0]).size = 0 by simp, show (0 + k * 2 + 1) % (#[Value.string ByteArray.empty, Value.int .i64 0]).size = 1 by simp]
  exact ⟨rfl, rfl⟩
theorem PhAt.stored {w : World} {g off k : Nat} {qs : List (ByteArray × Int)} (h : PhAt w g off qs) (hk : k < qs.length) (s : ByteArray) (n : Int) :
    PhAt ((w.setCell ⟨g, off + k * 2, none⟩ (.string s)).setCell ⟨g, off + k * 2 + 1, none⟩ (.int .i64 n)) g off (qs.set k (s, n)) := by
  intro j hj
  rw [List.length_set] at hj
  obtain ⟨c1, c2⟩ := h j hj
  by_cases e : j = k
  · subst e
    rw [World.cell?_setCell_other _ _ _ _ (by simp), List.getElem_set_self]
    refine ⟨World.cell?_setCell_same _ _ _ c1, ?_⟩
    refine World.cell?_setCell_same (u := .int .i64 qs[j].2) _ _ _ ?_
    rw [World.cell?_setCell_other _ _ _ _ (by simp)]
    exact c2
  · rw [List.getElem_set_ne (by omega)]
    have ne : ∀ a b : Nat, a ≠ b → (⟨g, a, none⟩ : Addr) ≠ ⟨g, b, none⟩ := fun a b h e => h (by injection e)
    rw [World.cell?_setCell_other _ _ _ _ (ne _ _ (by omega)), World.cell?_setCell_other _ _ _ _ (ne _ _ (by omega)), World.cell?_setCell_other _ _ _ _ (ne _ _ (by omega)), World.cell?_setCell_other _ _ _ _ (ne _ _ (by omega))]
    exact ⟨c1, c2⟩
def phMix (ps : List (ByteArray × Int)) (k : Nat) : List (ByteArray × Int) := ps.take k ++ List.replicate (ps.length - k) (ByteArray.empty, 0)
theorem phMix_len (ps : List (ByteArray × Int)) (k : Nat) (h : k ≤ ps.length) : (phMix ps k).length = ps.length := by simp [phMix]; omega
theorem phMix_zero (ps : List (ByteArray × Int)) : phMix ps 0 = List.replicate ps.length (ByteArray.empty, 0) := by simp [phMix]
theorem phMix_done (ps : List (ByteArray × Int)) : phMix ps ps.length = ps := by simp [phMix]
theorem phMix_succ (ps : List (ByteArray × Int)) (k : Nat) (h : k < ps.length) : (phMix ps k).set k (ps[k].1, ps[k].2) = phMix ps (k + 1) := by
  unfold phMix
  rw [List.set_append_right _ _ (by simp; omega), List.take_succ_eq_append_getElem h, List.append_assoc]
  congr 1
  rw [List.length_take, show k - min k ps.length = 0 by omega, show ps.length - k = (ps.length - (k + 1)) + 1 by omega, List.replicate_succ]
  rfl
theorem phase_info : (Try.prog.info? 49).map (fun i => (i.zero, i.size, i.bytes)) = some (some (.agg #[.string ByteArray.empty, .int .i64 0]), 2, 24) := by kernel_rfl
theorem toPhases (A : Option Addr) (n c : Nat) (ps : List (ByteArray × Int)) (hn : ps.length = n) (hm : n ≤ 1048576) (w : World) (hp : PhRd w w.heap.size A ps) :
    Calls Try.prog 15 #[.slice A n c] w fun e w' => ∃ g, e = .returned (.slice (some ⟨g, 0, none⟩) n n) ∧ w.heap.size ≤ g ∧ g < w'.heap.size ∧ PhAt w' g 0 ps ∧ (∀ o, w'.frozen? ⟨g, o, none⟩ = false) ∧ Below w.heap.size w w' := by
  subst hn
  have HP := hide hp
  clear hp
  obtain ⟨i0, hi0, hz0, hz1, hz2⟩ := info_parts phase_info
  have hmk := fun W : World => run_make_rowN (P := Try.prog) 25 49 i0 _ Try.underlying25 hi0 hz0 .i64 .i64 ps.length ps.length (Nat.le_refl _) (by rw [hz2]; omega) (by omega) W
  rw [hz1] at hmk
  clear hi0 hz0 hz1 hz2
  go_enter Try.func15, Try.ntmps15
  go_wp2
  have h0 := phAt_made w ps.length 49
  rw [← phMix_zero] at h0
  have hz0 : w.heap.size < (w.alloc (.cells (madeCells #[.string ByteArray.empty, .int .i64 0] (ps.length * 2)) 49)).heap.size := by simp
  have hf0 : ∀ o, (w.alloc (.cells (madeCells #[.string ByteArray.empty, .int .i64 0] (ps.length * 2)) 49)).frozen? ⟨w.heap.size, o, none⟩ = false := fun o => by go_simp
  go_loopw [4] (fun i wr => ∃ k : Nat, k ≤ ps.length ∧ Hid (PhAt wr w.heap.size 0 (phMix ps k)) ∧ Hid (∀ o, wr.frozen? ⟨w.heap.size, o, none⟩ = false) ∧ w.heap.size < wr.heap.size ∧ Below w.heap.size w wr ∧ i = .int .i64 k) (fun i _ => ps.length - (intOf i).toNat)
  case atStart => exact ⟨0, Nat.zero_le _, hide h0, hide hf0, hz0, by go_grown, rfl⟩
  case round =>
    clear h0 hz0 hf0 hmk
    obtain ⟨k, hk, hq, hfr, hsz, hbw, rfl⟩ := hrel
    by_cases hlt : k < ps.length
    · obtain ⟨g, off, rfl, hg, hp⟩ := (HP.out.below hbw) (by omega)
      obtain ⟨c1, c2⟩ := hp k hlt
      clear hp
      go_wp2_with (go_at_call 43; refine (toPh _ _ _).mono ?_; rintro e w2 ⟨rfl, hb2⟩; have hB2 := below_next (w0 := w) hb2 hbw; have hq2 := hq.out.below hb2 hsz; have hf2 : ∀ o, w2.frozen? ⟨w.heap.size, o, none⟩ = false := (fun o => (hb2.frozen (p := ⟨w.heap.size, o, none⟩) hsz).trans (hfr.out o)); have hs2 := hb2.size; obtain ⟨d1, d2⟩ := hq2 k (by rw [phMix_len _ _ hk]; exact hlt); have Q := hide hq2; have F := hide hf2; have f1 := hf2 (k * 2); have f2 := hf2 (k * 2 + 1); rw [Nat.zero_add] at d1 d2; clear hq2 hf2 hb2)
      have R : PhAt ((w2.setCell ⟨w.heap.size, k * 2, none⟩ (.string ps[k].1)).setCell ⟨w.heap.size, k * 2 + 1, none⟩ (.int .i64 ps[k].2)) w.heap.size 0 (phMix ps (k + 1)) := by
        have := Q.out.stored (k := k) (by rw [phMix_len _ _ hk]; exact hlt) ps[k].1 ps[k].2
        rwa [phMix_succ _ _ hlt, Nat.zero_add] at this
      go_roundw
      case rel => exact ⟨k + 1, by omega, hide R, hide fun o => by rw [World.frozen?_setCell, World.frozen?_setCell]; exact F.out o, by simp; omega, (hB2.setCell (Nat.le_refl _) _).setCell (Nat.le_refl _) _, by go_num⟩
      case measure => simp [intOf]; omega
    · obtain rfl : k = ps.length := by omega
      go_wp2
      go_ret
      exact ⟨w.heap.size, rfl, Nat.le_refl _, hsz, by have := hq.out; rwa [phMix_done] at this, hfr.out, hbw⟩
theorem take_eq_succ {α : Type} {ps qs : List α} {k : Nat} (h : ps.take k = qs.take k) (h1 : k < ps.length) (h2 : k < qs.length) (e : ps[k] = qs[k]) : ps.take (k + 1) = qs.take (k + 1) := by
  rw [List.take_succ_eq_append_getElem h1, List.take_succ_eq_append_getElem h2, h, e]
theorem ne_of_at {α : Type} {ps qs : List α} {k : Nat} (h1 : k < ps.length) (h2 : k < qs.length) (e : ps[k] ≠ qs[k]) : ps ≠ qs := by rintro rfl; exact e rfl
theorem ne_of_len {α : Type} {ps qs : List α} (e : ps.length ≠ qs.length) : ps ≠ qs := by rintro rfl; exact e rfl
theorem eq_of_take {α : Type} {ps qs : List α} (h : ps.take ps.length = qs.take ps.length) (e : ps.length = qs.length) : ps = qs := by
  rw [List.take_length, e, List.take_length] at h; exact h
theorem toList_ne {s t : ByteArray} (h : s ≠ t) : s.toList ≠ t.toList := by
  intro e
  apply h
  rw [Lib.toList_data, Lib.toList_data] at e
  cases s; cases t
  simp only at e
  congr 1
  exact Array.toList_inj.1 e
theorem eqPhase1 (p q : ByteArray × Int) (w : World) :
    Calls Try.prog 45 #[.agg #[.string p.1, .int .i64 p.2], .agg #[.string q.1, .int .i64 q.2]] w fun e w' => e = .returned (.bool (decide (p = q))) ∧ Below w.heap.size w w' := by
  by_cases h1 : p.1 = q.1
  · have g1 : (!p.1.toList == q.1.toList) = false := by rw [h1]; simp
    by_cases h2 : p.2 = q.2
    · have g2 : (p.2 != q.2) = false := by rw [h2]; simp
      have H := hide (decide_eq_true (Prod.ext h1 h2))
      clear h1 h2
      go_enter Try.func45, Try.ntmps45
      go_wp2
      go_ret
      exact ⟨ret_bool H.out.symm, by go_grown⟩
    · have g2 : (p.2 != q.2) = true := by simpa using h2
      have H : Hid (decide (p = q) = false) := hide (decide_eq_false fun e => h2 (by rw [e]))
      clear h1 h2
      go_enter Try.func45, Try.ntmps45
      go_wp2
      go_ret
      exact ⟨ret_bool H.out.symm, by go_grown⟩
  · have g1 : (!p.1.toList == q.1.toList) = true := by simpa using toList_ne h1
    have H : Hid (decide (p = q) = false) := hide (decide_eq_false fun e => h1 (by rw [e]))
    clear h1
    go_enter Try.func45, Try.ntmps45
    go_wp2
    go_ret
    exact ⟨ret_bool H.out.symm, by go_grown⟩
theorem neqPh (p q : ByteArray × Int) (W : World) : (binOp .neq 49 (.agg #[.string p.1, .int .i64 p.2]) (.agg #[.string q.1, .int .i64 q.2])).run Try.prog W = .ok (.bool (!decide (p = q))) W := by
  have u9 := Try.underlying9
  have hS : Try.prog.underlying 49 = some (.struct (Try.prog.fieldsOf 49)) := by kernel_rfl
  have hp : Try.prog.stoodInHeld 49 = false := by kernel_rfl
  rw [run_neq_struct, show (10000 : Nat) = 9999 + 1 from rfl, run_equalIn_agg W 9999 49 _ _ hS hp]
  simp only [Program.fieldsOf, Try.underlying49]
  go_simp
  by_cases h1 : p.1 = q.1
  · rw [if_pos (by rw [h1])]
    by_cases h2 : p.2 = q.2
    · rw [if_pos h2, decide_eq_true (Prod.ext h1 h2)]; rfl
    · rw [if_neg h2, decide_eq_false (fun e => h2 (by rw [e]))]; rfl
  · rw [if_neg (toList_ne h1), decide_eq_false (fun e => h1 (by rw [e]))]; rfl
theorem neqPh_t {p q : ByteArray × Int} (h : p = q) (W : World) : (binOp .neq 49 (.agg #[.string p.1, .int .i64 p.2]) (.agg #[.string q.1, .int .i64 q.2])).run Try.prog W = .ok (.bool false) W := by rw [neqPh, decide_eq_true h]; rfl
theorem neqPh_f {p q : ByteArray × Int} (h : p ≠ q) (W : World) : (binOp .neq 49 (.agg #[.string p.1, .int .i64 p.2]) (.agg #[.string q.1, .int .i64 q.2])).run Try.prog W = .ok (.bool true) W := by rw [neqPh, decide_eq_false h]; rfl
theorem grd_ph (op : BinOp) (x y : Operand) (xs ys : Array Value) (W : World) : (eqGuard op 49 x y (.agg xs) (.agg ys)).run Try.prog W = .ok () W := run_eqGuard_agg W op _ x y xs ys (by kernel_rfl)
theorem l06SameS (g h n m c d : Nat) (ps qs : List (ByteArray × Int)) (hn : ps.length = n) (hm : qs.length = m) (hb : n ≤ 1048576) (hb' : m ≤ 1048576) (w : World) (hp : PhAt w g 0 ps) (hq : PhAt w h 0 qs) :
    Calls Try.prog 42 #[.slice (some ⟨g, 0, none⟩) n c, .slice (some ⟨h, 0, none⟩) m d] w fun e w' => e = .returned (.bool (decide (ps = qs))) ∧ ∃ k, w' = w.drewN k := by
  subst hn hm
  have HP := hide hp
  have HQ := hide hq
  clear hp hq
  by_cases he : ps.length = qs.length
  · have HE := hide he
    have h1 : ps.length ≤ qs.length := by omega
    have h2 : qs.length ≤ ps.length := by omega
    have h3 : ((ps.length : Int) != (qs.length : Int)) = false := by simp; omega
    clear he
    go_enter Try.func42, Try.ntmps42
    go_wp2
    go_loopw [5] (fun i wr => ∃ k : Nat, k ≤ ps.length ∧ Hid (ps.take k = qs.take k) ∧ i = .int .i64 k ∧ ∃ j, wr = w.drewN j) (fun i _ => ps.length - (intOf i).toNat)
    case atStart => exact ⟨0, Nat.zero_le _, hide rfl, rfl, 0, rfl⟩
    case round =>
      obtain ⟨k, hk, hi, rfl, j, rfl⟩ := hrel
      by_cases hlt : k < ps.length
      · obtain ⟨c1, c2⟩ := HP.out k hlt
        obtain ⟨d1, d2⟩ := HQ.out k (by omega)
        rw [Nat.zero_add] at c1 c2 d1 d2
        have hlt2 : k < qs.length := by omega
        have hg := grd_ph
        by_cases he : ps[k] = qs[k]
        · have hne := neqPh_t he
          have H := hide he
          clear he
          go_wp2_with fail
          go_quiet (fail)
          go_wp2
          go_roundw
          case rel => exact ⟨k + 1, by omega, hide (take_eq_succ hi.out hlt hlt2 H.out), by go_num, _, rfl⟩
          case measure => simp [intOf]; omega
        · have hne := neqPh_f he
          have H := hide (decide_eq_false (ne_of_at hlt hlt2 he))
          clear he
          go_wp2_with fail
          go_quiet (fail)
          go_wp2
          go_ret
          exact ⟨ret_bool H.out.symm, _, by first | rfl | exact World.drewN_drewN _ _ _⟩
      · obtain rfl : k = ps.length := by omega
        have H := hide (decide_eq_true (eq_of_take hi.out HE.out))
        go_wp2
        go_ret
        exact ⟨ret_bool H.out.symm, _, rfl⟩
  · have H := hide (decide_eq_false (ne_of_len he))
    go_enter Try.func42, Try.ntmps42
    go_wp2
    go_ret
    exact ⟨ret_bool H.out.symm, 0, rfl⟩
theorem sameI (g h n m c d : Nat) (ps qs : List (ByteArray × Int)) (hn : ps.length = n) (hm : qs.length = m) (hb : n ≤ 1048576) (hb' : m ≤ 1048576) (w : World) (hp : PhAt w g 0 ps) (hq : PhAt w h 0 qs) :
    Calls Try.prog 44 #[.slice (some ⟨g, 0, none⟩) n c, .slice (some ⟨h, 0, none⟩) m d] w fun e w' => e = .returned (.bool (decide (ps = qs))) ∧ ∃ k, w' = w.drewN k := by
  subst hn hm
  have HP := hide hp
  have HQ := hide hq
  clear hp hq
  by_cases he : ps.length = qs.length
  · have HE := hide he
    have h1 : ps.length ≤ qs.length := by omega
    have h2 : qs.length ≤ ps.length := by omega
    have h3 : ((ps.length : Int) != (qs.length : Int)) = false := by simp; omega
    clear he
    go_enter Try.func44, Try.ntmps44
    go_wp2
    go_loopw [5, 13] (fun _ i wr => ∃ k : Nat, k ≤ ps.length ∧ Hid (ps.take k = qs.take k) ∧ i = .int .i64 k ∧ ∃ j, wr = w.drewN j) (fun _ i _ => ps.length - (intOf i).toNat)
    case atStart => exact ⟨0, Nat.zero_le _, hide rfl, rfl, 0, rfl⟩
    case round =>
      obtain ⟨k, hk, hi, rfl, j, rfl⟩ := hrel
      by_cases hlt : k < ps.length
      · obtain ⟨c1, c2⟩ := HP.out k hlt
        obtain ⟨d1, d2⟩ := HQ.out k (by omega)
        rw [Nat.zero_add] at c1 c2 d1 d2
        have hlt2 : k < qs.length := by omega
        have hg := grd_ph
        by_cases he : ps[k] = qs[k]
        · have hne := neqPh_t he
          have H := hide he
          clear he
          go_wp2_with fail
          go_quiet (fail)
          go_wp2
          go_roundw
          case rel => exact ⟨k + 1, by omega, hide (take_eq_succ hi.out hlt hlt2 H.out), by go_num, _, rfl⟩
          case measure => simp [intOf]; omega
        · have hne := neqPh_f he
          have H := hide (decide_eq_false (ne_of_at hlt hlt2 he))
          clear he
          go_wp2_with fail
          go_quiet (fail)
          go_wp2
          go_ret
          exact ⟨ret_bool H.out.symm, _, by first | rfl | exact World.drewN_drewN _ _ _⟩
      · obtain rfl : k = ps.length := by omega
        have H := hide (decide_eq_true (eq_of_take hi.out HE.out))
        go_wp2
        go_ret
        exact ⟨ret_bool H.out.symm, _, rfl⟩
  · have H := hide (decide_eq_false (ne_of_len he))
    go_enter Try.func44, Try.ntmps44
    go_wp2
    go_ret
    exact ⟨ret_bool H.out.symm, 0, rfl⟩
theorem eqPhases (g h n m c d : Nat) (ps qs : List (ByteArray × Int)) (hn : ps.length = n) (hm : qs.length = m) (hb : n ≤ 1048576) (hb' : m ≤ 1048576) (w : World) (hp : PhAt w g 0 ps) (hq : PhAt w h 0 qs) (hg : g < w.heap.size) (hh : h < w.heap.size) :
    Calls Try.prog 17 #[.slice (some ⟨g, 0, none⟩) n c, .slice (some ⟨h, 0, none⟩) m d] w fun e w' => e = .returned (.bool (decide (ps = qs))) ∧ Below w.heap.size w w' := by
  subst hn hm
  have HP := hide hp
  have HQ := hide hq
  clear hp hq
  by_cases he : ps.length = qs.length
  · have HE := hide he
    have h1 : ps.length ≤ qs.length := by omega
    have h2 : qs.length ≤ ps.length := by omega
    have h3 : ((ps.length : Int) != (qs.length : Int)) = false := by simp; omega
    clear he
    go_enter Try.func17, Try.ntmps17
    go_wp2
    go_loopw [5] (fun i wr => ∃ k : Nat, k ≤ ps.length ∧ Hid (ps.take k = qs.take k) ∧ i = .int .i64 k ∧ Below w.heap.size w wr) (fun i _ => ps.length - (intOf i).toNat)
    case atStart => exact ⟨0, Nat.zero_le _, hide rfl, rfl, Below.refl _ _⟩
    case round =>
      obtain ⟨k, hk, hi, rfl, hbw⟩ := hrel
      by_cases hlt : k < ps.length
      · obtain ⟨c1, c2⟩ := (HP.out.below hbw hg) k hlt
        obtain ⟨d1, d2⟩ := (HQ.out.below hbw hh) k (by omega)
        rw [Nat.zero_add] at c1 c2 d1 d2
        have hlt2 : k < qs.length := by omega
        by_cases he : ps[k] = qs[k]
        · have H := hide he
          have D := hide (decide_eq_true he)
          clear he
          go_wp2_with fail
          go_still_tail 8, (by kernel_rfl)
          go_wp2_with (go_at_call 45; refine (eqPhase1 _ _ _).mono ?_; rw [D.out]; rintro e w2 ⟨rfl, hb2⟩; have hB2 := below_next (w0 := w) hb2 hbw.drew; clear hb2)
          go_roundw
          case rel => exact ⟨k + 1, by omega, hide (take_eq_succ hi.out hlt hlt2 H.out), by go_num, hB2⟩
          case measure => simp [intOf]; omega
        · have H := hide (decide_eq_false (ne_of_at hlt hlt2 he))
          have D := hide (decide_eq_false he)
          clear he
          go_wp2_with fail
          go_still_tail 8, (by kernel_rfl)
          go_wp2_with (go_at_call 45; refine (eqPhase1 _ _ _).mono ?_; rw [D.out]; rintro e w2 ⟨rfl, hb2⟩; have hB2 := below_next (w0 := w) hb2 hbw.drew; clear hb2)
          go_ret
          exact ⟨ret_bool H.out.symm, hB2⟩
      · obtain rfl : k = ps.length := by omega
        have H := hide (decide_eq_true (eq_of_take hi.out HE.out))
        go_wp2
        go_ret
        exact ⟨ret_bool H.out.symm, hbw⟩
  · have H := hide (decide_eq_false (ne_of_len he))
    go_enter Try.func17, Try.ntmps17
    go_wp2
    go_ret
    exact ⟨ret_bool H.out.symm, by go_grown⟩
end Go.Proofs.Ytklmoeolehdjeaa
