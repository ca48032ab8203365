--%!
/- Lists of points: what an argument of that type gives; the laws' size, copy and comparison of them. Own work. -/
import Derived.Test.YtnmihmjgmanllaaPts
import Derived.Deep.SlicePairs
import Derived.StillTailTactics
namespace Go.Proofs.Ytnmihmjgmanllaa
open Go.ChangeShapes Go.WideShapes Go.ChangeAt Go.RowKit Go.Deep
set_option linter.unusedVariables false
set_option maxRecDepth 100000
set_option maxHeartbeats 1000000

theorem add_at (g off n : Nat) : (⟨g, off, none⟩ : Addr).add n = ⟨g, off + n, none⟩ := by
  unfold Addr.add
  split
  · rename_i h; subst h; rfl
  · rfl
theorem spot_none {w : World} {a : Addr} {v : Value} (h : w.cell? a = some v) : ∃ g off, a = ⟨g, off, none⟩ := by
  obtain ⟨g, off, sp⟩ := a
  cases sp with
  | none => exact ⟨g, off, rfl⟩
  | some x =>
    exfalso
    unfold World.cell? at h
    split at h
    · simp at h
    · cases h
/-- a slice value reads as points; nil and empty ones too -/
def PtRd (w : World) (B : Nat) (A : Option Addr) (ps : List (Int × Int)) : Prop :=
  0 < ps.length → ∃ g off, A = some ⟨g, off, none⟩ ∧ g < B ∧ PtsAt w g off ps
theorem PtRd.below {w w' : World} {B : Nat} {A : Option Addr} {ps : List (Int × Int)} (h : PtRd w B A ps) (hb : Below B w w') : PtRd w' B A ps := fun h0 => by
  obtain ⟨g, off, e, hg, hp⟩ := h h0
  exact ⟨g, off, e, hg, hp.below hb hg⟩
theorem PtRd.more {w : World} {B B' : Nat} {A : Option Addr} {ps : List (Int × Int)} (h : PtRd w B A ps) (hB : B ≤ B') : PtRd w B' A ps := fun h0 => by
  obtain ⟨g, off, e, hg, hp⟩ := h h0
  exact ⟨g, off, e, by omega, hp⟩
/-- all integers are in range -/
def PtFit (ps : List (Int × Int)) : Prop := ∀ p ∈ ps, (-9223372036854775808 ≤ p.1 ∧ p.1 ≤ 9223372036854775807) ∧ -9223372036854775808 ≤ p.2 ∧ p.2 ≤ 9223372036854775807
theorem make_rowP {P : Program} (t e : TypeId) (i : TypeInfo) (z : Value) (ht : P.underlying t = some (.slice e)) (hi : P.info? e = some i) (hz : i.zero = some z)
    (kl kc : IntKind) (n c : Nat) (hnc : n ≤ c) (hbytes : i.bytes * c ≤ 281474976710656) (h63 : c ≤ 9223372036854775807) (w : World) :
    (Instr.makeSlice t (.int kl (n : Int)) (.int kc (c : Int))).run P w = .ok (.slice (some ⟨w.heap.size, 0, none⟩) n c) (w.alloc (.cells (madeCells z.cells (c * i.size)) e)) := by
  have hb : (i.bytes : Int) * (c : Int) ≤ 281474976710656 := by
    have h : ((i.bytes * c : Nat) : Int) ≤ 281474976710656 := by omega
    rwa [Int.natCast_mul] at h
  have hr := run_make (P := P) w t e i z ht hi hz kl kc n c (by omega) (by omega) hb (by omega)
  simp only [Int.toNat_natCast] at hr
  exact hr
theorem madeP_at (z : Array Value) (n j : Nat) (h : j < n) : (madeCells z n)[j]? = some z[j % z.size]! := by
  unfold madeCells
  rw [Array.getElem?_map, Array.getElem?_range, if_pos h]
  rfl
theorem ptsAt_made (W : World) (n : Nat) (t : TypeId) : PtsAt (W.alloc (.cells (madeCells #[.int .i64 0, .int .i64 0] (n * 2)) t)) W.heap.size 0 (List.replicate n (0, 0)) := by
  intro k hk
  rw [List.length_replicate] at hk
  rw [cell_of_row _ _ _ _ _ _ (heap_alloc_new W _), cell_of_row _ _ _ _ _ _ (heap_alloc_new W _), madeP_at _ _ _ (by omega), madeP_at _ _ _ (by omega)]
  simp only [List.getElem_replicate]
  rw [show (0 + k * 2) % (#[Value.int .i64 0, Value.int .i64 0]).size = 0 by simp, show (0 + k * 2 + 1) % (#[Value.int .i64 0, Value.int .i64 0]).size = 1 by simp]
  exact ⟨rfl, rfl⟩
theorem PtsAt.stored {w : World} {g off k : Nat} {qs : List (Int × Int)} (h : PtsAt w g off qs) (hk : k < qs.length) (s n : Int) :
    PtsAt ((w.setCell ⟨g, off + k * 2, none⟩ (.int .i64 s)).setCell ⟨g, off + k * 2 + 1, none⟩ (.int .i64 n)) g off (qs.set k (s, n)) := by
  intro j hj
  rw [List.length_set] at hj
  obtain ⟨c1, c2⟩ := h j hj
  by_cases e : j = k
  · subst e
    rw [World.cell?_setCell_other _ _ _ _ (by simp), List.getElem_set_self]
    refine ⟨World.cell?_setCell_same _ _ _ c1, ?_⟩
    refine World.cell?_setCell_same (u := .int .i64 qs[j].2) _ _ _ ?_
    rw [World.cell?_setCell_other _ _ _ _ (by simp)]
    exact c2
  · rw [List.getElem_set_ne (by omega)]
    have ne : ∀ a b : Nat, a ≠ b → (⟨g, a, none⟩ : Addr) ≠ ⟨g, b, none⟩ := fun a b h e => h (by injection e)
    rw [World.cell?_setCell_other _ _ _ _ (ne _ _ (by omega)), World.cell?_setCell_other _ _ _ _ (ne _ _ (by omega)), World.cell?_setCell_other _ _ _ _ (ne _ _ (by omega)), World.cell?_setCell_other _ _ _ _ (ne _ _ (by omega))]
    exact ⟨c1, c2⟩
def ptMix (ps : List (Int × Int)) (k : Nat) : List (Int × Int) := ps.take k ++ List.replicate (ps.length - k) (0, 0)
theorem ptMix_len (ps : List (Int × Int)) (k : Nat) (h : k ≤ ps.length) : (ptMix ps k).length = ps.length := by simp [ptMix]; omega
theorem ptMix_zero (ps : List (Int × Int)) : ptMix ps 0 = List.replicate ps.length (0, 0) := by simp [ptMix]
theorem ptMix_done (ps : List (Int × Int)) : ptMix ps ps.length = ps := by simp [ptMix]
theorem ptMix_succ (ps : List (Int × Int)) (k : Nat) (h : k < ps.length) : (ptMix ps k).set k (ps[k].1, ps[k].2) = ptMix ps (k + 1) := by
  unfold ptMix
  rw [List.set_append_right _ _ (by simp; omega), List.take_succ_eq_append_getElem h, List.append_assoc]
  congr 1
  rw [List.length_take, show k - min k ps.length = 0 by omega, show ps.length - k = (ps.length - (k + 1)) + 1 by omega, List.replicate_succ]
  rfl
theorem cellsLP : Try.prog.cellsOf 25 = 2 := by kernel_rfl
theorem cellsLI : Try.prog.cellsOf 2 = 1 := by kernel_rfl
theorem open_points {H : Type} {enc : TypeId × Value → H} {W : World} {base b0 : Nat} {r : Reach} {v : Value} {d : DataW H} {p : List MemPlace}
    (hv : Value.okWide Try.prog W r b0 36 v) (h : DataW.Trod enc Try.prog W base (fun _ => true) true 36 v d p) :
    ∃ (A : Option Addr) (n c : Nat) (ps : List (Int × Int)), v = .slice A n c ∧ ps.length = n ∧ n ≤ maxLen ∧ PtFit ps ∧ PtRd W W.heap.size A ps := by
  obtain ⟨A, n, c, rfl⟩ := okWide_slice Try.underlying36 hv
  obtain ⟨fuel, hf⟩ := h
  rcases open_slice_pairs Try.underlying36 Try.underlying25 cellsLP rfl rfl cellsLI cellsLI hf with ⟨hcs, _⟩ | ⟨a, len, cap, m, q, V0, V1, D0, D1, P0, P1, hcs, _, hl, hm, hmm, _, hx⟩
  · simp [Value.cells] at hcs
    obtain ⟨rfl, rfl, rfl⟩ := hcs
    exact ⟨none, 0, 0, [], rfl, rfl, Nat.zero_le _, (fun x hx => by cases hx), fun h => absurd h (by simp)⟩
  · simp [Value.cells] at hcs
    obtain ⟨rfl, rfl, rfl⟩ := hcs
    rw [if_pos rfl] at hmm
    subst hmm
    have each : ∀ i, i < n → ∃ x : Int × Int, W.cell? (a.add (i * 2)) = some (.int .i64 x.1) ∧ W.cell? (a.add (i * 2 + 1)) = some (.int .i64 x.2) ∧ (Lit.int .i64 x.1).wf = true ∧ (Lit.int .i64 x.2).wf = true := by
      intro i hi
      obtain ⟨h0, h1, t0, t1⟩ := hx i (by omega)
      obtain ⟨s, e0, _, ws⟩ := DataW.trod_int Try.underlying2 t0
      obtain ⟨z, e1, _, wz⟩ := DataW.trod_int Try.underlying2 t1
      simp at e0 e1
      rw [e0] at h0
      rw [e1] at h1
      exact ⟨(s, z), h0, h1, ws, wz⟩
    obtain ⟨f, hfn⟩ := choose_lt each
    refine ⟨_, _, _, (List.range n).map f, rfl, by simp, by omega, ?_, ?_⟩
    · intro x hx
      obtain ⟨i, hi, rfl⟩ := List.mem_map.1 hx
      obtain ⟨_, _, h1, h2⟩ := hfn i (List.mem_range.1 hi)
      exact ⟨bounds_i64 h1, bounds_i64 h2⟩
    · intro h0
      rw [List.length_map, List.length_range] at h0
      obtain ⟨c0, _, _, _⟩ := hfn 0 h0
      obtain ⟨g, off, rfl⟩ := spot_none (show W.cell? a = some _ by simpa [Addr.add] using c0)
      refine ⟨g, off, rfl, ?_, ?_⟩
      · have := World.block_lt_of_cell? W _ c0
        rw [add_at] at this
        exact this
      · intro k hk
        rw [List.length_map, List.length_range] at hk
        obtain ⟨h1, h2, _, _⟩ := hfn k hk
        rw [add_at] at h1 h2
        simp only [List.getElem_map, List.getElem_range]
        exact ⟨h1, by rw [Nat.add_assoc]; exact h2⟩
theorem szPoints (A : Option Addr) (n c : Nat) (hm : n ≤ maxLen) (w : World) :
    Calls Try.prog 27 #[.slice A n c, .int .i64 1048576] w fun e w' => e = .returned (.int .i64 (if 1048576 < n then -1 else 1048576 - (n : Int))) ∧ w = w' := by
  unfold maxLen at hm
  by_cases hl : 1048576 < n
  · rw [if_pos hl]
    go_enter Try.func27, Try.ntmps27
    go_wp2
    go_ret
    exact ⟨rfl, rfl⟩
  · rw [if_neg hl]
    go_enter Try.func27, Try.ntmps27
    go_wp2
    go_ret
    exact ⟨rfl, rfl⟩
theorem point_info : (Try.prog.info? 27).map (fun i => (i.zero, i.size, i.bytes)) = some (some (.agg #[.int .i64 0, .int .i64 0]), 2, 16) := by kernel_rfl
theorem toPoints (A : Option Addr) (n c : Nat) (ps : List (Int × Int)) (hn : ps.length = n) (hm : n ≤ 1048576) (w : World) (hp : PtRd w w.heap.size A ps) :
    Calls Try.prog 29 #[.slice A n c] w fun e w' => ∃ g, e = .returned (.slice (some ⟨g, 0, none⟩) n n) ∧ w.heap.size ≤ g ∧ g < w'.heap.size ∧ PtsAt w' g 0 ps ∧ Below w.heap.size w w' := by
  subst hn
  have HP := hide hp
  clear hp
  obtain ⟨i0, hi0, hz0, hz1, hz2⟩ := info_parts point_info
  have hmk := fun W : World => make_rowP (P := Try.prog) 40 27 i0 _ Try.underlying40 hi0 hz0 .i64 .i64 ps.length ps.length (Nat.le_refl _) (by rw [hz2]; omega) (by omega) W
  rw [hz1] at hmk
  clear hi0 hz0 hz1 hz2
  go_enter Try.func29, Try.ntmps29
  go_wp2
  have h0 := ptsAt_made w ps.length 27
  rw [← ptMix_zero] at h0
  have hz0 : w.heap.size < (w.alloc (.cells (madeCells #[.int .i64 0, .int .i64 0] (ps.length * 2)) 27)).heap.size := by simp
  have hf0 : ∀ o, (w.alloc (.cells (madeCells #[.int .i64 0, .int .i64 0] (ps.length * 2)) 27)).frozen? ⟨w.heap.size, o, none⟩ = false := fun o => by go_simp
  go_loopw [4] (fun i wr => ∃ k : Nat, k ≤ ps.length ∧ Hid (PtsAt wr w.heap.size 0 (ptMix ps k)) ∧ Hid (∀ o, wr.frozen? ⟨w.heap.size, o, none⟩ = false) ∧ w.heap.size < wr.heap.size ∧ Below w.heap.size w wr ∧ i = .int .i64 k) (fun i _ => ps.length - (intOf i).toNat)
  case atStart => exact ⟨0, Nat.zero_le _, hide h0, hide hf0, hz0, by go_grown, rfl⟩
  case round =>
    clear h0 hz0 hf0 hmk
    obtain ⟨k, hk, hq, hfr, hsz, hbw, rfl⟩ := hrel
    by_cases hlt : k < ps.length
    · obtain ⟨g, off, rfl, hg, hp⟩ := (HP.out.below hbw) (by omega)
      obtain ⟨c1, c2⟩ := hp k hlt
      clear hp
      go_wp2_with (go_at_call 18; refine (toPt _ _ _).mono ?_; rintro e w2 ⟨rfl, hb2⟩; have hB2 := below_next (w0 := w) hb2 hbw; have hq2 := hq.out.below hb2 hsz; have hf2 : ∀ o, w2.frozen? ⟨w.heap.size, o, none⟩ = false := (fun o => (hb2.frozen (p := ⟨w.heap.size, o, none⟩) hsz).trans (hfr.out o)); have hs2 := hb2.size; obtain ⟨d1, d2⟩ := hq2 k (by rw [ptMix_len _ _ hk]; exact hlt); have f1 := hf2 (k * 2); have f2 := hf2 (k * 2 + 1); rw [Nat.zero_add] at d1 d2; have Q := hide hq2; have F := hide hf2; clear hb2 hq2 hf2)
      have R : PtsAt ((w2.setCell ⟨w.heap.size, k * 2, none⟩ (.int .i64 ps[k].1)).setCell ⟨w.heap.size, k * 2 + 1, none⟩ (.int .i64 ps[k].2)) w.heap.size 0 (ptMix ps (k + 1)) := by
        have := Q.out.stored (k := k) (by rw [ptMix_len _ _ hk]; exact hlt) ps[k].1 ps[k].2
        rwa [ptMix_succ _ _ hlt, Nat.zero_add] at this
      go_roundw
      case rel => exact ⟨k + 1, by omega, hide R, hide fun o => by rw [World.frozen?_setCell, World.frozen?_setCell]; exact F.out o, by simp; omega, (hB2.setCell (Nat.le_refl _) _).setCell (Nat.le_refl _) _, by go_num⟩
      case measure => simp [intOf]; omega
    · obtain rfl : k = ps.length := by omega
      go_wp2
      go_ret
      exact ⟨w.heap.size, rfl, Nat.le_refl _, hsz, by have := hq.out; rwa [ptMix_done] at this, hbw⟩
theorem eqPoint1 (a b : Int) (w : World) :
    Calls Try.prog 24 #[.agg #[.int .i64 a, .int .i64 b], .agg #[.int .i64 a, .int .i64 b]] w fun e w' => e = .returned (.bool true) ∧ Below w.heap.size w w' := by
  go_enter Try.func24, Try.ntmps24
  go_wp2
  go_ret
  exact ⟨rfl, by go_grown⟩
theorem eqPoints (g h n c d : Nat) (ps : List (Int × Int)) (hn : ps.length = n) (hb : n ≤ 1048576) (w : World) (hp : PtsAt w g 0 ps) (hq : PtsAt w h 0 ps) (hg : g < w.heap.size) (hh : h < w.heap.size) :
    Calls Try.prog 31 #[.slice (some ⟨g, 0, none⟩) n c, .slice (some ⟨h, 0, none⟩) n d] w fun e w' => e = .returned (.bool true) ∧ Below w.heap.size w w' := by
  subst hn
  have HP := hide hp
  have HQ := hide hq
  clear hp hq
  go_enter Try.func31, Try.ntmps31
  go_wp2
  go_loopw [5] (fun i wr => ∃ k : Nat, k ≤ ps.length ∧ i = .int .i64 k ∧ Below w.heap.size w wr) (fun i _ => ps.length - (intOf i).toNat)
  case atStart => exact ⟨0, Nat.zero_le _, rfl, Below.refl _ _⟩
  case round =>
    obtain ⟨k, hk, rfl, hbw⟩ := hrel
    by_cases hlt : k < ps.length
    · obtain ⟨c1, c2⟩ := (HP.out.below hbw hg) k hlt
      obtain ⟨d1, d2⟩ := (HQ.out.below hbw hh) k hlt
      rw [Nat.zero_add] at c1 c2 d1 d2
      go_wp2_with fail
      go_still_tail 8, (by kernel_rfl)
      go_wp2_with (go_at_call 24; refine (eqPoint1 _ _ _).mono ?_; rintro e w2 ⟨rfl, hb2⟩; have hB2 := below_next (w0 := w) hb2 hbw.drew; clear hb2)
      go_roundw
      case rel => exact ⟨k + 1, by omega, by go_num, hB2⟩
      case measure => simp [intOf]; omega
    · go_wp2
      go_ret
      exact ⟨rfl, hbw⟩
theorem allS (g off n c : Nat) (ps : List (Int × Int)) (hn : ps.length = n) (hb : n ≤ 1099511627776) (w : World) (hp : PtsAt w g off ps) (hg : g < w.heap.size) :
    Calls Try.prog 55 #[.slice (some ⟨g, off, none⟩) n c] w fun e w' => e = .returned (.bool (allOk ps)) ∧ Below w.heap.size w w' := by
  subst hn
  have HP := hide hp
  clear hp
  go_enter Try.func55, Try.ntmps55
  go_wp2
  go_loopw [3] (fun i wr => ∃ k : Nat, k ≤ ps.length ∧ Hid (okTo ps k) ∧ Below w.heap.size w wr ∧ i = .int .i64 k) (fun i _ => ps.length - (intOf i).toNat)
  case atStart => exact ⟨0, Nat.zero_le _, hide (okTo_zero ps), Below.refl _ _, rfl⟩
  case round =>
    obtain ⟨k, hk, ht, hbw, rfl⟩ := hrel
    by_cases hlt : k < ps.length
    · obtain ⟨c1, c2⟩ := (HP.out.below hbw hg) k hlt
      have hz := hbw.size
      cases hok : okP ps[k].1 ps[k].2
      · have H := hide (allOk_no hlt hok)
        go_wp2_with (go_at_call 42; refine (okS _ _ _).mono ?_; rintro e w2 ⟨rfl, hb2⟩; have hB2 := below_next (w0 := w) hb2 (by go_grown))
        go_ret
        exact ⟨ret_bool H.out.symm, hB2⟩
      · have H := hide (okTo_succ ht.out hlt hok)
        go_wp2_with (go_at_call 42; refine (okS _ _ _).mono ?_; rintro e w2 ⟨rfl, hb2⟩; have hB2 := below_next (w0 := w) hb2 (by go_grown))
        go_roundw
        case rel => exact ⟨k + 1, by omega, H, hB2, by go_num⟩
        case measure => simp [intOf]; omega
    · obtain rfl : k = ps.length := by omega
      go_wp2
      go_ret
      exact ⟨ret_bool (okTo_done ht.out).symm, hbw⟩
end Go.Proofs.Ytnmihmjgmanllaa
