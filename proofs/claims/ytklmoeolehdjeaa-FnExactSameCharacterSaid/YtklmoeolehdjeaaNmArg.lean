--%!
/- Lists of numbers: what an argument of that type gives; the laws' copies of it and their comparison. Own work. -/
import Derived.Test.YtklmoeolehdjeaaNum
import Derived.Test.YtklmoeolehdjeaaOwnV
import Derived.ChangeSlices
namespace Go.Proofs.Ytklmoeolehdjeaa
open Go.ChangeShapes Go.WideShapes Go.ChangeAt Go.RowKit
set_option linter.unusedVariables false
set_option maxRecDepth 100000
set_option maxHeartbeats 1000000

/-- numbers lie in a block from a place on -/
def NmAt (w : World) (g off : Nat) (l : List Int) : Prop := ∀ (k : Nat) (hk : k < l.length), w.cell? ⟨g, off + k, none⟩ = some (.int .i64 l[k])
theorem NmAt.below {w w' : World} {g off B : Nat} {l : List Int} (h : NmAt w g off l) (hb : Below B w w') (hg : g < B) : NmAt w' g off l := fun k hk => (hb.cell (p := ⟨g, off + k, none⟩) hg).trans (h k hk)
/-- a slice value reads as numbers; nil and empty ones too -/
def NmRd (w : World) (B : Nat) (A : Option Addr) (l : List Int) : Prop := 0 < l.length → ∃ g off, A = some ⟨g, off, none⟩ ∧ g < B ∧ NmAt w g off l
theorem NmRd.below {w w' : World} {B : Nat} {A : Option Addr} {l : List Int} (h : NmRd w B A l) (hb : Below B w w') : NmRd w' B A l := fun h0 => by
  obtain ⟨g, off, e, hg, hp⟩ := h h0
  exact ⟨g, off, e, hg, hp.below hb hg⟩
theorem NmRd.more {w : World} {B B' : Nat} {A : Option Addr} {l : List Int} (h : NmRd w B A l) (hB : B ≤ B') : NmRd w B' A l := fun h0 => by
  obtain ⟨g, off, e, hg, hp⟩ := h h0
  exact ⟨g, off, e, by omega, hp⟩
theorem nmRd_of {w : World} {B g : Nat} {l : List Int} (h : NmAt w g 0 l) (hg : g < B) : NmRd w B (some ⟨g, 0, none⟩) l := fun _ => ⟨g, 0, rfl, hg, h⟩
def NmFit (l : List Int) : Prop := ∀ x ∈ l, -9223372036854775808 ≤ x ∧ x ≤ 9223372036854775807
theorem NmFit.at_ {l : List Int} (h : NmFit l) {k : Nat} (hk : k < l.length) : -9223372036854775808 ≤ l[k] ∧ l[k] ≤ 9223372036854775807 := h _ (List.getElem_mem hk)
theorem add_off (g off n : Nat) : (⟨g, off, none⟩ : Addr).add n = ⟨g, off + n, none⟩ := by
  unfold Addr.add
  split
  · rename_i h; subst h; rfl
  · rfl
theorem no_spot {w : World} {a : Addr} {v : Value} (h : w.cell? a = some v) : ∃ g off, a = ⟨g, off, none⟩ := by
  obtain ⟨g, off, sp⟩ := a
  cases sp with
  | none => exact ⟨g, off, rfl⟩
  | some x =>
    exfalso
    unfold World.cell? at h
    split at h
    · simp at h
    · cases h
theorem make_rowN {P : Program} (t e : TypeId) (i : TypeInfo) (z : Value) (ht : P.underlying t = some (.slice e)) (hi : P.info? e = some i) (hz : i.zero = some z)
    (kl kc : IntKind) (n c : Nat) (hnc : n ≤ c) (hbytes : i.bytes * c ≤ 281474976710656) (h63 : c ≤ 9223372036854775807) (w : World) :
    (Instr.makeSlice t (.int kl (n : Int)) (.int kc (c : Int))).run P w = .ok (.slice (some ⟨w.heap.size, 0, none⟩) n c) (w.alloc (.cells (madeCells z.cells (c * i.size)) e)) := by
  have hb : (i.bytes : Int) * (c : Int) ≤ 281474976710656 := by
    have h : ((i.bytes * c : Nat) : Int) ≤ 281474976710656 := by omega
    rwa [Int.natCast_mul] at h
  have hr := run_make (P := P) w t e i z ht hi hz kl kc n c (by omega) (by omega) hb (by omega)
  simp only [Int.toNat_natCast] at hr
  exact hr
theorem made_at (z : Array Value) (n j : Nat) (h : j < n) : (madeCells z n)[j]? = some z[j % z.size]! := by
  unfold madeCells
  rw [Array.getElem?_map, Array.getElem?_range, if_pos h]
  rfl
theorem nmAt_made (W : World) (n : Nat) (t : TypeId) : NmAt (W.alloc (.cells (madeCells #[.int .i64 0] n) t)) W.heap.size 0 (List.replicate n 0) := by
  intro k hk
  rw [List.length_replicate] at hk
  rw [cell_of_row _ _ _ _ _ _ (heap_alloc_new W _), made_at _ _ _ (by omega)]
  simp only [List.getElem_replicate]
  rw [show (0 + k) % (#[Value.int .i64 0]).size = 0 by simp [Nat.mod_one]]
  rfl
theorem NmAt.stored {w : World} {g off k : Nat} {l : List Int} (h : NmAt w g off l) (hk : k < l.length) (n : Int) : NmAt (w.setCell ⟨g, off + k, none⟩ (.int .i64 n)) g off (l.set k n) := by
  intro j hj
  rw [List.length_set] at hj
  have c1 := h j hj
  by_cases e : j = k
  · subst e
    rw [List.getElem_set_self]
    exact World.cell?_setCell_same _ _ _ c1
  · rw [List.getElem_set_ne (by omega), World.cell?_setCell_other _ _ _ _ (fun e' => e (by injection e' with _ e'; omega))]
    exact c1
def nmMix (l : List Int) (k : Nat) : List Int := l.take k ++ List.replicate (l.length - k) 0
theorem nmMix_len (l : List Int) (k : Nat) (h : k ≤ l.length) : (nmMix l k).length = l.length := by simp [nmMix]; omega
theorem nmMix_zero (l : List Int) : nmMix l 0 = List.replicate l.length 0 := by simp [nmMix]
theorem nmMix_done (l : List Int) : nmMix l l.length = l := by simp [nmMix]
theorem nmMix_succ (l : List Int) (k : Nat) (h : k < l.length) : (nmMix l k).set k l[k] = nmMix l (k + 1) := by
  unfold nmMix
  rw [List.set_append_right _ _ (by simp; omega), List.take_succ_eq_append_getElem h, List.append_assoc]
  congr 1
  rw [List.length_take, show k - min k l.length = 0 by omega, show l.length - k = (l.length - (k + 1)) + 1 by omega, List.replicate_succ]
  rfl
theorem cellsI64 : Try.prog.cellsOf 2 = 1 := by kernel_rfl
theorem open_nums {H : Type} {enc : TypeId × Value → H} {W : World} {base b0 : Nat} {r : Reach} {v : Value} {d : DataW H} {p : List MemPlace}
    (hv : Value.okWide Try.prog W r b0 28 v) (h : DataW.Trod enc Try.prog W base (fun _ => true) true 28 v d p) :
    ∃ (A : Option Addr) (n c : Nat) (l : List Int), v = .slice A n c ∧ l.length = n ∧ n ≤ maxLen ∧ NmFit l ∧ NmRd W W.heap.size A l := by
  obtain ⟨A, n, c, rfl⟩ := okWide_slice Try.underlying28 hv
  obtain ⟨fuel, hf⟩ := h
  rcases open_ints Try.underlying28 Try.underlying2 cellsI64 hf with ⟨hcs, _⟩ | ⟨a, len, cap, zs, hcs, _, hl, hm, hz, _, hx, hwf⟩
  · simp [Value.cells] at hcs
    obtain ⟨rfl, rfl, rfl⟩ := hcs
    exact ⟨none, 0, 0, [], rfl, rfl, Nat.zero_le _, (fun x hx => by cases hx), fun h => absurd h (by simp)⟩
  · simp [Value.cells] at hcs
    obtain ⟨rfl, rfl, rfl⟩ := hcs
    simp only [if_true] at hz
    have hlen : (zs.take n).length = n := by rw [List.length_take]; omega
    refine ⟨_, _, _, zs.take n, rfl, hlen, by omega, fun x hx => bounds_i64 (hwf x (List.mem_of_mem_take hx)), fun h0 => ?_⟩
    have c0 := hx 0 (by omega)
    obtain ⟨g, off, rfl⟩ := no_spot (show W.cell? a = some _ by simpa [Addr.add] using c0)
    refine ⟨g, off, rfl, ?_, fun k hk => ?_⟩
    · have := World.block_lt_of_cell? W _ c0
      rw [add_off] at this
      exact this
    · have hk' : k < zs.length := by omega
      have := hx k hk'
      rw [add_off, List.getD_eq_getElem?_getD, List.getElem?_eq_getElem hk', Option.getD_some] at this
      rw [List.getElem_take]
      exact this
theorem i64_info : (Try.prog.info? 2).map (fun i => (i.zero, i.size, i.bytes)) = some (some (.int .i64 0), 1, 8) := by kernel_rfl
theorem toNums (A : Option Addr) (n c : Nat) (l : List Int) (hn : l.length = n) (hm : n ≤ 1048576) (w : World) (hp : NmRd w w.heap.size A l) :
    Calls Try.prog 48 #[.slice A n c] w fun e w' => ∃ g, e = .returned (.slice (some ⟨g, 0, none⟩) n n) ∧ w.heap.size ≤ g ∧ g < w'.heap.size ∧ NmAt w' g 0 l ∧ Below w.heap.size w w' := by
  subst hn
  have HP := hide hp
  clear hp
  obtain ⟨i0, hi0, hz0, hz1, hz2⟩ := info_parts i64_info
  have hmk := fun W : World => make_rowN (P := Try.prog) 28 2 i0 _ Try.underlying28 hi0 hz0 .i64 .i64 l.length l.length (Nat.le_refl _) (by rw [hz2]; omega) (by omega) W
  rw [hz1] at hmk
  simp only [Nat.mul_one] at hmk
  clear hi0 hz0 hz1 hz2
  go_enter Try.func48, Try.ntmps48
  go_wp2
  have h0 := nmAt_made w l.length 2
  rw [← nmMix_zero] at h0
  have hz0 : w.heap.size < (w.alloc (.cells (madeCells #[.int .i64 0] l.length) 2)).heap.size := by simp
  have hf0 : ∀ o, (w.alloc (.cells (madeCells #[.int .i64 0] l.length) 2)).frozen? ⟨w.heap.size, o, none⟩ = false := fun o => by go_simp
  go_loopw [4] (fun i wr => ∃ k : Nat, k ≤ l.length ∧ Hid (NmAt wr w.heap.size 0 (nmMix l k)) ∧ Hid (∀ o, wr.frozen? ⟨w.heap.size, o, none⟩ = false) ∧ w.heap.size < wr.heap.size ∧ Below w.heap.size w wr ∧ i = .int .i64 k) (fun i _ => l.length - (intOf i).toNat)
  case atStart => exact ⟨0, Nat.zero_le _, hide h0, hide hf0, hz0, by go_grown, rfl⟩
  case round =>
    clear h0 hz0 hf0 hmk
    obtain ⟨k, hk, hq, hfr, hsz, hbw, rfl⟩ := hrel
    by_cases hlt : k < l.length
    · obtain ⟨g, off, rfl, hg, hp⟩ := (HP.out.below hbw) (by omega)
      have c1 := hp k hlt
      clear hp
      have d1 := hq.out k (by rw [nmMix_len _ _ hk]; exact hlt)
      have f1 := hfr.out k
      rw [Nat.zero_add] at d1
      have R := hq.out.stored (k := k) (by rw [nmMix_len _ _ hk]; exact hlt) l[k]
      rw [nmMix_succ _ _ hlt, Nat.zero_add] at R
      have HR := hide R
      clear R
      go_wp2
      go_roundw
      case rel => exact ⟨k + 1, by omega, HR, hide fun o => by rw [World.frozen?_setCell]; exact hfr.out o, by simp; omega, hbw.setCell (Nat.le_refl _) _, by go_num⟩
      case measure => simp [intOf]; omega
    · obtain rfl : k = l.length := by omega
      go_wp2
      go_ret
      exact ⟨w.heap.size, rfl, Nat.le_refl _, hsz, by have := hq.out; rwa [nmMix_done] at this, hbw⟩
theorem eqNums (g h n c d : Nat) (l : List Int) (hn : l.length = n) (hb : n ≤ 1048576) (w : World) (hp : NmAt w g 0 l) (hq : NmAt w h 0 l) :
    Calls Try.prog 50 #[.slice (some ⟨g, 0, none⟩) n c, .slice (some ⟨h, 0, none⟩) n d] w fun e w' => e = .returned (.bool true) ∧ ∃ k, w' = w.drewN k := by
  subst hn
  have HP := hide hp
  have HQ := hide hq
  clear hp hq
  go_enter Try.func50, Try.ntmps50
  go_wp2
  go_loopw [5] (fun i wr => ∃ k : Nat, k ≤ l.length ∧ i = .int .i64 k ∧ ∃ j, wr = w.drewN j) (fun i _ => l.length - (intOf i).toNat)
  case atStart => exact ⟨0, Nat.zero_le _, rfl, 0, rfl⟩
  case round =>
    obtain ⟨k, hk, rfl, j, rfl⟩ := hrel
    by_cases hlt : k < l.length
    · have c1 := HP.out k hlt
      have d1 := HQ.out k hlt
      rw [Nat.zero_add] at c1 d1
      have e1 : (l[k] != l[k]) = false := by simp
      go_wp2_with fail
      go_quiet (fail)
      go_wp2
      go_roundw
      case rel => exact ⟨k + 1, by omega, by go_num, _, rfl⟩
      case measure => simp [intOf]; omega
    · go_wp2
      go_ret
      exact ⟨rfl, j, rfl⟩
end Go.Proofs.Ytklmoeolehdjeaa
