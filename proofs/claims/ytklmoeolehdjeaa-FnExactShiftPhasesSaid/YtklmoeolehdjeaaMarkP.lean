--%!
/- The laws' marks on phases, and their comparison where a list may be empty. Own work. -/
import Derived.Test.YtklmoeolehdjeaaJoinM
import Derived.Test.YtklmoeolehdjeaaWMark
namespace Go.Proofs.Ytklmoeolehdjeaa
open Go.ChangeShapes Go.WideShapes Go.ChangeAt Go.RowKit
set_option linter.unusedVariables false
set_option maxRecDepth 100000
set_option maxHeartbeats 1000000

/-- the marks of phases: m1 and 2, m3 and 4, .. -/
def pmark (i : Nat) : ByteArray × Int := (mkT (1 + 2 * i), 1 + 2 * (i : Int) + 1)
def pmarks (n : Nat) : List (ByteArray × Int) := (List.range n).map pmark
theorem pmarks_len (n : Nat) : (pmarks n).length = n := by simp [pmarks]
theorem pmarks_at (n k : Nat) (h : k < (pmarks n).length) : (pmarks n)[k] = pmark k := by simp [pmarks]
def pmMix (l : List (ByteArray × Int)) (k : Nat) : List (ByteArray × Int) := (pmarks l.length).take k ++ l.drop k
theorem pmMix_len (l : List (ByteArray × Int)) (k : Nat) (h : k ≤ l.length) : (pmMix l k).length = l.length := by simp [pmMix, pmarks_len]; omega
theorem pmMix_zero (l : List (ByteArray × Int)) : pmMix l 0 = l := by simp [pmMix]
theorem pmMix_done (l : List (ByteArray × Int)) : pmMix l l.length = pmarks l.length := by
  unfold pmMix
  rw [List.drop_length, List.append_nil, List.take_of_length_le (by rw [pmarks_len]; exact Nat.le_refl _)]
theorem pmMix_succ (l : List (ByteArray × Int)) (k : Nat) (h : k < l.length) : (pmMix l k).set k (mkT (1 + 2 * k), 1 + 2 * (k : Int) + 1) = pmMix l (k + 1) := by
  unfold pmMix
  have h1 : k < (pmarks l.length).length := by rw [pmarks_len]; exact h
  rw [List.set_append_right _ _ (by simp [pmarks_len]; omega), List.take_succ_eq_append_getElem h1, pmarks_at, List.append_assoc]
  congr 1
  rw [List.length_take, pmarks_len, show k - min k l.length = 0 by omega, List.drop_eq_getElem_cons h]
  rfl
theorem cast2 (k : Nat) : ((1 + 2 * k : Nat) : Int) = 1 + 2 * (k : Int) := by omega
/-- nothing but one block may have been written -/
def KeptBut (g : Nat) (w w' : World) : Prop := w.heap.size ≤ w'.heap.size ∧ ∀ k, k < w.heap.size → k ≠ g → w'.heap[k]? = w.heap[k]?
theorem KeptBut.refl (g : Nat) (w : World) : KeptBut g w w := ⟨Nat.le_refl _, fun _ _ _ => rfl⟩
theorem KeptBut.trans {g : Nat} {a b c : World} (h : KeptBut g a b) (k : KeptBut g b c) : KeptBut g a c := ⟨Nat.le_trans h.1 k.1, fun i hi ne => (k.2 i (Nat.lt_of_lt_of_le hi h.1) ne).trans (h.2 i hi ne)⟩
theorem KeptBut.of {g : Nat} {a b : World} (h : Below a.heap.size a b) : KeptBut g a b := ⟨h.size, fun i hi _ => h.block i hi⟩
theorem KeptBut.setCell {g : Nat} {a b : World} (h : KeptBut g a b) (j : Nat) (u : Value) : KeptBut g a (b.setCell ⟨g, j, none⟩ u) := h.trans ⟨by simp, fun i hi ne => Below.heap_setCell _ _ _ _ ne⟩
theorem LsPh.kept {g : Nat} {w w' : World} {B : Nat} {A : Option Addr} {l : List (ByteArray × Int)} (h : LsPh w B A l) (k : KeptBut g w w') (hg : g < B) : LsPh w' B A l := fun h0 => by
  obtain ⟨b, e, h1, h2, h3, h4⟩ := h h0
  have hk := k.2 b h2 (by omega)
  exact ⟨b, e, h1, Nat.lt_of_lt_of_le h2 k.1, fun i hi => ⟨(World.cell?_of_block hk).trans (h3 i hi).1, (World.cell?_of_block hk).trans (h3 i hi).2⟩, fun o => (World.frozen?_of_block hk).trans (h4 o)⟩
theorem held2M {w W w1 : World} {g0 o0 g1 o1 : Nat} {v0 v1 : Value} (h : Below w.heap.size w W ∧ W.cell? ⟨g0, o0, none⟩ = some v0 ∧ W.cell? ⟨g1, o1, none⟩ = some v1) (hb : Below W.heap.size W w1) :
    Below w.heap.size w w1 ∧ w1.cell? ⟨g0, o0, none⟩ = some v0 ∧ w1.cell? ⟨g1, o1, none⟩ = some v1 := ⟨below_next hb h.1, keep_cellM h.2.1 hb, keep_cellM h.2.2 hb⟩
theorem held2MD {w W : World} {g0 o0 g1 o1 : Nat} {v0 v1 : Value} (h : Below w.heap.size w W ∧ W.cell? ⟨g0, o0, none⟩ = some v0 ∧ W.cell? ⟨g1, o1, none⟩ = some v1) :
    Below w.heap.size w W.drew ∧ W.drew.cell? ⟨g0, o0, none⟩ = some v0 ∧ W.drew.cell? ⟨g1, o1, none⟩ = some v1 := ⟨h.1.drew, h.2⟩
theorem frozen_below {w w' : World} {g : Nat} (h : ∀ o, w.frozen? ⟨g, o, none⟩ = false) (hg : g < w.heap.size) (hb : Below w.heap.size w w') : ∀ o, w'.frozen? ⟨g, o, none⟩ = false := fun o => (hb.frozen (p := ⟨g, o, none⟩) hg).trans (h o)
theorem markPhX (g c : Nat) (l : List (ByteArray × Int)) (hb : l.length ≤ 1048576) (w : World) {B : Nat} (hB : B ≤ w.heap.size) (hp : LsPh w B (some ⟨g, 0, none⟩) l) :
    Calls Try.prog 39 #[.slice (some ⟨g, 0, none⟩) l.length c, .int .i64 1] w fun e w' => e = .returned (.int .i64 (1 + 2 * (l.length : Int))) ∧ LsPh w' B (some ⟨g, 0, none⟩) (pmarks l.length) ∧ Below B w w' ∧ KeptBut g w w' := by
  by_cases h0 : l.length = 0
  · have e0 : l.length ≤ 0 := by omega
    clear h0
    go_enter Try.func39, Try.ntmps39
    go_wp2
    refine wp_loop_rounds 2 ?_
    rw [rounds_succ]
    go_wp2
    go_ret
    exact ⟨ret_int (by omega), by rw [show l.length = 0 by omega]; exact LsPh.nil _ _ _, Below.refl _ _, KeptBut.refl _ _⟩
  · obtain ⟨g', e, hg1, hg2, hc, hf⟩ := hp (by omega)
    obtain rfl : g = g' := by injection e with e; injection e
    have HC := hide hc
    have HF := hide hf
    clear hc hf hp
    go_enter Try.func39, Try.ntmps39
    go_wp2
    go_loopw [1, 5] (fun m i wr => ∃ k : Nat, k ≤ l.length ∧ Hid (PhAt wr g 0 (pmMix l k)) ∧ Hid (∀ o, wr.frozen? ⟨g, o, none⟩ = false) ∧ g < wr.heap.size ∧ Below B w wr ∧ Hid (KeptBut g w wr) ∧ m = .int .i64 (1 + 2 * k : Int) ∧ i = .int .i64 k) (fun _ i _ => l.length - (intOf i).toNat)
    case atStart => exact ⟨0, Nat.zero_le _, hide (by rw [pmMix_zero]; exact HC.out), HF, hg2, Below.refl _ _, hide (KeptBut.refl _ _), rfl, rfl⟩
    case round =>
      obtain ⟨k, hk, hq, hfr, hsz, hbw, hkb, rfl, rfl⟩ := hrel
      have hz := hbw.size
      by_cases hlt : k < l.length
      · have CM := markTextS (1 + 2 * k) (by omega) (by omega)
        rw [cast2] at CM
        have HS := pmMix_succ l k hlt
        obtain ⟨x, hx⟩ : ∃ x, mkT (1 + 2 * k) = x := ⟨_, rfl⟩
        rw [hx] at CM HS
        have HCM := hide CM
        have HSH := hide HS
        clear CM HS hx
        go_wp2_with fail
        refine (HCM.out wr).mono ?_
        rintro e w2 ⟨rfl, hb2⟩
        have hq2 := hq.out.below hb2 hsz
        have hf2 := frozen_below hfr.out hsz hb2
        have hB2 := hbw.trans (hb2.mono (Nat.le_trans hB hz))
        have hs2 := hb2.size
        have HK := hide ((hkb.out.trans (KeptBut.of (g := g) hb2)))
        obtain ⟨d1, d2⟩ := hq2 k (by rw [pmMix_len _ _ hk]; exact hlt)
        have f1 := hf2 (k * 2)
        have f2 := hf2 (k * 2 + 1)
        have R := hq2.stored (k := k) (by rw [pmMix_len _ _ hk]; exact hlt) x (1 + 2 * (k : Int) + 1)
        rw [HSH.out] at R
        rw [Nat.zero_add] at R d1 d2
        have HR := hide R
        have HF2 := hide hf2
        clear R hq2 hf2 hb2 HCM HSH hq hfr hbw
        go_wp2
        go_roundw
        case rel => exact ⟨k + 1, by omega, HR, hide fun o => by rw [World.frozen?_setCell, World.frozen?_setCell]; exact HF2.out o, by simp; omega, (hB2.setCell hg1 _).setCell hg1 _, hide ((HK.out.setCell _ _).setCell _ _), by go_num, by go_num⟩
        case measure => simp [intOf]; omega
      · obtain rfl : k = l.length := by omega
        go_wp2
        go_ret
        exact ⟨rfl, fun _ => ⟨g, rfl, hg1, hsz, by have := hq.out; rwa [pmMix_done] at this, hfr.out⟩, hbw, hkb.out⟩
theorem markPh (A : Option Addr) (c : Nat) (l : List (ByteArray × Int)) (hb : l.length ≤ 1048576) (w : World) {B : Nat} (hB : B ≤ w.heap.size) (hp : LsPh w B A l) :
    Calls Try.prog 39 #[.slice A l.length c, .int .i64 1] w fun e w' => e = .returned (.int .i64 (1 + 2 * (l.length : Int))) ∧ LsPh w' B A (pmarks l.length) ∧ Below B w w' := by
  by_cases h0 : l.length = 0
  · have e0 : l.length ≤ 0 := by omega
    clear h0
    go_enter Try.func39, Try.ntmps39
    go_wp2
    refine wp_loop_rounds 2 ?_
    rw [rounds_succ]
    go_wp2
    go_ret
    exact ⟨ret_int (by omega), by rw [show l.length = 0 by omega]; exact LsPh.nil _ _ _, Below.refl _ _⟩
  · obtain ⟨g, rfl, _⟩ := id (hp (by omega))
    exact (markPhX g c l hb w hB hp).mono fun e w' ⟨h1, h2, h3, _⟩ => ⟨h1, h2, h3⟩
theorem heldPh (A : Option Addr) (n c : Nat) (hb : n ≤ 1048576) (w : World) {B : Nat} (hp : LsPh w B A (pmarks n)) :
    Calls Try.prog 40 #[.slice A n c, .int .i64 1] w fun e w' => e = .returned (.int .i64 (1 + 2 * (n : Int))) ∧ Below w.heap.size w w' := by
  have HP := hide hp
  clear hp
  go_enter Try.func40, Try.ntmps40
  go_wp2
  go_loopw [1, 5] (fun m i wr => ∃ k : Nat, k ≤ n ∧ m = .int .i64 (1 + 2 * k : Int) ∧ i = .int .i64 k ∧ Below w.heap.size w wr) (fun _ i _ => n - (intOf i).toNat)
  case atStart => exact ⟨0, Nat.zero_le _, rfl, rfl, Below.refl _ _⟩
  case round =>
    obtain ⟨k, hk, rfl, rfl, hbw⟩ := hrel
    by_cases hlt : k < n
    · obtain ⟨g, rfl, -, hg, hc, -⟩ := (HP.out.below hbw) (by rw [pmarks_len]; omega)
      have cc := hc k (by rw [pmarks_len]; exact hlt)
      rw [pmarks_at] at cc
      have CM := markTextS (1 + 2 * k) (by omega) (by omega)
      rw [cast2] at CM
      unfold pmark at cc
      obtain ⟨x, hx⟩ : ∃ x, mkT (1 + 2 * k) = x := ⟨_, rfl⟩
      rw [hx] at CM cc
      obtain ⟨c1, c2⟩ := cc
      rw [Nat.zero_add] at c1 c2
      have HCM := hide CM
      have e2 : (x.toList != x.toList) = false := by simp
      clear hc CM hx
      go_wp2_with fail
      go_region_held3 (fun w' => Below wr.heap.size wr w' ∧ w'.cell? ⟨g, k * 2, none⟩ = some (.string x) ∧ w'.cell? ⟨g, k * 2 + 1, none⟩ = some (.int .i64 (1 + 2 * (k : Int) + 1))) (first | exact ⟨(Below.refl _ _).drew, c1, c2⟩ | exact held2MD (by assumption) | exact held2M (by assumption) (by assumption) | go_keep) ((go_at_call 72; refine (HCM.out _).mono ?_; rintro e w2 ⟨rfl, hb2⟩))
      all_goals
        have hB2 := below_next (w0 := w) (And.left (by assumption : Below wr.heap.size wr _ ∧ _)) hbw
        have c3 := And.right (And.right (by assumption : Below wr.heap.size wr w2 ∧ _))
        clear c1 c2
        go_wp2
        go_roundw
        case rel => exact ⟨k + 1, by omega, by go_num, by go_num, hB2⟩
        case measure => simp [intOf]; omega
    · obtain rfl : k = n := by omega
      go_wp2
      go_ret
      exact ⟨rfl, hbw⟩
theorem eqPhG (A1 A2 : Option Addr) (c d : Nat) (l : List (ByteArray × Int)) (hb : l.length ≤ 1048576) (w : World) {B1 B2 : Nat} (hp : LsPh w B1 A1 l) (hq : LsPh w B2 A2 l) :
    Calls Try.prog 17 #[.slice A1 l.length c, .slice A2 l.length d] w fun e w' => e = .returned (.bool true) ∧ Below w.heap.size w w' := by
  by_cases h0 : 0 < l.length
  · obtain ⟨g, rfl, -, hg, hp', -⟩ := hp h0
    obtain ⟨h, rfl, -, hh, hq', -⟩ := hq h0
    refine (eqPhases g h l.length l.length c d l l rfl rfl hb hb w hp' hq' hg hh).mono ?_
    rintro e w' ⟨rfl, hb⟩
    exact ⟨by rw [decide_eq_true rfl], hb⟩
  · have e0 : l.length = 0 := by omega
    rw [e0]
    go_enter Try.func17, Try.ntmps17
    go_wp2
    refine wp_loop_rounds 2 ?_
    rw [rounds_succ]
    go_wp2
    go_ret
    exact ⟨rfl, by go_grown⟩
end Go.Proofs.Ytklmoeolehdjeaa
