--%!
/- Contracts: the words of a text, reference and program alike; the laws' marks on a list of texts. Own work. -/
import Derived.Test.YtphlbpailmdndaaDoorSpl
import Derived.Test.YtphlbpailmdndaaDoorCut
import Derived.Test.YtphlbpailmdndaaDoorWMark
import Derived.Maps.AppendAt
namespace Go.Proofs.YtphlbpailmdndaaDoor
open Go.ChangeShapes Go.WideShapes Go.ChangeAt Go.RowKit
set_option linter.unusedVariables false
set_option maxRecDepth 100000
set_option maxHeartbeats 1000000

theorem AtA.stored {α : Type} {f : α → Value} {w : World} {g k : Nat} {l : List α} (h : AtA w g l f) (hk : k < l.length) (x : α) : AtA (w.setCell ⟨g, k, none⟩ (f x)) g (l.set k x) f := by
  intro j hj
  rw [List.length_set] at hj
  have c1 := h j hj
  by_cases e : j = k
  · subst e
    rw [List.getElem_set_self]
    exact World.cell?_setCell_same _ _ _ c1
  · rw [List.getElem_set_ne (by omega), World.cell?_setCell_other _ _ _ _ (fun e' => e (by injection e' with _ e'; omega))]
    exact c1
/-- a list of texts of the call's own: it reads, and can be written -/
def LsTx (w : World) (B : Nat) (A : Option Addr) (l : List ByteArray) : Prop := 0 < l.length → ∃ g, A = some ⟨g, 0, none⟩ ∧ B ≤ g ∧ g < w.heap.size ∧ AtA w g l strA ∧ ∀ o, w.frozen? ⟨g, o, none⟩ = false
theorem LsTx.below {w w' : World} {B : Nat} {A : Option Addr} {l : List ByteArray} (h : LsTx w B A l) (hb : Below w.heap.size w w') : LsTx w' B A l := fun h0 => by
  obtain ⟨g, e, h1, hg, hp, hf⟩ := h h0
  exact ⟨g, e, h1, Nat.lt_of_lt_of_le hg hb.size, hp.below hb hg, fun o => (hb.frozen (p := ⟨g, o, none⟩) hg).trans (hf o)⟩
theorem LsTx.under {w w' : World} {B B' : Nat} {A : Option Addr} {l : List ByteArray} (h : LsTx w B A l) (hw : w.heap.size ≤ B') (hb : Below B' w w') : LsTx w' B A l := fun h0 => by
  obtain ⟨g, e, h1, hg, hp, hf⟩ := h h0
  exact ⟨g, e, h1, Nat.lt_of_lt_of_le hg hb.size, hp.below hb (by omega), fun o => (hb.frozen (p := ⟨g, o, none⟩) (by show g < B'; omega)).trans (hf o)⟩
theorem LsTx.less {w : World} {B B' : Nat} {A : Option Addr} {l : List ByteArray} (h : LsTx w B A l) (hB : B' ≤ B) : LsTx w B' A l := fun h0 => by
  obtain ⟨g, e, h1, hg, hp, hf⟩ := h h0
  exact ⟨g, e, by omega, hg, hp, hf⟩
theorem LsTx.nil (w : World) (B : Nat) (A : Option Addr) : LsTx w B A [] := fun h0 => absurd h0 (by simp)
theorem OwnsA.tx {w : World} {B : Nat} {t : TypeId} {v : Value} {l : List ByteArray} (h : OwnsA w B t v strA l) : ∃ A c, v = .slice A l.length c ∧ LsTx w B A l := by
  rcases h.form with ⟨rfl, rfl⟩ | ⟨g, c, rfl, h1, h2, h3, h4, h5⟩
  · exact ⟨none, 0, rfl, LsTx.nil _ _ _⟩
  · exact ⟨some ⟨g, 0, none⟩, c, rfl, fun h0 => ⟨g, rfl, h3, h4, h5, fun o => World.ownsRow.frozenAt h o⟩⟩

def full (p : ByteArray) : Bool := decide (p.size ≠ 0)
noncomputable def wdP (s : ByteArray) : List ByteArray := (splB 32 s).filter full
theorem wd_snoc {ps : List ByteArray} {k : Nat} (hk : k < ps.length) (h : full ps[k] = true) : (ps.take k).filter full ++ [ps[k]] = (ps.take (k + 1)).filter full := by
  rw [List.take_succ_eq_append_getElem hk, List.filter_append, List.filter_cons_of_pos h, List.filter_nil]
theorem wd_skip {ps : List ByteArray} {k : Nat} (hk : k < ps.length) (h : full ps[k] = false) : (ps.take k).filter full = (ps.take (k + 1)).filter full := by
  rw [List.take_succ_eq_append_getElem hk, List.filter_append, List.filter_cons_of_neg (by rw [h]; decide), List.filter_nil, List.append_nil]
theorem wd_len (ps : List ByteArray) (k : Nat) : ((ps.take k).filter full).length ≤ k := Nat.le_trans (List.length_filter_le _ _) (by rw [List.length_take]; omega)
theorem retTx {A : Option Addr} {n c : Nat} {n' : Nat} (h : n = n') : Ending.returned (.slice A n c) = .returned (.slice A n' c) := by rw [h]
theorem full_t {p : ByteArray} (h : full p = true) : p.size ≠ 0 := of_decide_eq_true h
theorem full_f {p : ByteArray} (h : full p = false) : p = ByteArray.empty := eq_empty (by have := of_decide_eq_false h; omega)
theorem toList_nil : ByteArray.empty.toList = [] := by rw [Lib.toList_data]; rfl
theorem wordsS (s : ByteArray) (hs : s.size ≤ 2097152) (w : World) :
    Calls Tryd.prog 41 #[.string s] w fun e w' => ∃ A c, e = .returned (.slice A (wdP s).length c) ∧ LsTx w' w.heap.size A (wdP s) ∧ Below w.heap.size w w' := by
  obtain ⟨i0, hi, hz0, hz1, hz2⟩ := info_parts str_info
  have HL0 : Hid (wdP s = (splB 32 s).filter full) := hide rfl
  have hlen := splB_len 32 s
  obtain ⟨ps, hps⟩ : ∃ ps, splB 32 s = ps := ⟨_, rfl⟩
  have C := splitS 32 s hs w
  rw [hps] at HL0 hlen C
  have HC := hide C
  clear hps C
  go_enter Tryd.func41, Tryd.ntmps41
  go_wp2_with fail
  refine HC.out.mono ?_
  rintro e w1 ⟨g, cp, rfl, hg1, hg2, hg3, hg4, ha, hb1⟩
  have HA := hide ha
  clear ha HC
  go_wp2_with fail
  go_loopw [4, 5] (fun v i wr => ∃ k : Nat, k ≤ ps.length ∧ Hid (OwnsA wr w1.heap.size 9 v strA ((ps.take k).filter full)) ∧ Below w1.heap.size w1 wr ∧ i = .int .i64 k) (fun _ i _ => ps.length - (intOf i).toNat)
  case atStart => exact ⟨0, Nat.zero_le _, hide (OwnsA.empty (Nat.le_refl _)), by go_grown, rfl⟩
  case round =>
    obtain ⟨k, hk, hown, hbw, rfl⟩ := hrel
    have hz := hbw.size
    by_cases hlt : k < ps.length
    · have c1 : wr.cell? ⟨g, k, none⟩ = some (.string ps[k]) := HA.out.below hbw hg2 k hlt
      cases hf : full ps[k]
      · have e0 := full_f hf
        rw [e0] at c1
        have e1 := toList_nil
        rw [wd_skip hlt hf] at hown
        clear hf e0
        go_wp2_with fail
        go_roundw
        case rel => exact ⟨k + 1, by omega, hown, hbw, by go_num⟩
        case measure => simp [intOf]; omega
      · have e0 := full_t hf
        have e1 := isEmpty_no e0
        have HT := hide (wd_snoc hlt hf)
        have hol := wd_len ps k
        obtain ⟨out, ho⟩ : ∃ out, (ps.take k).filter full = out := ⟨_, rfl⟩
        rw [ho] at hown hol HT
        obtain ⟨p, hp⟩ : ∃ p, ps[k] = p := ⟨_, rfl⟩
        rw [hp] at c1 e0 e1 HT
        clear hf hp ho
        go_wp2_with (at_builtin; refine wpList_append_own _ rfl _ _ 44 rfl w1.heap.size 9 i0 (.string ByteArray.empty) 1 16 Tryd.underlying44 hi hz0 hz1 hz2 rfl (by decide) _ _ _ rfl (World.ownsRow.alloc hown.out _) ⟨wr.heap.size, 0, none⟩ 1 1 [.string p] rfl rfl new_cell (by intro u hu; rw [List.mem_singleton.1 hu]; rfl) (by unfold maxLen; omega) (by omega) (by simp; omega) ?_)
        intro v' wo hown' hgrow _
        have R := push_A (b := p) hown.out (by simpa [strA] using hown') hgrow hbw hz
        rw [HT.out] at R
        have O := hide R.1
        have hbo := R.2
        clear hown' hgrow R hown hbw hz
        go_wp2_with fail
        go_roundw
        case rel => exact ⟨k + 1, by omega, O, hbo, by go_num⟩
        case measure => simp [intOf]; omega
    · obtain rfl : k = ps.length := by omega
      rw [List.take_length] at hown
      obtain ⟨A, c, rfl, hls⟩ := hown.out.tx
      have HLS := hide hls
      clear hown hls
      go_wp2_with fail
      go_returns
      exact ⟨A, c, retTx (by rw [HL0.out]), by rw [HL0.out]; exact HLS.out.less hb1.size, below_next hbw hb1⟩
end Go.Proofs.YtphlbpailmdndaaDoor
