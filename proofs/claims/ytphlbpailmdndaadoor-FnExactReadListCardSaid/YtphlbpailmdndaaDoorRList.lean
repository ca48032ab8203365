--%!
/- Contracts: a list of numbers read out of a text, reference and program alike. Own work. -/
import Derived.Test.YtphlbpailmdndaaDoorLText
import Derived.Test.YtphlbpailmdndaaDoorRDate
import Derived.Test.YtphlbpailmdndaaDoorReadLaw
namespace Go.Proofs.YtphlbpailmdndaaDoor
open Go.ChangeShapes Go.WideShapes Go.ChangeAt Go.RowKit
set_option linter.unusedVariables false
set_option maxRecDepth 100000
set_option maxHeartbeats 1000000

/-- a list of numbers of the call's own: it reads, and can be written -/
def LsRd (w : World) (B : Nat) (A : Option Addr) (l : List Int) : Prop := 0 < l.length → ∃ g, A = some ⟨g, 0, none⟩ ∧ B ≤ g ∧ g < w.heap.size ∧ NmAt w g 0 l ∧ ∀ o, w.frozen? ⟨g, o, none⟩ = false
theorem LsRd.nm {w : World} {B : Nat} {A : Option Addr} {l : List Int} (h : LsRd w B A l) : NmRd w w.heap.size A l := fun h0 => by
  obtain ⟨g, e, _, hg, hp, _⟩ := h h0
  exact ⟨g, 0, e, hg, hp⟩
theorem LsRd.below {w w' : World} {B : Nat} {A : Option Addr} {l : List Int} (h : LsRd w B A l) (hb : Below w.heap.size w w') : LsRd w' B A l := fun h0 => by
  obtain ⟨g, e, h1, hg, hp, hf⟩ := h h0
  exact ⟨g, e, h1, Nat.lt_of_lt_of_le hg hb.size, hp.below hb hg, fun o => (hb.frozen (p := ⟨g, o, none⟩) hg).trans (hf o)⟩
theorem LsRd.less {w : World} {B B' : Nat} {A : Option Addr} {l : List Int} (h : LsRd w B A l) (hB : B' ≤ B) : LsRd w B' A l := fun h0 => by
  obtain ⟨g, e, h1, hg, hp, hf⟩ := h h0
  exact ⟨g, e, by omega, hg, hp, hf⟩
theorem LsRd.nil (w : World) (B : Nat) (A : Option Addr) : LsRd w B A [] := fun h0 => absurd h0 (by simp)
theorem OwnsA.ls {w : World} {B : Nat} {t : TypeId} {v : Value} {l : List Int} (h : OwnsA w B t v intA l) : ∃ A c, v = .slice A l.length c ∧ LsRd w B A l := by
  rcases h.form with ⟨rfl, rfl⟩ | ⟨g, c, rfl, h1, h2, h3, h4, h5⟩
  · exact ⟨none, 0, rfl, LsRd.nil _ _ _⟩
  · refine ⟨some ⟨g, 0, none⟩, c, rfl, fun h0 => ⟨g, rfl, h3, h4, fun k hk => ?_, fun o => World.ownsRow.frozenAt h o⟩⟩
    rw [Nat.zero_add]; exact h5 k hk
def numVB (p : ByteArray) : Int := numV p.data.toList
def pOk (p : ByteArray) : Bool := numB p.data.toList && inL (numVB p)
theorem pOk_iff {p : ByteArray} : pOk p = true ↔ numB p.data.toList = true ∧ inL (numVB p) = true := by unfold pOk; rw [Bool.and_eq_true]
def rlB (xs : List ByteArray) : Bool := decide (xs.length ≤ 64) && xs.all pOk
def rlL (xs : List ByteArray) : List Int := if rlB xs = true then xs.map numVB else []
theorem rlL_t {xs : List ByteArray} (h : rlB xs = true) : rlL xs = xs.map numVB := if_pos h
theorem rlL_f {xs : List ByteArray} (h : rlB xs = false) : rlL xs = [] := if_neg (by rw [h]; decide)
theorem rlB_long {xs : List ByteArray} (h : 64 < xs.length) : rlB xs = false := by unfold rlB; rw [decide_eq_false (by omega)]; rfl
theorem rlB_bad {xs : List ByteArray} {k : Nat} (hk : k < xs.length) (h : pOk xs[k] = false) : rlB xs = false := by
  unfold rlB
  have : xs.all pOk = false := by
    cases e : xs.all pOk with
    | false => rfl
    | true => rw [List.all_eq_true.1 e _ (List.getElem_mem hk)] at h; cases h
  rw [this, Bool.and_false]
def okTo (xs : List ByteArray) (k : Nat) : Prop := ∀ (t : Nat) (h : t < xs.length), t < k → pOk xs[t] = true
theorem okTo_all {xs : List ByteArray} (h : okTo xs xs.length) (hl : xs.length ≤ 64) : rlB xs = true := by
  unfold rlB
  rw [decide_eq_true hl, Bool.true_and]
  refine List.all_eq_true.2 fun x hx => ?_
  obtain ⟨i, hi, rfl⟩ := List.getElem_of_mem hx
  exact h i hi hi
theorem okTo_next {xs : List ByteArray} {k : Nat} (h : okTo xs k) (hk : k < xs.length) (e : pOk xs[k] = true) : okTo xs (k + 1) := fun t ht hlt => by
  by_cases q : t = k
  · subst q; exact e
  · exact h t ht (by omega)
noncomputable def rlP (s : ByteArray) : List Int := if s = ⟨#[45]⟩ then [] else rlL (splB 44 s)
noncomputable def rlK (s : ByteArray) : Bool := if s = ⟨#[45]⟩ then true else rlB (splB 44 s)
theorem rlL_len (xs : List ByteArray) : (rlL xs).length ≤ 64 := by
  cases h : rlB xs
  · rw [rlL_f h]; simp
  · rw [rlL_t h, List.length_map]
    unfold rlB at h
    rw [Bool.and_eq_true, decide_eq_true_iff] at h
    exact h.1
theorem rlP_len (s : ByteArray) : (rlP s).length ≤ 64 := by
  unfold rlP
  split
  · simp
  · exact rlL_len _
theorem retLs {A : Option Addr} {n c : Nat} {n' : Nat} {b b' : Bool} (h : n = n') (k : b = b') : Ending.returned (.tuple #[.slice A n c, .bool b]) = .returned (.tuple #[.slice A n' c, .bool b']) := by rw [h, k]
theorem numV_rng (p : ByteArray) : -9223372036854775808 ≤ numVB p ∧ numVB p ≤ 9223372036854775807 := by
  unfold numVB numV
  split
  · rename_i h
    unfold numB at h
    rw [Bool.and_eq_true, decide_eq_true_iff] at h
    have h4 := dv_lt h.2 (show 0 < 10 ^ 0 by decide)
    have h5 : 10 ^ (0 + (bodyOf p.data.toList).length) ≤ 10 ^ 18 := Nat.pow_le_pow_right (by decide) (by have := h.1.2.1; omega)
    have h6 := Nat.lt_of_lt_of_le h4 h5
    have h7 : (10 : Nat) ^ 18 = 1000000000000000000 := by decide
    rw [h7] at h6
    split <;> omega
  · omega
theorem rdListS (s : ByteArray) (hs : s.size ≤ 2097152) (w : World) :
    Calls Tryd.prog 37 #[.string s] w fun e w' => ∃ A c, e = .returned (.tuple #[.slice A (rlP s).length c, .bool (rlK s)]) ∧ LsRd w' w.heap.size A (rlP s) ∧ Below w.heap.size w w' := by
  obtain ⟨i0, hi, hz0, hz1, hz2⟩ := info_parts i64_info
  by_cases hd : s = ⟨#[45]⟩
  · have HL : Hid (rlP s = []) := hide (if_pos hd)
    have HK : Hid (rlK s = true) := hide (if_pos hd)
    have g1 : (s.toList == [45]) = true := by rw [hd, Lib.toList_data]; rfl
    have HD := hide hd
    clear hd
    go_enter Tryd.func37, Tryd.ntmps37
    go_wp2
    go_returns
    exact ⟨_, _, retLs (by rw [HL.out]; rfl) HK.out.symm, by rw [HL.out]; exact LsRd.nil _ _ _, by go_grown⟩
  · have HL0 : Hid (rlP s = rlL (splB 44 s)) := hide (if_neg hd)
    have HK0 : Hid (rlK s = rlB (splB 44 s)) := hide (if_neg hd)
    have g1 : (s.toList == [45]) = false := beq_false_of_ne (fun e => hd (by
      rw [Lib.toList_data] at e
      have := congrArg List.toArray e
      cases s
      simpa using this))
    clear hd
    have hlen := splB_len 44 s
    have hsz := splB_size 44 s
    obtain ⟨ps, hps⟩ : ∃ ps, splB 44 s = ps := ⟨_, rfl⟩
    have C := splitS 44 s hs w
    rw [hps] at HL0 HK0 hlen hsz C
    have HC := hide C
    have HS := hide hsz
    clear hps C hsz
    go_enter Tryd.func37, Tryd.ntmps37
    go_wp2_with fail
    refine HC.out.mono ?_
    rintro e w1 ⟨g, cp, rfl, hg1, hg2, hg3, hg4, ha, hb1⟩
    have HA := hide ha
    clear ha HC
    by_cases hl64 : ps.length ≤ 64
    · have d1 : decide ((64 : Int) < (ps.length : Int)) = false := by simp; omega
      go_wp2_with fail
      go_loopw [5, 6] (fun v i wr => ∃ k : Nat, k ≤ ps.length ∧ Hid (okTo ps k) ∧ Hid (OwnsA wr w1.heap.size 2 v intA ((ps.take k).map numVB)) ∧ Below w1.heap.size w1 wr ∧ i = .int .i64 k) (fun _ i _ => ps.length - (intOf i).toNat)
      case atStart => exact ⟨0, Nat.zero_le _, hide (fun t h h0 => absurd h0 (by omega)), hide (OwnsA.empty (Nat.le_refl _)), by go_grown, rfl⟩
      case round =>
        obtain ⟨k, hk, hgd, hown, hbw, rfl⟩ := hrel
        have hz := hbw.size
        by_cases hlt : k < ps.length
        · have c1 : wr.cell? ⟨g, k, none⟩ = some (.string ps[k]) := HA.out.below hbw hg2 k hlt
          have hpz : ps[k].size ≤ 2097152 := Nat.le_trans (HS.out _ (List.getElem_mem hlt)) hs
          have hvr := numV_rng ps[k]
          have HT : Hid ((ps.take k).map numVB ++ [numVB ps[k]] = (ps.take (k + 1)).map numVB) := hide (by rw [List.take_succ_eq_append_getElem hlt, List.map_append]; rfl)
          cases hok : pOk ps[k]
          · have hB := rlB_bad hlt hok
            have HL := hide (HL0.out.trans (rlL_f hB))
            have HK := hide (HK0.out.trans hB)
            have hcase : numB ps[k].data.toList = false ∨ (numB ps[k].data.toList = true ∧ inL (numVB ps[k]) = false) := by
              unfold pOk at hok
              cases h1 : numB ps[k].data.toList
              · exact .inl rfl
              · rw [h1, Bool.true_and] at hok; exact .inr ⟨rfl, hok⟩
            obtain ⟨p, hp⟩ : ∃ p, ps[k] = p := ⟨_, rfl⟩
            rw [hp] at c1 hpz hvr hcase
            clear hB hok HT hp
            have C := l01NumberS p hpz wr
            rw [show numV p.data.toList = numVB p from rfl] at C
            obtain ⟨x, hx⟩ : ∃ x, numVB p = x := ⟨_, rfl⟩
            rw [hx] at C hvr hcase
            rcases hcase with h1 | ⟨h1, h2⟩
            · rw [h1] at C
              have HC := hide C
              clear C h1 hx
              go_wp2_with fail
              refine HC.out.mono ?_
              rintro e w' ⟨rfl, rfl⟩
              go_wp2_with fail
              go_returns
              exact ⟨_, _, retLs (by rw [HL.out]; rfl) HK.out.symm, by rw [HL.out]; exact LsRd.nil _ _ _, below_next hbw hb1⟩
            · rw [h1] at C
              have HC := hide C
              have HI := hide (show inB x (-1000000000000) 1000000000000 = false from h2)
              clear C h1 h2 hx
              go_wp2_with fail
              refine HC.out.mono ?_
              rintro e w' ⟨rfl, rfl⟩
              go_wp2_with fail
              refine (inS _ _ _ _).mono ?_
              rw [HI.out]
              rintro e w' ⟨rfl, rfl⟩
              go_wp2_with fail
              go_returns
              exact ⟨_, _, retLs (by rw [HL.out]; rfl) HK.out.symm, by rw [HL.out]; exact LsRd.nil _ _ _, below_next hbw hb1⟩
          · have HG := hide (okTo_next hgd.out hlt hok)
            obtain ⟨h1, h2⟩ := pOk_iff.1 hok
            have hol : ((ps.take k).map numVB).length = k := by rw [List.length_map, List.length_take]; omega
            obtain ⟨out, ho⟩ : ∃ out, (ps.take k).map numVB = out := ⟨_, rfl⟩
            rw [ho] at hown hol HT
            have hol2 : out.length ≤ 64 := by omega
            obtain ⟨p, hp⟩ : ∃ p, ps[k] = p := ⟨_, rfl⟩
            rw [hp] at c1 hpz hvr h1 h2 HT
            have C := l01NumberS p hpz wr
            rw [show numV p.data.toList = numVB p from rfl] at C
            obtain ⟨x, hx⟩ : ∃ x, numVB p = x := ⟨_, rfl⟩
            rw [hx] at C hvr h2 HT
            rw [h1] at C
            have HC := hide C
            have HI := hide (show inB x (-1000000000000) 1000000000000 = true from h2)
            clear C h1 h2 hx hok hp ho hol
            go_wp2_with fail
            refine HC.out.mono ?_
            rintro e w' ⟨rfl, rfl⟩
            go_wp2_with fail
            refine (inS _ _ _ _).mono ?_
            rw [HI.out]
            rintro e w' ⟨rfl, rfl⟩
            go_wp2_with (at_builtin; refine wpList_append_own _ rfl _ _ 36 rfl w1.heap.size 2 i0 (.int .i64 0) 1 8 Tryd.underlying36 hi hz0 hz1 hz2 rfl (by decide) _ _ _ rfl (World.ownsRow.alloc hown.out _) ⟨wr.heap.size, 0, none⟩ 1 1 [.int .i64 x] rfl rfl new_cell (by intro u hu; rw [List.mem_singleton.1 hu]; rfl) (by unfold maxLen; omega) (by omega) (by simp; omega) ?_)
            intro v' wo hown' hgrow _
            have R := push_A (b := x) hown.out (by simpa [intA] using hown') hgrow hbw hz
            rw [HT.out] at R
            have O := hide R.1
            have hbo := R.2
            clear hown' hgrow R hown hbw hz
            go_wp2_with fail
            go_roundw
            case rel => exact ⟨k + 1, by omega, HG, O, hbo, by go_num⟩
            case measure => simp [intOf]; omega
        · obtain rfl : k = ps.length := by omega
          have hB := okTo_all hgd.out hl64
          have HL := hide (HL0.out.trans (rlL_t hB))
          have HK := hide (HK0.out.trans hB)
          rw [List.take_length] at hown
          obtain ⟨A, c, rfl, hls⟩ := hown.out.ls
          have HLS := hide hls
          clear hown hls hB
          go_wp2_with fail
          go_returns
          exact ⟨A, c, retLs (by rw [HL.out]) HK.out.symm, by rw [HL.out]; exact HLS.out.less hb1.size, below_next hbw hb1⟩
    · have d1 : decide ((64 : Int) < (ps.length : Int)) = true := by simp; omega
      have hB := rlB_long (xs := ps) (by omega)
      have HL := hide (HL0.out.trans (rlL_f hB))
      have HK := hide (HK0.out.trans hB)
      clear hB hl64
      go_wp2_with fail
      go_returns
      exact ⟨_, _, retLs (by rw [HL.out]; rfl) HK.out.symm, by rw [HL.out]; exact LsRd.nil _ _ _, hb1⟩
end Go.Proofs.YtphlbpailmdndaaDoor
