--%!
/- The words of a text: the program's reading, the laws' marks on them, their comparison. Own work. -/
import Derived.Test.YtphlbpailmdndaaDoorWords
namespace Go.Proofs.YtphlbpailmdndaaDoor
open Go.ChangeShapes Go.WideShapes Go.ChangeAt Go.RowKit
set_option linter.unusedVariables false
set_option maxRecDepth 100000
set_option maxHeartbeats 1000000
theorem BlkIs.below {w w' : World} {g : Nat} {t : TypeId} {cs : Array Value} (h : BlkIs w g t cs) (hb : Below w.heap.size w w') : BlkIs w' g t cs := (hb.block g h.lt).trans h
theorem push_blkA {α : Type} {f : α → Value} {l : List α} {W w1 : World} {B : Nat} {t e : TypeId} {v : Value} {o : Obj} {g : Nat} {cs : Array Value} (hown : OwnsA W B t v f l)
    (hgrow : (W.alloc o).grownBy w1 v.ownBlock) (h : BlkIs W g e cs) (ne : t ≠ e) : BlkIs w1 g e cs := (h.alloc o).grown hgrow fun k => h.apart hown ne k.symm
theorem splitK (c : UInt8) (s : ByteArray) (hs : s.size ≤ 2097152) (w : World) (hm : Mx w) :
    Calls Tryd.prog 76 #[.string s, .string ⟨#[c]⟩] w fun e w' => e = .returned (.slice (some ⟨w.heap.size, 0, none⟩) (splB c s).length (splB c s).length) ∧ BlkIs w' w.heap.size 9 ((splB c s).map Value.string).toArray ∧ Below w.heap.size w w' := by
  obtain ⟨h1, h2⟩ := splitB_splB c s
  refine (splitI s ⟨#[c]⟩ hs (Nat.le_refl 1) w hm).mono ?_
  rintro e w' ⟨rfl, rfl⟩
  rw [← h2, h1]
  exact ⟨rfl, heap_alloc_new w _, (Below.refl _ w).alloc (Nat.le_refl _) _⟩
theorem blk_at {w : World} {g : Nat} {t : TypeId} {ps : List ByteArray} (h : BlkIs w g t (ps.map Value.string).toArray) {k : Nat} (hk : k < ps.length) : w.cell? ⟨g, k, none⟩ = some (.string ps[k]) := by
  refine (cell_of_row _ _ _ _ _ _ h).trans ?_
  rw [List.getElem?_toArray, List.getElem?_map, List.getElem?_eq_getElem hk]
  rfl
theorem wordsI (s : ByteArray) (hs : s.size ≤ 2097152) (w : World) (hmx : Mx w) :
    Calls Tryd.prog 42 #[.string s] w fun e w' => ∃ A c, e = .returned (.slice A (wdP s).length c) ∧ LsTx w' w.heap.size A (wdP s) ∧ Below w.heap.size w w' := by
  have HM := hide hmx
  clear hmx
  obtain ⟨i0, hi, hz0, hz1, hz2⟩ := info_parts str_info
  have HL0 : Hid (wdP s = (splB 32 s).filter full) := hide rfl
  have hlen := splB_len 32 s
  obtain ⟨ps, hps⟩ : ∃ ps, splB 32 s = ps := ⟨_, rfl⟩
  have C := splitK 32 s hs
  rw [hps] at HL0 hlen C
  have HC := hide C
  clear hps C
  go_enter Tryd.func42, Tryd.ntmps42
  go_wp2_with fail
  have hB0 : Below w.heap.size w (w.alloc (.cells #[] 9)) := by go_grown
  have HO := hide (OwnsA.empty (w := w) (t := 9) (f := strA) (Nat.le_refl w.heap.size))
  refine (HC.out _ (HM.out.below hB0)).mono ?_
  rintro e w1 ⟨rfl, hblk, hb1⟩
  have HO1 := hide (HO.out.below hb1)
  have hB1 := below_next (w0 := w) hb1 hB0
  have hne : (Value.slice (some ⟨w.heap.size, 0, none⟩) 0 0).ownBlock ≠ some (w.alloc (.cells #[] 9)).heap.size := by simp [Value.ownBlock]
  obtain ⟨g, hg⟩ : ∃ g, (w.alloc (.cells #[] 9)).heap.size = g := ⟨_, rfl⟩
  rw [hg] at hblk hne ⊢
  have HBk := hide hblk
  have HNe := hide hne
  clear HC HO hb1 hB0 hblk hg hne
  go_wp2_with fail
  go_loopw [3, 10] (fun v i wr => ∃ k : Nat, k ≤ ps.length ∧ Hid (OwnsA wr w.heap.size 9 v strA ((ps.take k).filter full)) ∧ Hid (v.ownBlock ≠ some g) ∧ Hid (BlkIs wr g 9 (ps.map Value.string).toArray) ∧ Below w.heap.size w wr ∧ i = .int .i64 k) (fun _ i _ => ps.length - (intOf i).toNat)
  case atStart => exact ⟨0, Nat.zero_le _, HO1, HNe, HBk, hB1, rfl⟩
  case round =>
    clear HO1 HBk hB1 HNe
    obtain ⟨k, hk, hown, hne, hblk, hbw, rfl⟩ := hrel
    have hz := hbw.size
    by_cases hlt : k < ps.length
    · have c1 := blk_at hblk.out hlt
      cases hf : full ps[k]
      · have e0 := full_f hf
        rw [e0] at c1
        have e1 := toList_nil
        rw [wd_skip hlt hf] at hown
        clear hf e0
        go_wp2_with fail
        go_roundw
        case rel => exact ⟨k + 1, by omega, hown, hne, hblk, hbw, by go_num⟩
        case measure => simp [intOf]; omega
      · have e0 := full_t hf
        have e1 := isEmpty_no e0
        have HT := hide (wd_snoc hlt hf)
        have hol := wd_len ps k
        have hgl := hblk.out.lt
        obtain ⟨out, ho⟩ : ∃ out, (ps.take k).filter full = out := ⟨_, rfl⟩
        rw [ho] at hown hol HT
        obtain ⟨p, hp⟩ : ∃ p, ps[k] = p := ⟨_, rfl⟩
        rw [hp] at c1 e0 e1 HT
        clear hf hp ho
        go_wp2_with (at_builtin; refine wpList_append_own_at _ rfl _ _ 44 rfl w.heap.size 9 i0 (.string ByteArray.empty) 1 16 Tryd.underlying44 hi hz0 hz1 hz2 rfl (by decide) _ _ _ rfl (World.ownsRow.alloc hown.out _) ⟨wr.heap.size, 0, none⟩ 1 1 [.string p] rfl rfl new_cell (by intro u hu; rw [List.mem_singleton.1 hu]; rfl) (by unfold maxLen; omega) (by omega) (by simp; omega) ?_)
        intro v' wo hown' hgrow _ hat
        have R := push_A (b := p) hown.out (by simpa [strA] using hown') hgrow hbw hz
        have HBo : Hid (BlkIs wo g 9 (ps.map Value.string).toArray) := hide ((hblk.out.alloc _).grown hgrow fun q => hne.out q.symm)
        have HNo : Hid (v'.ownBlock ≠ some g) := hide fun q => by
          rcases hat with h | h
          · exact hne.out (h.symm.trans q)
          · rw [h] at q
            have := Option.some.inj q
            first | omega | (simp at this; omega)
        rw [HT.out] at R
        have O := hide R.1
        have hbo := R.2
        clear hown' hgrow R hown hbw hz hat hne hblk
        go_wp2_with fail
        go_roundw
        case rel => exact ⟨k + 1, by omega, O, HNo, HBo, hbo, by go_num⟩
        case measure => simp [intOf]; omega
    · obtain rfl : k = ps.length := by omega
      rw [List.take_length] at hown
      obtain ⟨A, c, rfl, hls⟩ := hown.out.tx
      have HLS := hide hls
      clear hown hls
      go_wp2_with fail
      go_returns
      exact ⟨A, c, retTx (by rw [HL0.out]), by rw [HL0.out]; exact HLS.out, hbw⟩
theorem eqTxG (A1 A2 : Option Addr) (c d : Nat) (l : List ByteArray) (hb : l.length ≤ 1048577) (w : World) {B1 B2 : Nat} (hp : LsTx w B1 A1 l) (hq : LsTx w B2 A2 l) :
    Calls Tryd.prog 43 #[.slice A1 l.length c, .slice A2 l.length d] w fun e w' => e = .returned (.bool true) ∧ Below w.heap.size w w' := by
  have HP := hide hp
  have HQ := hide hq
  clear hp hq
  go_enter Tryd.func43, Tryd.ntmps43
  go_wp2
  go_loopw [5] (fun i wr => ∃ k : Nat, k ≤ l.length ∧ i = .int .i64 k ∧ ∃ j, wr = w.drewN j) (fun i _ => l.length - (intOf i).toNat)
  case atStart => exact ⟨0, Nat.zero_le _, rfl, 0, rfl⟩
  case round =>
    obtain ⟨k, hk, rfl, j, rfl⟩ := hrel
    by_cases hlt : k < l.length
    · obtain ⟨g, rfl, -, -, hc, -⟩ := HP.out (by omega)
      obtain ⟨h, rfl, -, -, hd, -⟩ := HQ.out (by omega)
      have c1 := hc k hlt
      have d1 := hd k hlt
      obtain ⟨p, hp⟩ : ∃ p, l[k] = p := ⟨_, rfl⟩
      rw [hp] at c1 d1
      unfold strA at c1 d1
      have e2 : (p.toList != p.toList) = false := by simp
      clear hc hd hp
      go_wp2_with fail
      go_quiet (fail)
      go_wp2
      go_roundw
      case rel => exact ⟨k + 1, by omega, by go_num, _, rfl⟩
      case measure => simp [intOf]; omega
    · go_wp2
      go_ret
      exact ⟨rfl, ⟨rfl, rfl, rfl, Nat.le_refl _, fun _ _ => rfl⟩⟩
/-- the marks: m1, m2, .. -/
def wmarks (n : Nat) : List ByteArray := (List.range n).map fun (i : Nat) => mkT (1 + i)
theorem wmarks_len (n : Nat) : (wmarks n).length = n := by simp [wmarks]
theorem wmarks_at (n k : Nat) (h : k < (wmarks n).length) : (wmarks n)[k] = mkT (1 + k) := by simp [wmarks]
def wmMix (l : List ByteArray) (k : Nat) : List ByteArray := (wmarks l.length).take k ++ l.drop k
theorem wmMix_len (l : List ByteArray) (k : Nat) (h : k ≤ l.length) : (wmMix l k).length = l.length := by simp [wmMix, wmarks_len]; omega
theorem wmMix_zero (l : List ByteArray) : wmMix l 0 = l := by simp [wmMix]
theorem wmMix_done (l : List ByteArray) : wmMix l l.length = wmarks l.length := by
  unfold wmMix
  rw [List.drop_length, List.append_nil, List.take_of_length_le (by rw [wmarks_len]; exact Nat.le_refl _)]
theorem wmMix_succ (l : List ByteArray) (k : Nat) (h : k < l.length) : (wmMix l k).set k (mkT (1 + k)) = wmMix l (k + 1) := by
  unfold wmMix
  have h1 : k < (wmarks l.length).length := by rw [wmarks_len]; exact h
  rw [List.set_append_right _ _ (by simp [wmarks_len]; omega), List.take_succ_eq_append_getElem h1, wmarks_at, List.append_assoc]
  congr 1
  rw [List.length_take, wmarks_len, show k - min k l.length = 0 by omega, List.drop_eq_getElem_cons h]
  rfl
theorem cast1 (k : Nat) : ((1 + k : Nat) : Int) = 1 + (k : Int) := by omega
theorem markStr (A : Option Addr) (c : Nat) (l : List ByteArray) (hb : l.length ≤ 1048577) (w : World) {B : Nat} (hB : B ≤ w.heap.size) (hp : LsTx w B A l) :
    Calls Tryd.prog 44 #[.slice A l.length c, .int .i64 1] w fun e w' => e = .returned (.int .i64 (1 + (l.length : Int))) ∧ LsTx w' B A (wmarks l.length) ∧ Below B w w' := by
  by_cases h0 : l.length = 0
  · have e0 : l.length ≤ 0 := by omega
    clear h0
    go_enter Tryd.func44, Tryd.ntmps44
    go_wp2
    refine wp_loop_rounds 2 ?_
    rw [rounds_succ]
    go_wp2
    go_ret
    exact ⟨ret_int (by omega), by rw [show l.length = 0 by omega]; exact LsTx.nil _ _ _, Below.refl _ _⟩
  · obtain ⟨g, rfl, hg1, hg2, hc, hf⟩ := hp (by omega)
    have HC := hide hc
    have HF := hide hf
    clear hc hf hp
    go_enter Tryd.func44, Tryd.ntmps44
    go_wp2
    go_loopw [1, 5] (fun m i wr => ∃ k : Nat, k ≤ l.length ∧ Hid (AtA wr g (wmMix l k) strA) ∧ Hid (∀ o, wr.frozen? ⟨g, o, none⟩ = false) ∧ g < wr.heap.size ∧ Below B w wr ∧ m = .int .i64 (1 + k : Int) ∧ i = .int .i64 k) (fun _ i _ => l.length - (intOf i).toNat)
    case atStart => exact ⟨0, Nat.zero_le _, hide (by rw [wmMix_zero]; exact HC.out), HF, hg2, Below.refl _ _, rfl, rfl⟩
    case round =>
      obtain ⟨k, hk, hq, hfr, hsz, hbw, rfl, rfl⟩ := hrel
      by_cases hlt : k < l.length
      · have CM := markTextS (1 + k) (by omega) (by omega)
        rw [cast1] at CM
        obtain ⟨x, hx⟩ : ∃ x, mkT (1 + k) = x := ⟨_, rfl⟩
        rw [hx] at CM
        have HCM := hide CM
        have HS := wmMix_succ l k hlt
        rw [hx] at HS
        have HSH := hide HS
        clear CM HS hx
        go_wp2_with fail
        refine (HCM.out wr).mono ?_
        rintro e w2 ⟨rfl, hb2⟩
        have hq2 := hq.out.below hb2 hsz
        have hf2 : ∀ o, w2.frozen? ⟨g, o, none⟩ = false := fun o => (hb2.frozen (p := ⟨g, o, none⟩) hsz).trans (hfr.out o)
        have hB2 := hbw.trans (hb2.mono (Nat.le_trans hB hbw.size))
        have hs2 := hb2.size
        have d1 := hq2 k (by rw [wmMix_len _ _ hk]; exact hlt)
        have f1 := hf2 k
        have R := hq2.stored (k := k) (by rw [wmMix_len _ _ hk]; exact hlt) x
        rw [HSH.out] at R
        unfold strA at d1
        have HR := hide R
        have HF2 := hide hf2
        clear R hq2 hf2 hb2 HCM HSH hq hfr hbw
        go_wp2
        go_roundw
        case rel => exact ⟨k + 1, by omega, HR, hide fun o => by rw [World.frozen?_setCell]; exact HF2.out o, by simp; omega, hB2.setCell hg1 _, by go_num, by go_num⟩
        case measure => simp [intOf]; omega
      · obtain rfl : k = l.length := by omega
        go_wp2
        go_ret
        exact ⟨rfl, fun _ => ⟨g, rfl, hg1, hsz, by have := hq.out; rwa [wmMix_done] at this, hfr.out⟩, hbw⟩
theorem heldStr (A : Option Addr) (n c : Nat) (hb : n ≤ 1048577) (w : World) {B : Nat} (hp : LsTx w B A (wmarks n)) :
    Calls Tryd.prog 45 #[.slice A n c, .int .i64 1] w fun e w' => e = .returned (.int .i64 (1 + (n : Int))) ∧ Below w.heap.size w w' := by
  have HP := hide hp
  clear hp
  go_enter Tryd.func45, Tryd.ntmps45
  go_wp2
  go_loopw [1, 5] (fun m i wr => ∃ k : Nat, k ≤ n ∧ m = .int .i64 (1 + k : Int) ∧ i = .int .i64 k ∧ Below w.heap.size w wr) (fun _ i _ => n - (intOf i).toNat)
  case atStart => exact ⟨0, Nat.zero_le _, rfl, rfl, Below.refl _ _⟩
  case round =>
    obtain ⟨k, hk, rfl, rfl, hbw⟩ := hrel
    by_cases hlt : k < n
    · obtain ⟨g, rfl, -, hg, hc, -⟩ := (HP.out.below hbw) (by rw [wmarks_len]; omega)
      have c1 := hc k (by rw [wmarks_len]; exact hlt)
      rw [wmarks_at] at c1
      unfold strA at c1
      have CM := markTextS (1 + k) (by omega) (by omega)
      rw [cast1] at CM
      obtain ⟨x, hx⟩ : ∃ x, mkT (1 + k) = x := ⟨_, rfl⟩
      rw [hx] at CM c1
      have HCM := hide CM
      have e2 : (x.toList != x.toList) = false := by simp
      clear hc CM hx
      go_wp2_with fail
      go_region_held3 (fun w' => Below wr.heap.size wr w' ∧ w'.cell? ⟨g, k, none⟩ = some (.string x)) (first | exact ⟨(Below.refl _ _).drew, c1⟩ | exact held1D (by assumption) | exact held1 (by assumption) (by assumption) | go_keep) ((go_at_call 83; refine (HCM.out _).mono ?_; rintro e w2 ⟨rfl, hb2⟩))
      all_goals
        have hB2 := below_next (w0 := w) (And.left (by assumption : Below wr.heap.size wr _ ∧ _)) hbw
        go_wp2
        go_roundw
        case rel => exact ⟨k + 1, by omega, by go_num, by go_num, hB2⟩
        case measure => simp [intOf]; omega
    · obtain rfl : k = n := by omega
      go_wp2
      go_ret
      exact ⟨rfl, hbw⟩
end Go.Proofs.YtphlbpailmdndaaDoor
