--%!
/- A list of numbers read out of a text: the program's reading, the laws' marks on it, the walk of the law. Own work. -/
import Derived.Test.YtphlbpailmdndaaDoorRList
namespace Go.Proofs.YtphlbpailmdndaaDoor
open Go.ChangeShapes Go.WideShapes Go.ChangeAt Go.RowKit
set_option linter.unusedVariables false
set_option maxRecDepth 100000
set_option maxHeartbeats 1000000
theorem eqNmG (A1 A2 : Option Addr) (c d : Nat) (l : List Int) (hb : l.length ≤ 1048576) (w : World) {B1 B2 : Nat} (hp : NmRd w B1 A1 l) (hq : NmRd w B2 A2 l) :
    Calls Tryd.prog 36 #[.slice A1 l.length c, .slice A2 l.length d] w fun e w' => e = .returned (.bool true) ∧ Below w.heap.size w w' := by
  have HP := hide hp
  have HQ := hide hq
  clear hp hq
  go_enter Tryd.func36, Tryd.ntmps36
  go_wp2
  go_loopw [5] (fun i wr => ∃ k : Nat, k ≤ l.length ∧ i = .int .i64 k ∧ ∃ j, wr = w.drewN j) (fun i _ => l.length - (intOf i).toNat)
  case atStart => exact ⟨0, Nat.zero_le _, rfl, 0, rfl⟩
  case round =>
    obtain ⟨k, hk, rfl, j, rfl⟩ := hrel
    by_cases hlt : k < l.length
    · obtain ⟨g, o, rfl, -, hc⟩ := HP.out (by omega)
      obtain ⟨h, o2, rfl, -, hd⟩ := HQ.out (by omega)
      have c1 := hc k hlt
      have d1 := hd k hlt
      have e1 : (l[k] != l[k]) = false := by simp
      clear hc hd
      go_wp2_with fail
      go_quiet (fail)
      go_wp2
      go_roundw
      case rel => exact ⟨k + 1, by omega, by go_num, _, rfl⟩
      case measure => simp [intOf]; omega
    · go_wp2
      go_ret
      exact ⟨rfl, ⟨rfl, rfl, rfl, Nat.le_refl _, fun _ _ => rfl⟩⟩
/-- the marks: one, two, .. -/
def marks (n : Nat) : List Int := (List.range n).map fun (i : Nat) => (1 + (i : Int))
theorem marks_len (n : Nat) : (marks n).length = n := by simp [marks]
theorem marks_at (n k : Nat) (h : k < (marks n).length) : (marks n)[k] = 1 + k := by simp [marks]
def mkMix (l : List Int) (k : Nat) : List Int := (marks l.length).take k ++ l.drop k
theorem mkMix_len (l : List Int) (k : Nat) (h : k ≤ l.length) : (mkMix l k).length = l.length := by simp [mkMix, marks_len]; omega
theorem mkMix_zero (l : List Int) : mkMix l 0 = l := by simp [mkMix]
theorem mkMix_done (l : List Int) : mkMix l l.length = marks l.length := by
  unfold mkMix
  rw [List.drop_length, List.append_nil, List.take_of_length_le (by rw [marks_len]; exact Nat.le_refl _)]
theorem mkMix_succ (l : List Int) (k : Nat) (h : k < l.length) : (mkMix l k).set k (1 + k : Int) = mkMix l (k + 1) := by
  unfold mkMix
  have h1 : k < (marks l.length).length := by rw [marks_len]; exact h
  rw [List.set_append_right _ _ (by simp [marks_len]; omega), List.take_succ_eq_append_getElem h1, marks_at, List.append_assoc]
  congr 1
  rw [List.length_take, marks_len, show k - min k l.length = 0 by omega, List.drop_eq_getElem_cons h]
  rfl
theorem markNums (A : Option Addr) (c : Nat) (l : List Int) (hb : l.length ≤ 1048576) (w : World) {B : Nat} (hB : B ≤ w.heap.size) (hp : LsRd w B A l) :
    Calls Tryd.prog 39 #[.slice A l.length c, .int .i64 1] w fun e w' => e = .returned (.int .i64 (1 + (l.length : Int))) ∧ LsRd w' B A (marks l.length) ∧ Below B w w' := by
  by_cases h0 : l.length = 0
  · have e0 : l.length ≤ 0 := by omega
    clear h0
    go_enter Tryd.func39, Tryd.ntmps39
    go_wp2
    refine wp_loop_rounds 2 ?_
    rw [rounds_succ]
    go_wp2
    go_ret
    exact ⟨ret_int (by omega), by rw [show l.length = 0 by omega]; exact LsRd.nil _ _ _, Below.refl _ _⟩
  · obtain ⟨g, rfl, hg1, hg2, hc, hf⟩ := hp (by omega)
    have HC := hide hc
    have HF := hide hf
    clear hc hf hp
    go_enter Tryd.func39, Tryd.ntmps39
    go_wp2
    go_loopw [1, 5] (fun m i wr => ∃ k : Nat, k ≤ l.length ∧ Hid (NmAt wr g 0 (mkMix l k)) ∧ Hid (∀ o, wr.frozen? ⟨g, o, none⟩ = false) ∧ g < wr.heap.size ∧ Below B w wr ∧ m = .int .i64 (1 + k : Int) ∧ i = .int .i64 k) (fun _ i _ => l.length - (intOf i).toNat)
    case atStart => exact ⟨0, Nat.zero_le _, hide (by rw [mkMix_zero]; exact HC.out), HF, hg2, Below.refl _ _, rfl, rfl⟩
    case round =>
      obtain ⟨k, hk, hq, hfr, hsz, hbw, rfl, rfl⟩ := hrel
      by_cases hlt : k < l.length
      · have d1 := hq.out k (by rw [mkMix_len _ _ hk]; exact hlt)
        have f1 := hfr.out k
        rw [Nat.zero_add] at d1
        have R := hq.out.stored (k := k) (by rw [mkMix_len _ _ hk]; exact hlt) (1 + k : Int)
        rw [mkMix_succ _ _ hlt, Nat.zero_add] at R
        have HR := hide R
        clear R
        go_wp2
        go_roundw
        case rel => exact ⟨k + 1, by omega, HR, hide fun o => by rw [World.frozen?_setCell]; exact hfr.out o, by simp; omega, hbw.setCell hg1 _, by go_num, by go_num⟩
        case measure => simp [intOf]; omega
      · obtain rfl : k = l.length := by omega
        go_wp2
        go_ret
        exact ⟨rfl, fun _ => ⟨g, rfl, hg1, hsz, by have := hq.out; rwa [mkMix_done] at this, hfr.out⟩, hbw⟩
theorem heldNums (A : Option Addr) (n c : Nat) (hb : n ≤ 1048576) (w : World) (hp : NmRd w w.heap.size A (marks n)) :
    Calls Tryd.prog 40 #[.slice A n c, .int .i64 1] w fun e w' => e = .returned (.int .i64 (1 + (n : Int))) ∧ Below w.heap.size w w' := by
  have HP := hide hp
  clear hp
  go_enter Tryd.func40, Tryd.ntmps40
  go_wp2
  go_loopw [1, 5] (fun m i wr => ∃ k : Nat, k ≤ n ∧ m = .int .i64 (1 + k : Int) ∧ i = .int .i64 k ∧ Below w.heap.size w wr) (fun _ i _ => n - (intOf i).toNat)
  case atStart => exact ⟨0, Nat.zero_le _, rfl, rfl, Below.refl _ _⟩
  case round =>
    obtain ⟨k, hk, rfl, rfl, hbw⟩ := hrel
    by_cases hlt : k < n
    · obtain ⟨g, o, rfl, hg, hc⟩ := (HP.out.below hbw) (by rw [marks_len]; omega)
      have c1 := hc k (by rw [marks_len]; exact hlt)
      rw [marks_at] at c1
      clear hc
      go_wp2
      go_roundw
      case rel => exact ⟨k + 1, by omega, by go_num, by go_num, hbw⟩
      case measure => simp [intOf]; omega
    · obtain rfl : k = n := by omega
      go_wp2
      go_ret
      exact ⟨rfl, hbw⟩
theorem BlkIs.below {w w' : World} {g : Nat} {t : TypeId} {cs : Array Value} (h : BlkIs w g t cs) (hb : Below w.heap.size w w') : BlkIs w' g t cs := (hb.block g h.lt).trans h
theorem push_blkA {α : Type} {f : α → Value} {l : List α} {W w1 : World} {B : Nat} {t e : TypeId} {v : Value} {o : Obj} {g : Nat} {cs : Array Value} (hown : OwnsA W B t v f l)
    (hgrow : (W.alloc o).grownBy w1 v.ownBlock) (h : BlkIs W g e cs) (ne : t ≠ e) : BlkIs w1 g e cs := (h.alloc o).grown hgrow fun k => h.apart hown ne k.symm
theorem splitK (c : UInt8) (s : ByteArray) (hs : s.size ≤ 2097152) (w : World) (hm : Mx w) :
    Calls Tryd.prog 76 #[.string s, .string ⟨#[c]⟩] w fun e w' => e = .returned (.slice (some ⟨w.heap.size, 0, none⟩) (splB c s).length (splB c s).length) ∧ BlkIs w' w.heap.size 9 ((splB c s).map Value.string).toArray ∧ Below w.heap.size w w' := by
  obtain ⟨h1, h2⟩ := splitB_splB c s
  refine (splitI s ⟨#[c]⟩ hs (Nat.le_refl 1) w hm).mono ?_
  rintro e w' ⟨rfl, rfl⟩
  rw [← h2, h1]
  exact ⟨rfl, heap_alloc_new w _, (Below.refl _ w).alloc (Nat.le_refl _) _⟩
theorem blk_at {w : World} {g : Nat} {t : TypeId} {ps : List ByteArray} (h : BlkIs w g t (ps.map Value.string).toArray) {k : Nat} (hk : k < ps.length) : w.cell? ⟨g, k, none⟩ = some (.string ps[k]) := by
  refine (cell_of_row _ _ _ _ _ _ h).trans ?_
  rw [List.getElem?_toArray, List.getElem?_map, List.getElem?_eq_getElem hk]
  rfl
theorem rdListI (s : ByteArray) (hs : s.size ≤ 2097152) (w : World) (hpw : Pow w) (her : Errs w) (hmx : Mx w) :
    Calls Tryd.prog 38 #[.string s] w fun e w' => ∃ A c, e = .returned (.tuple #[.slice A (rlP s).length c, .bool (rlK s)]) ∧ LsRd w' w.heap.size A (rlP s) ∧ Below w.heap.size w w' := by
  have HW := hide hpw
  have HE := hide her
  have HM := hide hmx
  clear hpw her hmx
  obtain ⟨i0, hi, hz0, hz1, hz2⟩ := info_parts i64_info
  by_cases hd : s = ⟨#[45]⟩
  · have HL : Hid (rlP s = []) := hide (if_pos hd)
    have HK : Hid (rlK s = true) := hide (if_pos hd)
    have g1 : (s.toList == [45]) = true := by rw [hd, Lib.toList_data]; rfl
    have HD := hide hd
    clear hd
    go_enter Tryd.func38, Tryd.ntmps38
    go_wp2
    go_returns
    exact ⟨_, _, retLs (by rw [HL.out]; rfl) HK.out.symm, by rw [HL.out]; exact LsRd.nil _ _ _, by go_grown⟩
  · have HL0 : Hid (rlP s = rlL (splB 44 s)) := hide (if_neg hd)
    have HK0 : Hid (rlK s = rlB (splB 44 s)) := hide (if_neg hd)
    have g1 : (s.toList == [45]) = false := beq_false_of_ne (fun e => hd (by
      rw [Lib.toList_data] at e
      have := congrArg List.toArray e
      cases s
      simpa using this))
    clear hd
    have hlen := splB_len 44 s
    have hsz := splB_size 44 s
    obtain ⟨ps, hps⟩ : ∃ ps, splB 44 s = ps := ⟨_, rfl⟩
    have C := splitK 44 s hs
    rw [hps] at HL0 HK0 hlen hsz C
    have HC := hide C
    have HS := hide hsz
    clear hps C hsz
    go_enter Tryd.func38, Tryd.ntmps38
    go_wp2_with fail
    have hB0 : Below w.heap.size w (w.alloc (.cells #[] 2)) := by go_grown
    have HO := hide (OwnsA.empty (w := w) (t := 2) (f := intA) (Nat.le_refl w.heap.size))
    refine (HC.out _ (HM.out.below hB0)).mono ?_
    rintro e w1 ⟨rfl, hblk, hb1⟩
    have HO1 := hide (HO.out.below hb1)
    have hB1 := below_next (w0 := w) hb1 hB0
    obtain ⟨g, hg⟩ : ∃ g, (w.alloc (.cells #[] 2)).heap.size = g := ⟨_, rfl⟩
    rw [hg] at hblk ⊢
    have HBk := hide hblk
    clear HC HO hb1 hB0 hblk hg
    go_wp2_with fail
    go_loopw [4, 15] (fun v i wr => ∃ k : Nat, k ≤ ps.length ∧ k ≤ 64 ∧ Hid (okTo ps k) ∧ Hid (OwnsA wr w.heap.size 2 v intA ((ps.take k).map numVB)) ∧ Hid (BlkIs wr g 9 (ps.map Value.string).toArray) ∧ Below w.heap.size w wr ∧ i = .int .i64 k) (fun _ i _ => ps.length - (intOf i).toNat)
    case atStart => exact ⟨0, Nat.zero_le _, by omega, hide (fun t h h0 => absurd h0 (by omega)), HO1, HBk, hB1, rfl⟩
    case round =>
      clear HO1 HBk hB1
      obtain ⟨k, hk, hk64, hgd, hown, hblk, hbw, rfl⟩ := hrel
      have hz := hbw.size
      by_cases hlt : k < ps.length
      · have c1 := blk_at hblk.out hlt
        have hpz : ps[k].size ≤ 2097152 := Nat.le_trans (HS.out _ (List.getElem_mem hlt)) hs
        have hvr := numV_rng ps[k]
        have HT : Hid ((ps.take k).map numVB ++ [numVB ps[k]] = (ps.take (k + 1)).map numVB) := hide (by rw [List.take_succ_eq_append_getElem hlt, List.map_append]; rfl)
        have hol : ((ps.take k).map numVB).length = k := by rw [List.length_map, List.length_take]; omega
        obtain ⟨out, ho⟩ : ∃ out, (ps.take k).map numVB = out := ⟨_, rfl⟩
        rw [ho] at hown hol HT
        obtain ⟨A, c, rfl, -⟩ := hown.out.ls
        by_cases hgo : pOk ps[k] = true ∧ k < 64
        · have HG := hide (okTo_next hgd.out hlt hgo.1)
          obtain ⟨h1, h2⟩ := pOk_iff.1 hgo.1
          have hk63 := hgo.2
          have g2 : ((out.length : Int) == 64) = false := beq_false_of_ne (by omega)
          have hol2 : out.length ≤ 64 := by omega
          obtain ⟨p, hp⟩ : ∃ p, ps[k] = p := ⟨_, rfl⟩
          rw [hp] at c1 hpz hvr h1 h2 HT
          have C := readI p hpz wr (HW.out.below hbw) (HE.out.below hbw)
          rw [show numV p.data.toList = numVB p from rfl] at C
          obtain ⟨x, hx⟩ : ∃ x, numVB p = x := ⟨_, rfl⟩
          rw [hx] at C hvr h2 HT
          rw [h1] at C
          have HC := hide C
          have HI := hide (show inB x (-1000000000000) 1000000000000 = true from h2)
          clear C h1 h2 hx hgo hp ho hol
          go_wp2_with fail
          refine HC.out.mono ?_
          rintro e w2 ⟨rfl, hb2⟩
          have HO2 := hide (hown.out.below hb2)
          have HB2 := hide (hblk.out.below hb2)
          have hB2 := below_next (w0 := w) hb2 hbw
          have hz3 := hB2.size
          clear hown hblk hbw hb2 c1 HC
          go_wp2_with fail
          refine (inI _ _ _ _).mono ?_
          rw [HI.out]
          rintro e w' ⟨rfl, rfl⟩
          go_wp2_with (at_builtin; refine wpList_append_own _ rfl _ _ 36 rfl w.heap.size 2 i0 (.int .i64 0) 1 8 Tryd.underlying36 hi hz0 hz1 hz2 rfl (by decide) _ _ _ rfl (World.ownsRow.alloc HO2.out _) ⟨w2.heap.size, 0, none⟩ 1 1 [.int .i64 x] rfl rfl new_cell (by intro u hu; rw [List.mem_singleton.1 hu]; rfl) (by unfold maxLen; omega) (by omega) (by simp; omega) ?_)
          intro v' wo hown' hgrow _
          have R := push_A (b := x) HO2.out (by simpa [intA] using hown') hgrow hB2 hz3
          have HBo := hide (push_blkA HO2.out hgrow HB2.out (by decide))
          rw [HT.out] at R
          have O := hide R.1
          have hbo := R.2
          clear hown' hgrow R HO2 HB2 hB2 hz3
          go_wp2_with fail
          go_roundw
          case rel => exact ⟨k + 1, by omega, by omega, HG, O, HBo, hbo, by go_num⟩
          case measure => simp [intOf]; omega
        · have hB : rlB ps = false := by
            by_cases q : pOk ps[k] = true
            · exact rlB_long (by have : ¬ k < 64 := fun r => hgo ⟨q, r⟩; omega)
            · exact rlB_bad hlt (by simpa using q)
          have HL := hide (HL0.out.trans (rlL_f hB))
          have HK := hide (HK0.out.trans hB)
          have hcase : numB ps[k].data.toList = false ∨ (numB ps[k].data.toList = true ∧ inL (numVB ps[k]) = false) ∨ (numB ps[k].data.toList = true ∧ inL (numVB ps[k]) = true ∧ out.length = 64) := by
            cases h1 : numB ps[k].data.toList
            · exact .inl rfl
            · cases h2 : inL (numVB ps[k])
              · exact .inr (.inl ⟨rfl, rfl⟩)
              · exact .inr (.inr ⟨rfl, rfl, by have : ¬ k < 64 := fun r => hgo ⟨pOk_iff.2 ⟨h1, h2⟩, r⟩; omega⟩)
          obtain ⟨p, hp⟩ : ∃ p, ps[k] = p := ⟨_, rfl⟩
          rw [hp] at c1 hpz hvr hcase
          have C := readI p hpz wr (HW.out.below hbw) (HE.out.below hbw)
          rw [show numV p.data.toList = numVB p from rfl] at C
          obtain ⟨x, hx⟩ : ∃ x, numVB p = x := ⟨_, rfl⟩
          rw [hx] at C hvr hcase
          clear hB hgo HT hp hx ho hol
          rcases hcase with h1 | ⟨h1, h2⟩ | ⟨h1, h2, h3⟩
          · rw [h1] at C
            have HC := hide C
            clear C h1
            go_wp2_with fail
            refine HC.out.mono ?_
            rintro e w2 ⟨rfl, hb2⟩
            have hB2 := below_next (w0 := w) hb2 hbw
            clear hb2
            go_wp2_with fail
            go_returns
            exact ⟨_, _, retLs (by rw [HL.out]; rfl) HK.out.symm, by rw [HL.out]; exact LsRd.nil _ _ _, hB2⟩
          · rw [h1] at C
            have HC := hide C
            have HI := hide (show inB x (-1000000000000) 1000000000000 = false from h2)
            clear C h1 h2
            go_wp2_with fail
            refine HC.out.mono ?_
            rintro e w2 ⟨rfl, hb2⟩
            have hB2 := below_next (w0 := w) hb2 hbw
            clear hb2
            go_wp2_with fail
            refine (inI _ _ _ _).mono ?_
            rw [HI.out]
            rintro e w' ⟨rfl, rfl⟩
            go_wp2_with fail
            go_returns
            exact ⟨_, _, retLs (by rw [HL.out]; rfl) HK.out.symm, by rw [HL.out]; exact LsRd.nil _ _ _, hB2⟩
          · rw [h1] at C
            have HC := hide C
            have HI := hide (show inB x (-1000000000000) 1000000000000 = true from h2)
            have g2 : ((out.length : Int) == 64) = true := by simp; omega
            clear C h1 h2
            go_wp2_with fail
            refine HC.out.mono ?_
            rintro e w2 ⟨rfl, hb2⟩
            have hB2 := below_next (w0 := w) hb2 hbw
            clear hb2
            go_wp2_with fail
            refine (inI _ _ _ _).mono ?_
            rw [HI.out]
            rintro e w' ⟨rfl, rfl⟩
            go_wp2_with fail
            go_returns
            exact ⟨_, _, retLs (by rw [HL.out]; rfl) HK.out.symm, by rw [HL.out]; exact LsRd.nil _ _ _, hB2⟩
      · obtain rfl : k = ps.length := by omega
        have hB := okTo_all hgd.out hk64
        have HL := hide (HL0.out.trans (rlL_t hB))
        have HK := hide (HK0.out.trans hB)
        rw [List.take_length] at hown
        obtain ⟨A, c, rfl, hls⟩ := hown.out.ls
        have HLS := hide hls
        clear hown hls hB
        go_wp2_with fail
        go_returns
        exact ⟨A, c, retLs (by rw [HL.out]) HK.out.symm, by rw [HL.out]; exact HLS.out, hbw⟩
end Go.Proofs.YtphlbpailmdndaaDoor
