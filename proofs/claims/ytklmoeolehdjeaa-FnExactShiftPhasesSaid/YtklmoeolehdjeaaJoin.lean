--%!
/- Contracts: joined phases of tenths, rotated lists, shifted phases, reference and program alike. Own work. -/
import Derived.Test.YtklmoeolehdjeaaJoinM
import Derived.Test.YtklmoeolehdjeaaPhCat
namespace Go.Proofs.Ytklmoeolehdjeaa
open Go.ChangeShapes Go.WideShapes Go.ChangeAt Go.RowKit
set_option linter.unusedVariables false
set_option maxRecDepth 100000
set_option maxHeartbeats 1000000
theorem str_int {s : ByteArray} {n : Int} : ∀ u ∈ [Value.string s, .int .i64 n], u.oneCell' = true := by
  intro u hu
  simp at hu
  rcases hu with rfl | rfl <;> rfl
theorem ownsRow_less {w : World} {B B' : Nat} {t : TypeId} {v : Value} {f : UInt8 → Value} {l : List UInt8} (h : Owns w B t v f l) (hB : B' ≤ B) : Owns w B' t v f l := Go.Joins.ownsRow_le h hB
theorem name_at {l : List UInt8} {k : Nat} (h : k < l.length) : nameOf l[k] = nameOf (l[k]) := rfl
theorem jn_case (out : List (ByteArray × Int)) (s : ByteArray) : out.length = 0 ∨ (∃ h : 0 < out.length, (out[out.length - 1]'(by omega)).1 = s) ∨ ∃ h : 0 < out.length, (out[out.length - 1]'(by omega)).1 ≠ s := by
  by_cases h : out.length = 0
  · exact .inl h
  · right
    by_cases e : (out[out.length - 1]'(by omega)).1 = s
    · exact .inl ⟨by omega, e⟩
    · exact .inr ⟨by omega, e⟩
theorem phase_infoJ : (Try.prog.info? 49).map (fun i => (i.zero, i.size, i.bytes)) = some (some (.agg #[.string ByteArray.empty, .int .i64 0]), 2, 24) := by kernel_rfl
theorem joinI (g c : Nat) (l : List UInt8) (hl : l.length ≤ 600) (w : World) (ht : TAt w g l strV) (hg : g < w.heap.size) :
    Calls Try.prog 69 #[.slice (some ⟨g, 0, none⟩) l.length c] w fun e w' => ∃ A c', e = .returned (.slice A (joinB l).length c') ∧ LsPh w' w.heap.size A (joinB l) ∧ Below w.heap.size w w' := by
  have HT := hide ht
  clear ht
  obtain ⟨i0, hi, hz0, hz1, hz2⟩ := info_parts phase_infoJ
  go_enter Try.func69, Try.ntmps69
  go_wp2_with fail
  go_loopw [3, 10] (fun v i wr => ∃ k : Nat, k ≤ l.length ∧ Hid (OwnsP wr w.heap.size 49 v (joinB (l.take k))) ∧ Below w.heap.size w wr ∧ i = .int .i64 k) (fun _ i _ => l.length - (intOf i).toNat)
  case atStart => exact ⟨0, Nat.zero_le _, hide (OwnsP.empty (Nat.le_refl _)), by go_grown, rfl⟩
  case round =>
    obtain ⟨k, hk, hown, hbw, rfl⟩ := hrel
    have hz := hbw.size
    by_cases hlt : k < l.length
    · have c1 : wr.cell? ⟨g, k, none⟩ = some (.string (nameOf l[k])) := HT.out.below hbw hg k hlt
      have HS := hide (joinB_take hlt)
      have hbd := joinB_bd l k hk
      obtain ⟨s, hs⟩ : ∃ s, nameOf l[k] = s := ⟨_, rfl⟩
      rw [hs] at c1 HS
      obtain ⟨out, ho⟩ : ∃ out, joinB (l.take k) = out := ⟨_, rfl⟩
      rw [ho] at hown HS hbd
      have hbl := hbd.1
      clear hs ho
      rcases jn_case out s with h0 | ⟨h0, he⟩ | ⟨h0, he⟩
      · have HJ := hide ((jn_nil (s := s) h0).symm.trans HS.out.symm)
        obtain rfl : out = [] := List.eq_nil_of_length_eq_zero h0
        obtain ⟨A, c', rfl, -⟩ := OwnsP.ls hown.out
        simp only [List.length_nil] at hbl
        go_wp2_with (at_builtin; refine wpList_append_own _ rfl _ _ 25 rfl w.heap.size 49 i0 (.agg #[.string ByteArray.empty, .int .i64 0]) 2 24 Try.underlying25 hi hz0 hz1 hz2 rfl (by decide) _ _ _ rfl (World.ownsRow.alloc hown.out _) ⟨wr.heap.size, 0, none⟩ 1 1 [.string s, .int .i64 1] rfl rfl new_two str_int (by unfold maxLen; omega) (by omega) (by simp; omega) ?_)
        intro v' wo hown' hgrow _
        have R := push_P (s := s) (n := 1) hown.out hown' hgrow hbw hz
        rw [HJ.out] at R
        have O := hide R.1
        have hbo := R.2
        clear hown' hgrow R hown hbw hz
        go_wp2_with fail
        go_roundw
        case rel => exact ⟨k + 1, by omega, O, hbo, by go_num⟩
        case measure => simp [intOf]; omega
      · obtain ⟨g', c', rfl, hB, hg', hat, hfr⟩ := OwnsP.form hown.out h0
        have HJ := hide ((jn_same h0 he).symm.trans HS.out.symm)
        obtain ⟨m, hm⟩ : ∃ m, out.length = m + 1 := ⟨out.length - 1, by omega⟩
        have hlast : m < out.length := by omega
        have hidx : out.length - 1 = m := by omega
        simp only [hidx] at he HJ
        obtain ⟨d0, d1⟩ := hat m hlast
        have f1 := hfr (m * 2 + 1)
        rw [Nat.zero_add] at d0 d1
        have hbb := (hbd.2 _ (List.getElem_mem hlast))
        rw [he] at d0
        have e1 : (s.toList == s.toList) = true := by simp
        have z0 : decide ((0 : Int) < (out.length : Int)) = true := decide_eq_true (by omega)
        have R := last_P hown.out hlast (out[m].2 + 1) hbw hB
        rw [he] at R
        rw [HJ.out] at R
        obtain ⟨y, hy⟩ : ∃ y, out[m].2 = y := ⟨_, rfl⟩
        rw [hy] at R d1 hbb
        have HO := hide R.1
        have hbo := R.2
        clear hat hfr R hy HJ he
        go_wp2_with fail
        go_roundw
        case rel => exact ⟨k + 1, by omega, HO, hbo, by go_num⟩
        case measure => simp [intOf]; omega
      · obtain ⟨g', c', rfl, hB, hg', hat, hfr⟩ := OwnsP.form hown.out h0
        have HJ := hide ((jn_diff h0 he).symm.trans HS.out.symm)
        obtain ⟨m, hm⟩ : ∃ m, out.length = m + 1 := ⟨out.length - 1, by omega⟩
        have hlast : m < out.length := by omega
        have hidx : out.length - 1 = m := by omega
        simp only [hidx] at he HJ
        obtain ⟨d0, d1⟩ := hat m hlast
        rw [Nat.zero_add] at d0 d1
        have e1 : (out[m].1.toList == s.toList) = false := beq_false_of_ne (toList_ne he)
        have z0 : decide ((0 : Int) < (out.length : Int)) = true := decide_eq_true (by omega)
        clear hat hfr
        go_wp2_with (at_builtin; refine wpList_append_own _ rfl _ _ 25 rfl w.heap.size 49 i0 (.agg #[.string ByteArray.empty, .int .i64 0]) 2 24 Try.underlying25 hi hz0 hz1 hz2 rfl (by decide) _ _ _ rfl (World.ownsRow.alloc hown.out _) ⟨wr.heap.size, 0, none⟩ 1 1 [.string s, .int .i64 1] rfl rfl new_two str_int (by unfold maxLen; omega) (by omega) (by simp; omega) ?_)
        intro v' wo hown' hgrow _
        rw [← hm] at hown' hgrow
        have R := push_P (s := s) (n := 1) hown.out hown' hgrow hbw hz
        rw [HJ.out] at R
        have O := hide R.1
        have hbo := R.2
        clear hown' hgrow R hown hbw hz
        go_wp2_with fail
        go_roundw
        case rel => exact ⟨k + 1, by omega, O, hbo, by go_num⟩
        case measure => simp [intOf]; omega
    · obtain rfl : k = l.length := by omega
      rw [List.take_length] at hown
      obtain ⟨A, c', rfl, hls⟩ := OwnsP.ls hown.out
      have HL := hide hls
      clear hown hls
      go_wp2_with fail
      go_returns
      exact ⟨A, c', rfl, HL.out, hbw⟩
theorem rotI (g c k : Nat) (l : List UInt8) (h1 : 1 ≤ l.length) (hl : l.length ≤ 600) (hk : k < l.length) (hc : l.length ≤ c) (hcm : c ≤ maxLen) (w : World) (ht : TAt w g l strV) (hg : g < w.heap.size) :
    Calls Try.prog 70 #[.slice (some ⟨g, 0, none⟩) l.length c, .int .i64 k] w fun e w' => ∃ v, e = .returned v ∧ Owns w' w.heap.size 9 v strV (rot l k) ∧ Below w.heap.size w w' := by
  have HT := hide ht
  clear ht
  unfold maxLen at hcm
  have HA : Hid (TAtO w g k (l.drop k) strV) := hide (fun j hj => by
    rw [List.length_drop] at hj
    rw [List.getElem_drop]
    exact HT.out (k + j) (by omega))
  have HB : Hid (TAtO w g 0 (l.take k) strV) := hide (fun j hj => by
    rw [List.length_take] at hj
    rw [List.getElem_take, Nat.zero_add]
    exact HT.out j (by omega))
  have ea : (l.drop k).length = l.length - k := List.length_drop
  have eb : (l.take k).length = k := by rw [List.length_take]; omega
  have hk1 : k ≤ l.length := by omega
  have hk2 : ¬ c = k := by omega
  have hk3 : k ≤ c := by omega
  go_enter Try.func70, Try.ntmps70
  go_wp2_with fail
  go_still_tail 6, (by kernel_rfl)
  go_wp2_with fail
  have hBW : Below w.heap.size w (w.alloc (.cells #[.slice (some ⟨g, k, none⟩) (l.length - k) (c - k), .slice (some ⟨g, 0, none⟩) k c] 61)).drew := ((Below.refl _ w).alloc (Nat.le_refl _) _).drew
  refine (concatI w.heap.size g k (c - k) g 0 c 2 (l.drop k) (l.take k) _ ?s0 ?s1 ?s1 (by omega) (by omega) (by omega) ?c0 ?c1 (HA.out.below hBW hg) (HB.out.below hBW hg)).mono ?_
  case s0 => simp
  case s1 => exact Nat.lt_of_lt_of_le hg hBW.size
  case c0 => rw [ea]; exact cell_of_row _ w.heap.size 0 _ _ _ (heap_alloc_new w _)
  case c1 => rw [eb]; exact cell_of_row _ w.heap.size 1 _ _ _ (heap_alloc_new w _)
  rintro e w3 ⟨v, rfl, ho, hb3⟩
  have HO := hide (ownsRow_less (B' := w.heap.size) ho hBW.size)
  have hB3 := below_next (w0 := w) hb3 hBW
  clear ho hb3 hBW ea eb
  go_wp2_with fail
  go_ret
  exact ⟨_, rfl, HO.out, hB3⟩
theorem joinS (g c m : Nat) (l : List UInt8) (h1 : 1 ≤ l.length) (hl : l.length ≤ 600) (hm : m < l.length) (w : World) (ht : TAt w g l byteV) (hg : g < w.heap.size) :
    Calls Try.prog 68 #[.slice (some ⟨g, 0, none⟩) l.length c, .int .i64 m] w fun e w' => ∃ A c', e = .returned (.slice A (joinB (rot l m)).length c') ∧ LsPh w' w.heap.size A (joinB (rot l m)) ∧ Below w.heap.size w w' := by
  have HT := hide ht
  clear ht
  have hrl := rot_len l m (by omega)
  have HR := hide (show ∀ (i : Nat) (h : i < l.length), (rot l m)[i]'(by rw [hrl]; exact h) = l[(m + i) % l.length]'(Nat.mod_lt _ (by omega)) from fun i h => rot_at (by omega) h)
  obtain ⟨q, hq⟩ : ∃ q, rot l m = q := ⟨_, rfl⟩
  simp only [hq] at HR
  rw [hq] at hrl ⊢
  obtain ⟨i0, hi, hz0, hz1, hz2⟩ := info_parts phase_infoJ
  go_enter Try.func68, Try.ntmps68
  go_wp2_with fail
  go_loopw [5, 6] (fun v i wr => ∃ k : Nat, k ≤ l.length ∧ Hid (OwnsP wr w.heap.size 49 v (joinB (q.take k))) ∧ Below w.heap.size w wr ∧ i = .int .i64 k) (fun _ i _ => l.length - (intOf i).toNat)
  case atStart => exact ⟨0, Nat.zero_le _, hide (OwnsP.empty (Nat.le_refl _)), by go_grown, rfl⟩
  case round =>
    obtain ⟨k, hk, hown, hbw, rfl⟩ := hrel
    have hz := hbw.size
    by_cases hlt : k < l.length
    · have hlq : k < q.length := by omega
      have hidx : (m + k) % l.length < l.length := Nat.mod_lt _ (by omega)
      have c1 : wr.cell? ⟨g, (m + k) % l.length, none⟩ = some (.int .u8 (l[(m + k) % l.length].toNat : Int)) := HT.out.below hbw hg _ hidx
      have HS := hide (joinB_take hlq)
      have hbd := joinB_bd q k (by omega)
      have hqk := HR.out k hlt
      obtain ⟨b, hb⟩ : ∃ b, l[(m + k) % l.length] = b := ⟨_, rfl⟩
      rw [hb] at c1 hqk
      rw [hqk] at HS
      have hr0 : 0 ≤ ((m : Int) + (k : Int)) % (l.length : Int) ∧ ((m : Int) + (k : Int)) % (l.length : Int) < (l.length : Int) := ⟨Int.emod_nonneg _ (by omega), Int.emod_lt_of_pos _ (by omega)⟩
      have hn0 : ¬ (l.length : Int) = 0 := by omega
      obtain ⟨out, ho⟩ : ∃ out, joinB (q.take k) = out := ⟨_, rfl⟩
      rw [ho] at hown HS hbd
      have hbl := hbd.1
      have HN := hide (nameS b)
      clear hb hqk ho
      obtain ⟨s, hs⟩ : ∃ s, nameOf b = s := ⟨_, rfl⟩
      rw [hs] at HN HS
      clear hs
      go_wp2_with fail
      refine (HN.out wr).mono ?_
      rintro e w2 ⟨rfl, hb2⟩
      have hox := hide (hown.out.below hb2)
      have hbx := below_next (w0 := w) hb2 hbw
      have hzx := hbx.size
      clear hown hb2 hbw hz c1 HN hr0 hn0
      rcases jn_case out s with h0 | ⟨h0, he⟩ | ⟨h0, he⟩
      · have HJ := hide ((jn_nil (s := s) h0).symm.trans HS.out.symm)
        obtain rfl : out = [] := List.eq_nil_of_length_eq_zero h0
        obtain ⟨A, c', rfl, -⟩ := OwnsP.ls hox.out
        simp only [List.length_nil] at hbl
        go_wp2_with (at_builtin; refine wpList_append_own _ rfl _ _ 25 rfl w.heap.size 49 i0 (.agg #[.string ByteArray.empty, .int .i64 0]) 2 24 Try.underlying25 hi hz0 hz1 hz2 rfl (by decide) _ _ _ rfl (World.ownsRow.alloc hox.out _) ⟨w2.heap.size, 0, none⟩ 1 1 [.string s, .int .i64 1] rfl rfl new_two str_int (by unfold maxLen; omega) (by omega) (by simp; omega) ?_)
        intro v' wo hox' hgrow _
        have R := push_P (s := s) (n := 1) hox.out hox' hgrow hbx hzx
        rw [HJ.out] at R
        have O := hide R.1
        have hbo := R.2
        clear hox' hgrow R hox hbx hzx
        go_wp2_with fail
        go_roundw
        case rel => exact ⟨k + 1, by omega, O, hbo, by go_num⟩
        case measure => simp [intOf]; omega
      · obtain ⟨g', c', rfl, hB, hg', hat, hfr⟩ := OwnsP.form hox.out h0
        have HJ := hide ((jn_same h0 he).symm.trans HS.out.symm)
        obtain ⟨m, hm⟩ : ∃ m, out.length = m + 1 := ⟨out.length - 1, by omega⟩
        have hlast : m < out.length := by omega
        have hidx : out.length - 1 = m := by omega
        simp only [hidx] at he HJ
        obtain ⟨d0, d1⟩ := hat m hlast
        have f1 := hfr (m * 2 + 1)
        rw [Nat.zero_add] at d0 d1
        have hbb := (hbd.2 _ (List.getElem_mem hlast))
        rw [he] at d0
        have e1 : (s.toList == s.toList) = true := by simp
        have z0 : decide ((0 : Int) < (out.length : Int)) = true := decide_eq_true (by omega)
        have R := last_P hox.out hlast (out[m].2 + 1) hbx hB
        rw [he] at R
        rw [HJ.out] at R
        obtain ⟨y, hy⟩ : ∃ y, out[m].2 = y := ⟨_, rfl⟩
        rw [hy] at R d1 hbb
        rw [hm] at R
        have HO := hide R.1
        have hbo := R.2
        clear hat hfr R hy HJ he
        go_wp2_with fail
        go_roundw
        case rel => exact ⟨k + 1, by omega, HO, hbo, by go_num⟩
        case measure => simp [intOf]; omega
      · obtain ⟨g', c', rfl, hB, hg', hat, hfr⟩ := OwnsP.form hox.out h0
        have HJ := hide ((jn_diff h0 he).symm.trans HS.out.symm)
        obtain ⟨m, hm⟩ : ∃ m, out.length = m + 1 := ⟨out.length - 1, by omega⟩
        have hlast : m < out.length := by omega
        have hidx : out.length - 1 = m := by omega
        simp only [hidx] at he HJ
        obtain ⟨d0, d1⟩ := hat m hlast
        rw [Nat.zero_add] at d0 d1
        have e1 : (out[m].1.toList == s.toList) = false := beq_false_of_ne (toList_ne he)
        have z0 : decide ((0 : Int) < (out.length : Int)) = true := decide_eq_true (by omega)
        have hoy : Hid (w2.ownsRow w.heap.size 49 2 (.slice (some ⟨g', 0, none⟩) (m + 1) c') (m + 1) (phC out)) := hide (by rw [← hm]; exact hox.out)
        clear hat hfr
        go_wp2_with (at_builtin; refine wpList_append_own _ rfl _ _ 25 rfl w.heap.size 49 i0 (.agg #[.string ByteArray.empty, .int .i64 0]) 2 24 Try.underlying25 hi hz0 hz1 hz2 rfl (by decide) _ _ _ rfl (World.ownsRow.alloc hoy.out _) ⟨w2.heap.size, 0, none⟩ 1 1 [.string s, .int .i64 1] rfl rfl new_two str_int (by unfold maxLen; omega) (by omega) (by simp; omega) ?_)
        intro v' wo hox' hgrow _
        rw [← hm] at hox' hgrow
        have R := push_P (s := s) (n := 1) hox.out hox' hgrow hbx hzx
        rw [HJ.out] at R
        have O := hide R.1
        have hbo := R.2
        clear hox' hgrow R hox hbx hzx
        go_wp2_with fail
        go_roundw
        case rel => exact ⟨k + 1, by omega, O, hbo, by go_num⟩
        case measure => simp [intOf]; omega
    · obtain rfl : k = l.length := by omega
      rw [← hrl, List.take_length] at hown
      obtain ⟨A, c', rfl, hls⟩ := OwnsP.ls hown.out
      have HL := hide hls
      clear hown hls
      go_wp2_with fail
      go_returns
      exact ⟨A, c', rfl, HL.out, hbw⟩
end Go.Proofs.Ytklmoeolehdjeaa
