--%!
/- Contract: the reference's splitting of a text at a byte. Own work. -/
import Derived.Test.YtphlbpailmdndaaDoorNum
import Derived.Test.YtphlbpailmdndaaDoorOwnV
import Derived.Test.YtphlbpailmdndaaDoorSplMath
namespace Go.Proofs.YtphlbpailmdndaaDoor
open Go.ChangeShapes Go.WideShapes Go.ChangeAt Go.RowKit
set_option linter.unusedVariables false
set_option maxRecDepth 100000
set_option maxHeartbeats 1000000

theorem str_parts : True := trivial
/-- where the reference's loop stands: the pieces laid, and where the open one begins -/
def SplAt (c : UInt8) (s : ByteArray) (out : List ByteArray) (a k : Nat) : Prop := splS c ([], []) (s.data.toList.take k) = (out.map (·.data.toList), (s.data.toList.take k).drop a)
theorem SplAt.start (c : UInt8) (s : ByteArray) : SplAt c s [] 0 0 := by unfold SplAt; simp [splS]
theorem piece (s : ByteArray) (a b : Nat) : (s.extract a b).data.toList = (s.data.toList.take b).drop a := by rw [Lib.extract_data, List.drop_take]
theorem SplAt.hit {c : UInt8} {s : ByteArray} {out : List ByteArray} {a k : Nat} (h : SplAt c s out a k) (hk : k < s.size) (e : s[k] = c) : SplAt c s (out ++ [s.extract a k]) (k + 1) (k + 1) := by
  unfold SplAt at h ⊢
  have hl : k < s.data.toList.length := by rw [len_list]; exact hk
  rw [List.take_succ_eq_append_getElem hl, splS_snoc, if_pos (by rw [at_list]; exact e), h, List.map_append, ← piece]
  simp
  omega
theorem SplAt.miss {c : UInt8} {s : ByteArray} {out : List ByteArray} {a k : Nat} (h : SplAt c s out a k) (ha : a ≤ k) (hk : k < s.size) (e : s[k] ≠ c) : SplAt c s out a (k + 1) := by
  unfold SplAt at h ⊢
  have hl : k < s.data.toList.length := by rw [len_list]; exact hk
  rw [List.take_succ_eq_append_getElem hl, splS_snoc, if_neg (by rw [at_list]; exact e), h, List.drop_append_of_le_length (by rw [List.length_take]; omega)]
theorem SplAt.done {c : UInt8} {s : ByteArray} {out : List ByteArray} {a : Nat} (h : SplAt c s out a s.size) : out ++ [s.extract a s.size] = splB c s := by
  unfold SplAt at h
  rw [← len_list, List.take_length] at h
  unfold splB spl
  rw [h, List.map_append, List.map_map]
  have : ((fun l : List UInt8 => (⟨l.toArray⟩ : ByteArray)) ∘ fun x : ByteArray => x.data.toList) = id := by funext x; exact toA x
  rw [this, List.map_id, ← len_list]
  congr 1
  simp only [List.map_cons, List.map_nil]
  congr 1
  rw [← Lib.extract_to_end, toA, len_list]
theorem SplAt.len {c : UInt8} {s : ByteArray} {out : List ByteArray} {a k : Nat} (h : SplAt c s out a k) : out.length ≤ k := by
  have h2 := spl_len c (s.data.toList.take k)
  unfold SplAt at h
  unfold spl at h2
  rw [h] at h2
  simp at h2
  omega
theorem splitS (c : UInt8) (s : ByteArray) (hs : s.size ≤ 2097152) (w : World) :
    Calls Tryd.prog 82 #[.string s, .int .u8 (c.toNat : Int)] w fun e w' => ∃ g cp, e = .returned (.slice (some ⟨g, 0, none⟩) (splB c s).length cp) ∧ w.heap.size ≤ g ∧ g < w'.heap.size ∧ (splB c s).length ≤ cp ∧ cp ≤ maxLen ∧ AtA w' g (splB c s) strA ∧ Below w.heap.size w w' := by
  obtain ⟨i0, hi, hz0, hz1, hz2⟩ := info_parts str_info
  go_enter Tryd.func82, Tryd.ntmps82
  go_wp2
  go_loopw [5, 6, 7] (fun v n i wr => ∃ (out : List ByteArray) (a k : Nat), a ≤ k ∧ k ≤ s.size ∧ Hid (SplAt c s out a k) ∧ Hid (OwnsA wr w.heap.size 9 v strA out) ∧ Below w.heap.size w wr ∧ n = .int .i64 a ∧ i = .int .i64 k) (fun _ _ i _ => s.size - (intOf i).toNat)
  case atStart => exact ⟨[], 0, 0, Nat.le_refl _, Nat.zero_le _, hide (SplAt.start c s), hide (OwnsA.empty (Nat.le_refl _)), by go_grown, rfl, rfl⟩
  case round =>
    obtain ⟨out, a, k, hak, hk, hsp, hown, hbw, rfl, rfl⟩ := hrel
    have hz := hbw.size
    have hol := hsp.out.len
    by_cases hlt : k < s.size
    · obtain ⟨x, hx⟩ : ∃ x, s[k] = x := ⟨_, rfl⟩
      by_cases hc : x = c
      · have HS := hide (hsp.out.hit hlt (hx.trans hc))
        have e1 : ((x.toNat : Int) == (c.toNat : Int)) = true := by simp [hc]
        clear hsp hc
        obtain ⟨p, hp⟩ : ∃ p, s.extract a k = p := ⟨_, rfl⟩
        rw [hp] at HS
        go_wp2_with (at_builtin; refine wpList_append_own _ rfl _ _ 44 rfl w.heap.size 9 i0 (.string ByteArray.empty) 1 16 Tryd.underlying44 hi hz0 hz1 hz2 rfl (by decide) _ _ _ rfl (World.ownsRow.alloc hown.out _) ⟨wr.heap.size, 0, none⟩ 1 1 [.string p] rfl rfl new_cell (by intro u hu; rw [List.mem_singleton.1 hu]; rfl) (by unfold maxLen; omega) (by omega) (by simp; omega) ?_)
        intro v' wo hown' hgrow _
        have R := push_A (b := p) hown.out (by simpa [strA] using hown') hgrow hbw hz
        have O := hide R.1
        have hbo := R.2
        clear hown' hgrow R hown hbw hz
        go_wp2_with fail
        go_round
        case rel => exact ⟨out ++ [p], k + 1, k + 1, Nat.le_refl _, by omega, HS, O, hbo, by go_num, by go_num⟩
        case measure => simp [intOf]; omega
      · have HS := hide (hsp.out.miss hak hlt (fun e => hc (hx.symm.trans e)))
        have e1 : ((x.toNat : Int) == (c.toNat : Int)) = false := beq_false_of_ne (fun e => hc (by rw [← UInt8.toNat_inj]; omega))
        clear hsp hc
        go_wp2_with fail
        go_round
        case rel => exact ⟨out, a, k + 1, by omega, by omega, HS, hown, hbw, rfl, by go_num⟩
        case measure => simp [intOf]; omega
    · obtain rfl : k = s.size := by omega
      have HD := hide hsp.out.done
      obtain ⟨p, hp⟩ : ∃ p, s.extract a s.size = p := ⟨_, rfl⟩
      rw [hp] at HD
      clear hsp
      go_wp2_with (at_builtin; refine wpList_append_own _ rfl _ _ 44 rfl w.heap.size 9 i0 (.string ByteArray.empty) 1 16 Tryd.underlying44 hi hz0 hz1 hz2 rfl (by decide) _ _ _ rfl (World.ownsRow.alloc hown.out _) ⟨wr.heap.size, 0, none⟩ 1 1 [.string p] rfl rfl new_cell (by intro u hu; rw [List.mem_singleton.1 hu]; rfl) (by unfold maxLen; omega) (by omega) (by simp; omega) ?_)
      intro v' wo hown' hgrow _
      have R := push_A (b := p) hown.out (by simpa [strA] using hown') hgrow hbw hz
      rw [HD.out] at R
      have O := hide R.1
      have hbo := R.2
      clear hown' hgrow R hown hbw hz
      rcases O.out.form with ⟨-, e⟩ | ⟨g, cp, rfl, h1, h2, h3, h4, h5⟩
      · exact absurd e (List.length_pos_iff.1 (splB_pos c s))
      · have H5 := hide h5
        clear h5 O
        go_wp2_with fail
        go_returns
        exact ⟨g, cp, rfl, h3, h4, h1, h2, H5.out, hbo⟩
end Go.Proofs.YtphlbpailmdndaaDoor
