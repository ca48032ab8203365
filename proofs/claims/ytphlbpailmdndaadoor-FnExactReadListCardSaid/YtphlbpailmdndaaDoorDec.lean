--%!
/- Contract of the reference's decimal form of a number. Own work. -/
import Derived.Test.YtphlbpailmdndaaDoorOwn
import Derived.Test.YtphlbpailmdndaaDoorDecMath
import Derived.Test.YtphlbpailmdndaaDoorNums
namespace Go.Proofs.YtphlbpailmdndaaDoor
open Go.ChangeShapes Go.WideShapes Go.ChangeAt Go.RowKit
set_option linter.unusedVariables false
set_option maxRecDepth 100000
set_option maxHeartbeats 4000000

theorem ret_str {a b : ByteArray} (h : a = b) : Ending.returned (.string a) = .returned (.string b) := by rw [h]
theorem l01DecS (n : Int) (h0 : -9223372036854775808 ≤ n) (h1 : n ≤ 9223372036854775807) (w : World) :
    Calls Tryd.prog 55 #[.int .i64 n] w fun e w' => e = .returned (.string ⟨(Lib.itoa n).toArray⟩) ∧ Below w.heap.size w w' := by
  obtain ⟨i0, hi, hz0, hz1, hz2⟩ := info_parts u8_info
  by_cases hn : n = 0
  · subst hn
    have H : Hid (Lib.itoa 0 = [48]) := hide (by unfold Lib.itoa; rw [if_neg (by decide), Lib.decDigits_one (by decide)]; rfl)
    go_enter Tryd.func55, Tryd.ntmps55
    go_wp2
    go_ret
    exact ⟨ret_str (by rw [H.out]), by go_grown⟩
  · have hn' : (n == 0) = false := by simpa using hn
    have HN := hide hn
    clear hn
    go_enter Tryd.func55, Tryd.ntmps55
    go_wp2
    go_loopw [3, 4] (fun v m wr => ∃ (x : Int) (c : List UInt8), -9223372036854775808 ≤ x ∧ x ≤ 9223372036854775807 ∧ Hid (c ++ rd x.natAbs = rd n.natAbs) ∧ Hid (Owns wr w.heap.size 5 v byteV c) ∧ Below w.heap.size w wr ∧ m = .int .i64 x) (fun _ m _ => (intOf m).natAbs)
    case atStart => exact ⟨n, [], h0, h1, hide rfl, hide (Owns.empty (Nat.le_refl _)), by go_grown, rfl⟩
    case round =>
      obtain ⟨x, c, hx0, hx1, hc, hown, hbw, rfl⟩ := hrel
      have hlen : c.length ≤ 90 := by
        have e := congrArg List.length hc.out
        have p := rd_len_pow 19 n.natAbs (by omega)
        rw [List.length_append] at e
        omega
      by_cases hx : x = 0
      · subst hx
        have hce : c = rd n.natAbs := by have e := hc.out; rwa [show (0 : Int).natAbs = 0 from rfl, rd_zero, List.append_nil] at e
        have hcr := (congrArg List.reverse hce).trans (rd_rev (u := n.natAbs) (by have := HN.out; omega))
        clear hc
        have hz := hbw.size
        by_cases hneg : n < 0
        · have HD : Hid (Lib.itoa n = (c ++ [45]).reverse) := hide (by unfold Lib.itoa; rw [if_pos hneg, List.reverse_append, hcr]; rfl)
          clear hce hcr
          go_wp2_with (at_builtin; refine wpList_append_own _ rfl _ _ 48 rfl w.heap.size 5 i0 (.int .u8 0) 1 1 Tryd.underlying48 hi hz0 hz1 hz2 rfl (by decide) _ _ _ rfl (World.ownsRow.alloc hown.out _) ⟨wr.heap.size, 0, none⟩ 1 1 [.int .u8 45] rfl rfl new_cell (by intro u hu; rw [List.mem_singleton.1 hu]; rfl) (by unfold maxLen; omega) (by omega) (by simp; omega) ?_)
          · intro v' wo hown' hgrow _
            have R := own_push (b := 45) hown.out (by simpa [byteV] using hown') hgrow hbw hz
            obtain ⟨d, hd⟩ : ∃ d, d = c ++ [45] := ⟨_, rfl⟩
            rw [← hd] at R HD
            have hd1 : 1 ≤ d.length := by rw [hd, List.length_append]; simp
            have hd2 : d.length ≤ 91 := by rw [hd, List.length_append]; simp; omega
            have HR := HD
            have O := hide R.1
            have hbo := R.2
            clear hown' hgrow R hown hbw hd HD
            obtain ⟨g, cp, rfl, -, -, -, hg, ht⟩ := Owns.form' O.out hd1
            have HT := hide ht
            clear ht O
            have hzo := hbo.size
            go_wp2
            go_loopw [6, 7] (fun v i wr => ∃ k : Nat, k ≤ d.length ∧ Hid (Owns wr wo.heap.size 5 v byteV (d.drop k).reverse) ∧ Below wo.heap.size wo wr ∧ i = .int .i64 ((k : Int) - 1)) (fun _ i _ => (intOf i + 1).toNat)
            case atStart => exact ⟨d.length, Nat.le_refl _, hide (by rw [List.drop_length]; exact Owns.empty (Nat.le_refl _)), (Below.refl _ _).alloc (Nat.le_refl _) _, rfl⟩
            case round =>
              obtain ⟨k, hk, hown, hbw, hi'⟩ := hrel
              have hz := hbw.size
              cases k with
              | zero =>
                obtain rfl := hi'
                obtain ⟨g2, cp2, rfl, -, -, -, hg2, ht2⟩ := Owns.form' hown.out (by simpa using hd1)
                have hcv : (convert 48 9 (.slice (some ⟨g2, 0, none⟩) d.length cp2)).run Tryd.prog wr = .ok (.string ⟨(d.reverse).toArray⟩) wr := by
                  have := run_convert_bytes_back (P := Tryd.prog) wr 48 9 5 ⟨g2, 0, none⟩ cp2 d.reverse Tryd.underlying48 Tryd.underlying5 Tryd.underlying9 (fun j hj => by
                    have e := ht2 j (by simpa using hj)
                    simp only [List.drop_zero] at e
                    rw [show (⟨g2, 0, none⟩ : Addr).add j = ⟨g2, j, none⟩ by unfold Addr.add; split <;> simp_all]
                    exact e)
                  rwa [List.length_reverse] at this
                clear hown ht2
                go_wp2
                go_ret
                exact ⟨ret_str (by rw [HR.out]), hbo.trans (hbw.mono hzo)⟩
              | succ k =>
                have e1 : ((k + 1 : Nat) : Int) - 1 = (k : Int) := by omega
                rw [e1] at hi'
                obtain rfl := hi'
                have hkd : k < d.length := by omega
                have c1 := (HT.out.below hbw hg) k hkd
                unfold byteV at c1
                have S : Hid ((d.drop (k + 1)).reverse ++ [d[k]] = (d.drop k).reverse) := hide (by rw [List.drop_eq_getElem_cons hkd, List.reverse_cons])
                obtain ⟨b, hb⟩ : ∃ b, d[k] = b := ⟨_, rfl⟩
                obtain ⟨l, hl⟩ : ∃ l, (d.drop (k + 1)).reverse = l := ⟨_, rfl⟩
                have hll : l.length ≤ 100 := by rw [← hl, List.length_reverse, List.length_drop]; omega
                rw [hb] at c1 S
                rw [hl] at S hown
                clear hb hl
                go_wp2_with (at_builtin; refine wpList_append_own _ rfl _ _ 48 rfl wo.heap.size 5 i0 (.int .u8 0) 1 1 Tryd.underlying48 hi hz0 hz1 hz2 rfl (by decide) _ _ _ rfl (World.ownsRow.alloc hown.out _) ⟨wr.heap.size, 0, none⟩ 1 1 [.int .u8 (b.toNat : Int)] rfl rfl new_cell (by intro u hu; rw [List.mem_singleton.1 hu]; rfl) (by unfold maxLen; omega) (by omega) (by simp; omega) ?_)
                · intro v' w1 hown' hgrow _
                  have R := own_push (b := b) hown.out (by simpa [byteV] using hown') hgrow hbw hz
                  have R1 := hide R.1
                  have R2 := R.2
                  clear hown' hgrow R hown hbw
                  go_wp2
                  go_roundw
                  case rel => exact ⟨k, by omega, hide (by rw [← S.out]; exact R1.out), R2, by go_num⟩
                  case measure => simp [intOf]
        · have HD : Hid (Lib.itoa n = c.reverse) := hide (by unfold Lib.itoa; rw [if_neg hneg, hcr]; congr 1; omega)
          have hd1 : 1 ≤ c.length := by rw [hce, rd_step (by have := HN.out; omega)]; simp
          clear hce hcr
          have HR := HD
          have O := hown
          have hbo := hbw
          clear hown hbw HD
          obtain ⟨wo, rfl⟩ : ∃ wo : World, wo = wr := ⟨_, rfl⟩
          obtain ⟨d, rfl⟩ : ∃ d, d = c := ⟨_, rfl⟩
          obtain ⟨g, cp, rfl, -, -, -, hg, ht⟩ := Owns.form' O.out hd1
          have HT := hide ht
          clear ht O
          have hzo := hbo.size
          go_wp2
          go_loopw [6, 7] (fun v i wr => ∃ k : Nat, k ≤ d.length ∧ Hid (Owns wr wo.heap.size 5 v byteV (d.drop k).reverse) ∧ Below wo.heap.size wo wr ∧ i = .int .i64 ((k : Int) - 1)) (fun _ i _ => (intOf i + 1).toNat)
          case atStart => exact ⟨d.length, Nat.le_refl _, hide (by rw [List.drop_length]; exact Owns.empty (Nat.le_refl _)), (Below.refl _ _).alloc (Nat.le_refl _) _, rfl⟩
          case round =>
            obtain ⟨k, hk, hown, hbw, hi'⟩ := hrel
            have hz := hbw.size
            cases k with
            | zero =>
              obtain rfl := hi'
              obtain ⟨g2, cp2, rfl, -, -, -, hg2, ht2⟩ := Owns.form' hown.out (by simpa using hd1)
              have hcv : (convert 48 9 (.slice (some ⟨g2, 0, none⟩) d.length cp2)).run Tryd.prog wr = .ok (.string ⟨(d.reverse).toArray⟩) wr := by
                have := run_convert_bytes_back (P := Tryd.prog) wr 48 9 5 ⟨g2, 0, none⟩ cp2 d.reverse Tryd.underlying48 Tryd.underlying5 Tryd.underlying9 (fun j hj => by
                  have e := ht2 j (by simpa using hj)
                  simp only [List.drop_zero] at e
                  rw [show (⟨g2, 0, none⟩ : Addr).add j = ⟨g2, j, none⟩ by unfold Addr.add; split <;> simp_all]
                  exact e)
                rwa [List.length_reverse] at this
              clear hown ht2
              go_wp2
              go_ret
              exact ⟨ret_str (by rw [HR.out]), hbo.trans (hbw.mono hzo)⟩
            | succ k =>
              have e1 : ((k + 1 : Nat) : Int) - 1 = (k : Int) := by omega
              rw [e1] at hi'
              obtain rfl := hi'
              have hkd : k < d.length := by omega
              have c1 := (HT.out.below hbw hg) k hkd
              unfold byteV at c1
              have S : Hid ((d.drop (k + 1)).reverse ++ [d[k]] = (d.drop k).reverse) := hide (by rw [List.drop_eq_getElem_cons hkd, List.reverse_cons])
              obtain ⟨b, hb⟩ : ∃ b, d[k] = b := ⟨_, rfl⟩
              obtain ⟨l, hl⟩ : ∃ l, (d.drop (k + 1)).reverse = l := ⟨_, rfl⟩
              have hll : l.length ≤ 100 := by rw [← hl, List.length_reverse, List.length_drop]; omega
              rw [hb] at c1 S
              rw [hl] at S hown
              clear hb hl
              go_wp2_with (at_builtin; refine wpList_append_own _ rfl _ _ 48 rfl wo.heap.size 5 i0 (.int .u8 0) 1 1 Tryd.underlying48 hi hz0 hz1 hz2 rfl (by decide) _ _ _ rfl (World.ownsRow.alloc hown.out _) ⟨wr.heap.size, 0, none⟩ 1 1 [.int .u8 (b.toNat : Int)] rfl rfl new_cell (by intro u hu; rw [List.mem_singleton.1 hu]; rfl) (by unfold maxLen; omega) (by omega) (by simp; omega) ?_)
              · intro v' w1 hown' hgrow _
                have R := own_push (b := b) hown.out (by simpa [byteV] using hown') hgrow hbw hz
                have R1 := hide R.1
                have R2 := R.2
                clear hown' hgrow R hown hbw
                go_wp2
                go_roundw
                case rel => exact ⟨k, by omega, hide (by rw [← S.out]; exact R1.out), R2, by go_num⟩
                case measure => simp [intOf]
      · have e1 := natAbs_rem x
        have e2 := natAbs_div x
        have b1 := rem_bd x
        have b2 := div_bd x hx0 hx1
        have hs := rd_step (u := x.natAbs) (by omega)
        have hms : (x.tdiv 10).natAbs < x.natAbs := by omega
        obtain ⟨r, hr⟩ : ∃ r, x.tmod 10 = r := ⟨_, rfl⟩
        obtain ⟨q, hq⟩ : ∃ q, x.tdiv 10 = q := ⟨_, rfl⟩
        rw [hr] at e1 b1
        rw [hq] at e2 b2 hms
        rw [← e1, ← e2] at hs
        have HS := hide hs
        have hxb : (x == 0) = false := by simpa using hx
        have hxn : (x != 0) = true := by simpa using hx
        have hz := hbw.size
        have hb9 : r.natAbs ≤ 9 := by omega
        clear hs e1 e2 hx
        by_cases hr0 : r < 0
        · have hbv : Hid (byteV (UInt8.ofNat (48 + r.natAbs)) = .int .u8 (48 + -r)) := hide (by unfold byteV; rw [dig_nat _ hb9]; congr 1; omega)
          go_wp2_with (at_builtin; refine wpList_append_own _ rfl _ _ 48 rfl w.heap.size 5 i0 (.int .u8 0) 1 1 Tryd.underlying48 hi hz0 hz1 hz2 rfl (by decide) _ _ _ rfl (World.ownsRow.alloc hown.out _) ⟨wr.heap.size, 0, none⟩ 1 1 [.int .u8 (48 + -r)] rfl rfl new_cell (by intro u hu; rw [List.mem_singleton.1 hu]; rfl) (by unfold maxLen; omega) (by omega) (by simp; omega) ?_)
          · intro v' w1 hown' hgrow _
            have R := own_push (b := UInt8.ofNat (48 + r.natAbs)) hown.out (by rw [hbv.out]; simpa using hown') hgrow hbw hz
            have R1 := hide R.1
            have R2 := R.2
            clear hown' hgrow R hown hbw
            go_wp2
            go_roundw
            case rel => exact ⟨q, _, by omega, by omega, hide (by have e := hc.out; rw [HS.out] at e; rw [← e, List.append_assoc]; rfl), R1, R2, rfl⟩
            case measure => simp only [intOf]; exact hms
        · have hbv : Hid (byteV (UInt8.ofNat (48 + r.natAbs)) = .int .u8 (48 + r)) := hide (by unfold byteV; rw [dig_nat _ hb9]; congr 1; omega)
          go_wp2_with (at_builtin; refine wpList_append_own _ rfl _ _ 48 rfl w.heap.size 5 i0 (.int .u8 0) 1 1 Tryd.underlying48 hi hz0 hz1 hz2 rfl (by decide) _ _ _ rfl (World.ownsRow.alloc hown.out _) ⟨wr.heap.size, 0, none⟩ 1 1 [.int .u8 (48 + r)] rfl rfl new_cell (by intro u hu; rw [List.mem_singleton.1 hu]; rfl) (by unfold maxLen; omega) (by omega) (by simp; omega) ?_)
          · intro v' w1 hown' hgrow _
            have R := own_push (b := UInt8.ofNat (48 + r.natAbs)) hown.out (by rw [hbv.out]; simpa using hown') hgrow hbw hz
            have R1 := hide R.1
            have R2 := R.2
            clear hown' hgrow R hown hbw
            go_wp2
            go_roundw
            case rel => exact ⟨q, _, by omega, by omega, hide (by have e := hc.out; rw [HS.out] at e; rw [← e, List.append_assoc]; rfl), R1, R2, rfl⟩
            case measure => simp only [intOf]; exact hms
end Go.Proofs.YtphlbpailmdndaaDoor
