--%!
/- Contracts of the sines and cosines, reference and program alike. -/
import Derived.Test.YtnmihmjgmanllaaNums
import Derived.Test.YtnmihmjgmanllaaTrigMath
import Derived.Outline
import Derived.Great.BuildSlice
namespace Go.Proofs.Ytnmihmjgmanllaa
open Go.ChangeShapes Go.WideShapes Go.ChangeAt Go.RowKit
set_option linter.unusedVariables false
set_option maxRecDepth 100000
set_option maxHeartbeats 1000000

theorem ang_of {d a : Int} (h : d % 360 = a) : 0 ≤ a ∧ a < 360 := by omega
theorem angI_at (d a : Int) (h : d % 360 = a) (h0 : -9223372036854775808 ≤ d) (h1 : d ≤ 9223372036854775807) (w : World) :
    Calls Try.prog 39 #[.int .i64 d] w fun e w' => e = .returned (.int .i64 a) ∧ w = w' := h ▸ angI d h0 h1 w
theorem angS_at (d a : Int) (h : d % 360 = a) (h0 : -9223372036854775808 ≤ d) (h1 : d ≤ 9223372036854775807) (w : World) :
    Calls Try.prog 68 #[.int .i64 d] w fun e w' => e = .returned (.int .i64 a) ∧ w = w' := h ▸ angS d h0 h1 w
theorem sinRow_getD (k : Nat) (h : k < 91) : (sinTab.map (Value.int .i64)).toArray[k]? = some (.int .i64 (sinTab.getD k 0)) := by
  have hl : k < sinTab.length := h
  rw [List.getElem?_toArray, List.getElem?_map, List.getD_eq_getElem?_getD, List.getElem?_eq_getElem hl]; rfl
def sinRow : Array Value := (sinTab.map (Value.int .i64)).toArray
theorem info2 : (Try.prog.info? 2).map (fun i => (i.zero, i.size, i.bytes)) = some (some (.int .i64 0), 1, 8) := by kernel_rfl
theorem run_index_sin (k : Nat) (h : k < 91) (w : World) : (Instr.index 59 (.agg sinRow) (.int .i64 (k : Int))).run Try.prog w = .ok (.int .i64 (sinQ (k : Int))) w := by
  obtain ⟨i0, hi, hz0, hz1, hz2⟩ := info_parts info2
  obtain ⟨x, hx⟩ : ∃ x, sinTab[k]? = some x := ⟨_, List.getElem?_eq_getElem (show k < sinTab.length from h)⟩
  simp [sinRow, Instr.index, run_underlying Try.underlying59, asIntOf, h, hx, sizeOf, typeInfo, hi, hz1, part, go_sem, sinQ_nat]
theorem quarterI (d : Int) (h0 : 0 ≤ d) (h1 : d ≤ 90) (w : World) :
    Calls Try.prog 40 #[.int .i64 d] w fun e w' => e = .returned (.int .i64 (sinQ d)) ∧ w = w' := by
  obtain ⟨k, rfl⟩ := Int.eq_ofNat_of_zero_le h0
  have ix := fun w => run_index_sin k (by omega) w
  go_enter Try.func40, Try.ntmps40
  go_wp2_with (refine wpList_buildFlatArrTo rfl 59 2 91 _ rfl .i64 sinTab (some 3) rfl Try.underlying59 (by kernel_rfl) (by kernel_rfl) (by kernel_rfl) ?_; show wpList _ _ _ _ (Act.put _ _ (.agg sinRow)) _)
  go_ret
  exact ⟨rfl, rfl⟩
theorem sineI_low (a : Int) (h0 : 0 ≤ a) (h1 : a < 180) (w : World) :
    Calls Try.prog 14 #[.int .i64 a] w fun e w' => e = .returned (.int .i64 (sine a)) ∧ w = w' := by
  have H := hide (sine_low h0 h1)
  have E := hide (Int.emod_eq_of_lt h0 (by omega) : a % 360 = a)
  by_cases h : 90 < a
  · go_enter Try.func14, Try.ntmps14
    go_wp2_with (first | (go_at_call 39; refine (angI_at _ _ E.out (by omega) (by omega) _).mono ?_; rintro e w' ⟨rfl, rfl⟩) | (go_at_call 40; refine (quarterI _ (by omega) (by omega) _).mono ?_; rintro e w' ⟨rfl, rfl⟩))
    go_ret
    exact ⟨ret_int (by rw [H.out, if_pos h]), rfl⟩
  · go_enter Try.func14, Try.ntmps14
    go_wp2_with (first | (go_at_call 39; refine (angI_at _ _ E.out (by omega) (by omega) _).mono ?_; rintro e w' ⟨rfl, rfl⟩) | (go_at_call 40; refine (quarterI _ (by omega) (by omega) _).mono ?_; rintro e w' ⟨rfl, rfl⟩))
    go_ret
    exact ⟨ret_int (by rw [H.out, if_neg (by omega)]), rfl⟩
theorem sineI (d : Int) (h0 : -9223372036854775808 ≤ d) (h1 : d ≤ 9223372036854775807) (w : World) :
    Calls Try.prog 14 #[.int .i64 d] w fun e w' => e = .returned (.int .i64 (sine d)) ∧ w = w' := by
  obtain ⟨a, ha⟩ : ∃ a, d % 360 = a := ⟨_, rfl⟩
  obtain ⟨a0, a1⟩ := ang_of ha
  by_cases h : 180 ≤ a
  · have H := hide (sine_high ha h a1)
    have E := hide ha
    have hb := sine_bd (a - 180)
    clear ha
    go_enter Try.func14, Try.ntmps14
    go_wp2_with (first | (go_at_call 39; refine (angI_at _ _ E.out (by omega) (by omega) _).mono ?_; rintro e w' ⟨rfl, rfl⟩) | (go_at_call 14; refine (sineI_low _ (by omega) (by omega) _).mono ?_; rintro e w' ⟨rfl, rfl⟩))
    go_ret
    exact ⟨ret_int H.out.symm, rfl⟩
  · have H := hide (show sine d = if 90 < a then sinQ (180 - a) else sinQ a by rw [← sine_low a0 (by omega), ← ha, sine_mod])
    have E := hide ha
    clear ha
    by_cases h' : 90 < a
    · go_enter Try.func14, Try.ntmps14
      go_wp2_with (first | (go_at_call 39; refine (angI_at _ _ E.out (by omega) (by omega) _).mono ?_; rintro e w' ⟨rfl, rfl⟩) | (go_at_call 40; refine (quarterI _ (by omega) (by omega) _).mono ?_; rintro e w' ⟨rfl, rfl⟩))
      go_ret
      exact ⟨ret_int (by rw [H.out, if_pos h']), rfl⟩
    · go_enter Try.func14, Try.ntmps14
      go_wp2_with (first | (go_at_call 39; refine (angI_at _ _ E.out (by omega) (by omega) _).mono ?_; rintro e w' ⟨rfl, rfl⟩) | (go_at_call 40; refine (quarterI _ (by omega) (by omega) _).mono ?_; rintro e w' ⟨rfl, rfl⟩))
      go_ret
      exact ⟨ret_int (by rw [H.out, if_neg (by omega)]), rfl⟩
theorem cosineI (d : Int) (h0 : -9223372036854775808 ≤ d) (h1 : d ≤ 9223372036854775807) (w : World) :
    Calls Try.prog 16 #[.int .i64 d] w fun e w' => e = .returned (.int .i64 (cosine d)) ∧ w = w' := by
  go_enter Try.func16, Try.ntmps16
  go_wp2_with (first | (go_at_call 39; refine (angI _ (by omega) (by omega) _).mono ?_; rintro e w' ⟨rfl, rfl⟩) | (go_at_call 14; refine (sineI _ (by omega) (by omega) _).mono ?_; rintro e w' ⟨rfl, rfl⟩))
  go_ret
  exact ⟨rfl, rfl⟩
/-- the reference's table lies in a block -/
def TableAt (w : World) (b : Nat) : Prop := ∀ k, k < 91 → w.cell? ⟨b, k, none⟩ = some (.int .i64 (sinTab.getD k 0))
theorem tableS (w : World) : Calls Try.prog 67 #[] w fun e w' => e = .returned (.slice (some ⟨w.heap.size, 0, none⟩) 91 91) ∧ TableAt w' w.heap.size ∧ w.heap.size < w'.heap.size ∧ Below w.heap.size w w' := by
  go_enter Try.func67, Try.ntmps67
  go_wp2
  go_ret
  refine ⟨rfl, ?_, by simp, by go_grown⟩
  intro k hk
  rw [cell_of_row _ _ _ _ _ _ (heap_alloc_new w _)]
  exact sinRow_getD k hk
theorem sineInS (b : Nat) (d : Int) (h0 : -9223372036854775808 ≤ d) (h1 : d ≤ 9223372036854775807) (w : World) (ht : TableAt w b) :
    Calls Try.prog 66 #[.slice (some ⟨b, 0, none⟩) 91 91, .int .i64 d] w fun e w' => e = .returned (.int .i64 (sine d)) ∧ w = w' := by
  obtain ⟨a, ha⟩ : ∃ a, d % 360 = a := ⟨_, rfl⟩
  obtain ⟨a0, a1⟩ := ang_of ha
  have hT := hide ht
  clear ht
  by_cases h2 : a ≤ 90
  · have H := hide (sine_1 ha h2)
    have E := hide ha
    clear ha
    obtain ⟨k, rfl⟩ := Int.eq_ofNat_of_zero_le a0
    have hc := hT.out k (by omega)
    obtain ⟨q1, q2⟩ := sinQ_bd k
    rw [← sinQ_nat] at hc
    go_enter Try.func66, Try.ntmps66
    go_wp2_with (go_at_call 68; refine (angS_at _ _ E.out (by omega) (by omega) _).mono ?_; rintro e w' ⟨rfl, rfl⟩)
    go_ret
    exact ⟨ret_int (by rw [H.out]), rfl⟩
  · by_cases h3 : a < 180
    · have H := hide (sine_2 ha (by omega) h3)
      have E := hide ha
      clear ha
      obtain ⟨k, hk⟩ := Int.eq_ofNat_of_zero_le (show 0 ≤ 180 - a by omega)
      obtain rfl : a = 180 - (k : Int) := by omega
      have hc := hT.out k (by omega)
      obtain ⟨q1, q2⟩ := sinQ_bd k
      rw [← sinQ_nat] at hc
      clear hk
      have e1 : (180 : Int) - (180 - (k : Int)) = k := by omega
      go_enter Try.func66, Try.ntmps66
      go_wp2_with (go_at_call 68; refine (angS_at _ _ E.out (by omega) (by omega) _).mono ?_; rintro e w' ⟨rfl, rfl⟩)
      go_ret
      exact ⟨ret_int (by rw [H.out]; congr 1; omega), rfl⟩
    · by_cases h4 : a ≤ 270
      · have H := hide (sine_3 ha (by omega) h4)
        have E := hide ha
        clear ha
        obtain ⟨k, hk⟩ := Int.eq_ofNat_of_zero_le (show 0 ≤ a - 180 by omega)
        obtain rfl : a = (k : Int) + 180 := by omega
        have hc := hT.out k (by omega)
        obtain ⟨q1, q2⟩ := sinQ_bd k
        rw [← sinQ_nat] at hc
        clear hk
        go_enter Try.func66, Try.ntmps66
        go_wp2_with (go_at_call 68; refine (angS_at _ _ E.out (by omega) (by omega) _).mono ?_; rintro e w' ⟨rfl, rfl⟩)
        go_ret
        exact ⟨ret_int (by rw [H.out, show (k : Int) + 180 - 180 = k by omega]), rfl⟩
      · have H := hide (sine_4 ha (by omega))
        have E := hide ha
        clear ha
        obtain ⟨k, hk⟩ := Int.eq_ofNat_of_zero_le (show 0 ≤ 180 - (a - 180) by omega)
        obtain rfl : a = 360 - (k : Int) := by omega
        have hc := hT.out k (by omega)
        obtain ⟨q1, q2⟩ := sinQ_bd k
        rw [← sinQ_nat] at hc
        clear hk
        have e1 : (180 : Int) - (360 - (k : Int) - 180) = k := by omega
        go_enter Try.func66, Try.ntmps66
        go_wp2_with (go_at_call 68; refine (angS_at _ _ E.out (by omega) (by omega) _).mono ?_; rintro e w' ⟨rfl, rfl⟩)
        go_ret
        exact ⟨ret_int (by rw [H.out, show (180 : Int) - (360 - (k : Int) - 180) = k by omega]), rfl⟩
theorem sineS (d : Int) (h0 : -9223372036854775808 ≤ d) (h1 : d ≤ 9223372036854775807) (w : World) :
    Calls Try.prog 38 #[.int .i64 d] w fun e w' => e = .returned (.int .i64 (sine d)) ∧ Below w.heap.size w w' := by
  go_enter Try.func38, Try.ntmps38
  go_wp2_with (first | (go_at_call 67; refine (tableS _).mono ?_; rintro e w1 ⟨rfl, ht, hz, hb⟩) | (go_at_call 66; refine (sineInS _ _ (by omega) (by omega) _ ht).mono ?_; rintro e w2 ⟨rfl, rfl⟩))
  go_ret
  exact ⟨rfl, hb⟩
theorem cosineS (d : Int) (h0 : -9223372036854775808 ≤ d) (h1 : d ≤ 9223372036854775807) (w : World) :
    Calls Try.prog 41 #[.int .i64 d] w fun e w' => e = .returned (.int .i64 (cosine d)) ∧ Below w.heap.size w w' := by
  go_enter Try.func41, Try.ntmps41
  go_wp2_with (first | (go_at_call 68; refine (angS _ (by omega) (by omega) _).mono ?_; rintro e w' ⟨rfl, rfl⟩) | (go_at_call 38; refine (sineS _ (by omega) (by omega) _).mono ?_; rintro e w1 ⟨rfl, hb⟩))
  go_ret
  exact ⟨rfl, hb⟩
theorem fnExactSine_walk (d : Int) (h0 : -9223372036854775808 ≤ d) (h1 : d ≤ 9223372036854775807) (w : World) :
    Calls Try.prog 3 #[.int .i64 d] w fun e w' => e = .returned (.bool true) ∧ Below w.heap.size w w' := by
  go_enter Try.func3, Try.ntmps3
  go_wp2_with (first | (go_at_call 38; refine (sineS _ (by omega) (by omega) _).mono ?_; rintro e w1 ⟨rfl, hb⟩) | (go_at_call 14; refine (sineI _ (by omega) (by omega) _).mono ?_; rintro e w' ⟨rfl, rfl⟩) | go_in)
  go_ret
  exact ⟨rfl, hb⟩
theorem fnExactCosine_walk (d : Int) (h0 : -9223372036854775808 ≤ d) (h1 : d ≤ 9223372036854775807) (w : World) :
    Calls Try.prog 4 #[.int .i64 d] w fun e w' => e = .returned (.bool true) ∧ Below w.heap.size w w' := by
  go_enter Try.func4, Try.ntmps4
  go_wp2_with (first | (go_at_call 41; refine (cosineS _ (by omega) (by omega) _).mono ?_; rintro e w1 ⟨rfl, hb⟩) | (go_at_call 16; refine (cosineI _ (by omega) (by omega) _).mono ?_; rintro e w' ⟨rfl, rfl⟩) | go_in)
  go_ret
  exact ⟨rfl, hb⟩
end Go.Proofs.Ytnmihmjgmanllaa
