--%!
/- Contracts: the text of a point, reference and program alike; the walk of the law on it. Own work. -/
import Derived.Test.YtphlbpailmdndaaDoorTwo
import Derived.Deep.RegionHeld3
namespace Go.Proofs.YtphlbpailmdndaaDoor
open Go.ChangeShapes Go.WideShapes Go.ChangeAt Go.RowKit
set_option linter.unusedVariables false
set_option maxRecDepth 100000
set_option maxHeartbeats 2000000

noncomputable def itoaS (n : Int) : ByteArray := ⟨(Lib.itoa n).toArray⟩
theorem itoaS_le {n : Int} (h0 : -9223372036854775808 ≤ n) (h1 : n ≤ 9223372036854775807) : (itoaS n).size ≤ 20 := by unfold itoaS; rw [size_lst]; exact itoa_le h0 h1
noncomputable def ptext (a b : Int) : ByteArray := if okP a b = true then itoaS a ++ ⟨#[44]⟩ ++ itoaS b else ByteArray.empty
theorem ptext_t {a b : Int} (h : okP a b = true) : ptext a b = itoaS a ++ ⟨#[44]⟩ ++ itoaS b := if_pos h
theorem ptext_f {a b : Int} (h : okP a b = false) : ptext a b = ByteArray.empty := if_neg (by rw [h]; decide)
theorem l01DecS' (n : Int) (h0 : -9223372036854775808 ≤ n) (h1 : n ≤ 9223372036854775807) (w : World) :
    Calls Tryd.prog 55 #[.int .i64 n] w fun e w' => e = .returned (.string (itoaS n)) ∧ Below w.heap.size w w' := l01DecS n h0 h1 w
theorem decI' (n : Int) (h0 : -9223372036854775808 ≤ n) (h1 : n ≤ 9223372036854775807) (w : World) (hp : Pow w) :
    Calls Tryd.prog 16 #[.int .i64 n] w fun e w' => e = .returned (.string (itoaS n)) ∧ Below w.heap.size w w' := decI n h0 h1 w hp
theorem kept1 {w W w1 : World} {a b : Value} (h : Below w.heap.size w W ∧ w.heap.size < W.heap.size ∧ W.cell? ⟨w.heap.size, 0, none⟩ = some a ∧ W.cell? ⟨w.heap.size, 1, none⟩ = some b) (hb : Below W.heap.size W w1) : Below w.heap.size w w1 ∧ w.heap.size < w1.heap.size ∧ w1.cell? ⟨w.heap.size, 0, none⟩ = some a ∧ w1.cell? ⟨w.heap.size, 1, none⟩ = some b := by
  obtain ⟨h1, h2, k0, k1⟩ := h
  have hz := hb.size
  refine ⟨below_next hb h1, by omega, ?_, ?_⟩
  · rw [hb.cell (p := ⟨w.heap.size, 0, none⟩) (by simp; omega)]; exact k0
  · rw [hb.cell (p := ⟨w.heap.size, 1, none⟩) (by simp; omega)]; exact k1
theorem keptD1 {w W : World} {a b : Value} (h : Below w.heap.size w W ∧ w.heap.size < W.heap.size ∧ W.cell? ⟨w.heap.size, 0, none⟩ = some a ∧ W.cell? ⟨w.heap.size, 1, none⟩ = some b) : Below w.heap.size w W.drew ∧ w.heap.size < W.drew.heap.size ∧ W.drew.cell? ⟨w.heap.size, 0, none⟩ = some a ∧ W.drew.cell? ⟨w.heap.size, 1, none⟩ = some b :=
  ⟨h.1.drew, h.2⟩
theorem powD {W : World} (h : Pow W) : Pow W.drew := h
theorem keptP1 {w W w1 : World} {a b : Value} (h : (Below w.heap.size w W ∧ w.heap.size < W.heap.size ∧ W.cell? ⟨w.heap.size, 0, none⟩ = some a ∧ W.cell? ⟨w.heap.size, 1, none⟩ = some b) ∧ Pow W) (hb : Below W.heap.size W w1) : (Below w.heap.size w w1 ∧ w.heap.size < w1.heap.size ∧ w1.cell? ⟨w.heap.size, 0, none⟩ = some a ∧ w1.cell? ⟨w.heap.size, 1, none⟩ = some b) ∧ Pow w1 := ⟨kept1 h.1 hb, h.2.below hb⟩
theorem keptPD {w W : World} {a b : Value} (h : (Below w.heap.size w W ∧ w.heap.size < W.heap.size ∧ W.cell? ⟨w.heap.size, 0, none⟩ = some a ∧ W.cell? ⟨w.heap.size, 1, none⟩ = some b) ∧ Pow W) : (Below w.heap.size w W.drew ∧ w.heap.size < W.drew.heap.size ∧ W.drew.cell? ⟨w.heap.size, 0, none⟩ = some a ∧ W.drew.cell? ⟨w.heap.size, 1, none⟩ = some b) ∧ Pow W.drew := ⟨keptD1 h.1, powD h.2⟩
theorem ptxt2S (a b : Int) (h : okP a b = true) (w : World) :
    Calls Tryd.prog 61 #[.agg #[.int .i64 a, .int .i64 b]] w fun e w' => e = .returned (.string (ptext a b)) ∧ Below w.heap.size w w' := by
  have H := hide (ptext_t h)
  obtain ⟨a0, a1, b0, b1⟩ := okP_bd h
  have sa := itoaS_le (n := a) (by omega) (by omega)
  have sb := itoaS_le (n := b) (by omega) (by omega)
  have sc : ¬ 9223372036854775807 < (itoaS a).size + 1 := by omega
  have sd : ¬ 9223372036854775807 < (itoaS a).size + 1 + (itoaS b).size := by omega
  clear h
  go_enter Tryd.func61, Tryd.ntmps61
  go_wp2_with fail
  go_region_held3 (fun w' => Below w.heap.size w w' ∧ w.heap.size < w'.heap.size ∧ w'.cell? ⟨w.heap.size, 0, none⟩ = some (.int .i64 a) ∧ w'.cell? ⟨w.heap.size, 1, none⟩ = some (.int .i64 b)) (first | exact keptD1 (by assumption) | exact kept1 (by assumption) (by assumption) | (refine ⟨?_, ?_, ?_, ?_⟩ <;> first | (go_simp; done) | (simp; done) | (go_grown; done)) | go_keep) ((go_at_call 55; refine (l01DecS' _ (by omega) (by omega) _).mono ?_; rintro e w' ⟨rfl, hb⟩))
  rename_i hk
  obtain ⟨hB, -, -, -⟩ := hk
  go_wp2_with fail
  go_ret
  exact ⟨ret_str H.out.symm, hB⟩
theorem kept0 (w : World) (a b : Value) (t : Nat) : Below w.heap.size w (w.alloc (.cells #[a, b] t)) ∧ w.heap.size < (w.alloc (.cells #[a, b] t)).heap.size ∧ (w.alloc (.cells #[a, b] t)).cell? ⟨w.heap.size, 0, none⟩ = some a ∧ (w.alloc (.cells #[a, b] t)).cell? ⟨w.heap.size, 1, none⟩ = some b := by
  refine ⟨by go_grown, by rw [World.size_alloc]; omega, ?_, ?_⟩ <;> go_simp
theorem ptextS (a b : Int) (w : World) :
    Calls Tryd.prog 19 #[.agg #[.int .i64 a, .int .i64 b]] w fun e w' => e = .returned (.string (ptext a b)) ∧ Below w.heap.size w w' := by
  cases h : okP a b
  · have H := hide (ptext_f h)
    have HB := hide h
    clear h
    go_enter Tryd.func19, Tryd.ntmps19
    go_wp2_with fail
    refine (okS _ _ _).mono ?_
    rw [HB.out]
    rintro e w1 ⟨rfl, hb1⟩
    obtain ⟨hB, hz, k0, k1⟩ := kept1 (kept0 w _ _ _) hb1
    go_wp2_with fail
    go_ret
    exact ⟨ret_str H.out.symm, hB⟩
  · have HB := hide h
    go_enter Tryd.func19, Tryd.ntmps19
    go_wp2_with fail
    refine (okS _ _ _).mono ?_
    rw [HB.out]
    rintro e w1 ⟨rfl, hb1⟩
    obtain ⟨hB, hz, k0, k1⟩ := kept1 (kept0 w _ _ _) hb1
    go_wp2_with fail
    refine (ptxt2S a b h _).mono ?_
    rintro e w2 ⟨rfl, hb2⟩
    have hB2 := below_next (w0 := w) hb2 hB
    clear hb1 hb2 hB
    go_wp2_with fail
    go_ret
    exact ⟨rfl, hB2⟩
theorem ptextI (a b : Int) (w : World) (hp : Pow w) :
    Calls Tryd.prog 21 #[.agg #[.int .i64 a, .int .i64 b]] w fun e w' => e = .returned (.string (ptext a b)) ∧ Below w.heap.size w w' := by
  have HP := hide hp
  clear hp
  cases h : okP a b
  · have H := hide (ptext_f h)
    have HB := hide h
    clear h
    go_enter Tryd.func21, Tryd.ntmps21
    go_wp2_with fail
    refine (okI _ _ _).mono ?_
    rw [HB.out]
    rintro e w1 ⟨rfl, hb1⟩
    obtain ⟨hB, hz, k0, k1⟩ := kept1 (kept0 w _ _ _) hb1
    go_wp2_with fail
    go_ret
    exact ⟨ret_str H.out.symm, hB⟩
  · have HB := hide h
    have H := hide (ptext_t h)
    obtain ⟨a0, a1, b0, b1⟩ := okP_bd h
    have sa := itoaS_le (n := a) (by omega) (by omega)
    have sb := itoaS_le (n := b) (by omega) (by omega)
    have sc : ¬ 9223372036854775807 < (itoaS a).size + 1 := by omega
    have sd : ¬ 9223372036854775807 < (itoaS a).size + 1 + (itoaS b).size := by omega
    clear h
    go_enter Tryd.func21, Tryd.ntmps21
    go_wp2_with fail
    refine (okI _ _ _).mono ?_
    rw [HB.out]
    rintro e w1 ⟨rfl, hb1⟩
    have hk1 := kept1 (kept0 w _ _ _) hb1
    have hp1 : Pow w1 := HP.out.below hk1.1
    obtain ⟨hB, hz, k0, k1⟩ := id hk1
    go_wp2_with fail
    go_region_held3 (fun w' => (Below w.heap.size w w' ∧ w.heap.size < w'.heap.size ∧ w'.cell? ⟨w.heap.size, 0, none⟩ = some (.int .i64 a) ∧ w'.cell? ⟨w.heap.size, 1, none⟩ = some (.int .i64 b)) ∧ Pow w') (first | exact keptPD (by assumption) | exact keptP1 (by assumption) (by assumption) | exact keptPD ⟨hk1, hp1⟩ | go_keep) ((go_at_call 16; refine (decI' _ (by omega) (by omega) _ (And.right (by assumption))).mono ?_; rintro e w' ⟨rfl, hb⟩))
    rename_i hk
    obtain ⟨⟨hB2, -, -, -⟩, -⟩ := hk
    clear hb1 hk1 hB
    go_wp2_with fail
    go_ret
    exact ⟨ret_str H.out.symm, hB2⟩
theorem toPt (a b : Int) (w : World) :
    Calls Tryd.prog 20 #[.agg #[.int .i64 a, .int .i64 b]] w fun e w' => e = .returned (.agg #[.int .i64 a, .int .i64 b]) ∧ Below w.heap.size w w' := by
  go_enter Tryd.func20, Tryd.ntmps20
  go_wp2
  go_returns
  exact ⟨rfl, by go_grown⟩
theorem fnExactPointText_walk (a b : Int) (_ : -9223372036854775808 ≤ a) (_ : a ≤ 9223372036854775807) (_ : -9223372036854775808 ≤ b) (_ : b ≤ 9223372036854775807) (w : World) (hp : Pow w) :
    Calls Tryd.prog 5 #[.agg #[.int .i64 a, .int .i64 b]] w fun e w' => e = .returned (.bool true) ∧ Below w.heap.size w w' := by
  have HP := hide hp
  clear hp
  go_enter Tryd.func5, Tryd.ntmps5
  go_wp2_with fail
  refine (toPt _ _ _).mono ?_
  rintro e w1 ⟨rfl, hb1⟩
  have hk1 := kept1 (kept0 w _ _ _) hb1
  clear hb1
  obtain ⟨hB1, hz1, k01, k11⟩ := id hk1
  go_wp2_with fail
  refine (ptextS _ _ _).mono ?_
  rintro e w2 ⟨rfl, hb2⟩
  have hk2 := kept1 hk1 hb2
  clear hk1 hb2 hB1 hz1 k01 k11
  obtain ⟨hB1, hz1, k01, k11⟩ := id hk2
  go_wp2_with fail
  refine (toPt _ _ _).mono ?_
  rintro e w3 ⟨rfl, hb3⟩
  have hk3 := kept1 hk2 hb3
  clear hk2 hb3 hB1 hz1 k01 k11
  obtain ⟨hB1, hz1, k01, k11⟩ := id hk3
  go_wp2_with fail
  refine (ptextI _ _ _ (HP.out.below hB1)).mono ?_
  rintro e w4 ⟨rfl, hb4⟩
  have hB4 := below_next (w0 := w) hb4 hB1
  clear hk3 hb4 hB1 hz1 k01 k11
  go_wp2_with fail
  go_ret
  exact ⟨rfl, hB4⟩
end Go.Proofs.YtphlbpailmdndaaDoor
