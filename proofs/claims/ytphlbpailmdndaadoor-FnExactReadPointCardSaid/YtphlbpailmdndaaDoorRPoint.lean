--%!
/- Contracts: a point read out of a text, reference and program alike; the walk of the law on it. Own work. -/
import Derived.Test.YtphlbpailmdndaaDoorPText
import Derived.Test.YtphlbpailmdndaaDoorReadLaw
import Derived.Test.YtphlbpailmdndaaDoorSpl
import Derived.Test.YtphlbpailmdndaaDoorCut
namespace Go.Proofs.YtphlbpailmdndaaDoor
open Go.ChangeShapes Go.WideShapes Go.ChangeAt Go.RowKit
set_option linter.unusedVariables false
set_option maxRecDepth 100000
set_option maxHeartbeats 1000000

def cx (l : List UInt8) : List UInt8 := (Lib.cut l [44]).1
def cy (l : List UInt8) : List UInt8 := (Lib.cut l [44]).2.1
def rpB (l : List UInt8) : Bool := numB (cx l) && (numB (cy l) && okP (numV (cx l)) (numV (cy l)))
def rpX (l : List UInt8) : Int := if rpB l = true then numV (cx l) else 0
def rpY (l : List UInt8) : Int := if rpB l = true then numV (cy l) else 0
theorem numV_bd (l : List UInt8) : -1000000000000000000 < numV l ∧ numV l < 1000000000000000000 := by
  unfold numV
  split
  · rename_i h
    unfold numB at h
    rw [Bool.and_eq_true, decide_eq_true_iff] at h
    have h4 := dv_lt h.2 (show 0 < 10 ^ 0 by decide)
    have h5 : 10 ^ (0 + (bodyOf l).length) ≤ 10 ^ 18 := Nat.pow_le_pow_right (by decide) (by have := h.1.2.1; omega)
    have h6 := Nat.lt_of_lt_of_le h4 h5
    have h7 : (10 : Nat) ^ 18 = 1000000000000000000 := by decide
    rw [h7] at h6
    split <;> omega
  · omega
theorem rp_no {l : List UInt8} (h : rpB l = false) : rpX l = 0 ∧ rpY l = 0 := ⟨if_neg (by rw [h]; decide), if_neg (by rw [h]; decide)⟩
theorem rp_yes {l : List UInt8} (h : rpB l = true) : rpX l = numV (cx l) ∧ rpY l = numV (cy l) := ⟨if_pos h, if_pos h⟩
theorem rpB_x {l : List UInt8} (h : numB (cx l) = false) : rpB l = false := by unfold rpB; rw [h]; rfl
theorem rpB_y {l : List UInt8} (h : numB (cy l) = false) : rpB l = false := by unfold rpB; rw [h]; simp
theorem rpB_k {l : List UInt8} (h : okP (numV (cx l)) (numV (cy l)) = false) : rpB l = false := by unfold rpB; rw [h]; simp
theorem rpB_t {l : List UInt8} (h1 : numB (cx l) = true) (h2 : numB (cy l) = true) (h3 : okP (numV (cx l)) (numV (cy l)) = true) : rpB l = true := by unfold rpB; rw [h1, h2, h3]; rfl
theorem numB_comma {l : List UInt8} (h : (44 : UInt8) ∈ l) : numB l = false := by
  have hb : (44 : UInt8) ∈ bodyOf l := by
    unfold bodyOf
    split
    · rename_i hn
      cases l with
      | nil => cases h
      | cons c r =>
        unfold negB at hn
        have hc : c = 45 := by simpa using of_decide_eq_true hn
        rcases List.mem_cons.1 h with k | k
        · rw [hc] at k; cases k
        · exact k
    · exact h
  refine numB_digits ?_
  cases e : (bodyOf l).all digB with
  | false => rfl
  | true => exact absurd (List.all_eq_true.1 e _ hb) (by decide)
theorem cut_no {l : List UInt8} (h : (44 : UInt8) ∉ l) : Lib.cut l [44] = (l, [], false) := by unfold Lib.cut; rw [index_one_no h]; rfl
theorem cut_at {a r : List UInt8} (h : (44 : UInt8) ∉ a) : Lib.cut (a ++ 44 :: r) [44] = (a, r, true) := by
  unfold Lib.cut
  rw [index_one_at h, if_pos (by omega)]
  simp
theorem rp_len {l : List UInt8} (h : (spl 44 l).length ≠ 2) : rpB l = false := by
  by_cases hm : (44 : UInt8) ∈ l
  · obtain ⟨a, r, rfl, ha⟩ := mem_cut hm
    have e2 : cy (a ++ 44 :: r) = r := by unfold cy; rw [cut_at ha]
    refine rpB_y ?_
    rw [e2]
    refine numB_comma ?_
    by_cases hr : (44 : UInt8) ∈ r
    · exact hr
    · rw [spl_at ha, spl_no hr] at h; simp at h
  · refine rpB_y ?_
    unfold cy
    rw [cut_no hm]
    rfl
theorem rp_two {l p q : List UInt8} (h : spl 44 l = [p, q]) : cx l = p ∧ cy l = q := by
  by_cases hm : (44 : UInt8) ∈ l
  · obtain ⟨a, r, rfl, ha⟩ := mem_cut hm
    rw [spl_at ha] at h
    injection h with h1 h2
    subst h1
    by_cases hr : (44 : UInt8) ∈ r
    · obtain ⟨a', r', rfl, ha'⟩ := mem_cut hr
      rw [spl_at ha'] at h2
      injection h2 with _ h3
      exact absurd h3 (spl_ne _ _)
    · rw [spl_no hr] at h2
      injection h2 with h3
      subst h3
      unfold cx cy
      rw [cut_at ha]
      exact ⟨rfl, rfl⟩
  · rw [spl_no hm] at h; simp at h
theorem len_two {α : Type} {l : List α} (h : l.length = 2) : ∃ p q, l = [p, q] := by
  match l, h with
  | [p, q], _ => exact ⟨p, q, rfl⟩
theorem splB_two {s p q : ByteArray} (h : splB 44 s = [p, q]) : spl 44 s.data.toList = [p.data.toList, q.data.toList] := by
  have e := congrArg (List.map fun x : ByteArray => x.data.toList) h
  unfold splB at e
  rw [List.map_map] at e
  have : ((fun x : ByteArray => x.data.toList) ∘ fun l : List UInt8 => (⟨l.toArray⟩ : ByteArray)) = id := by funext x; rfl
  rw [this, List.map_id] at e
  exact e
theorem splB_sz (c : UInt8) (s : ByteArray) : ∀ x ∈ splB c s, x.size ≤ s.size := by
  intro x hx
  unfold splB at hx
  obtain ⟨l, hl, rfl⟩ := List.mem_map.1 hx
  rw [size_lst, ← len_list]
  exact spl_piece c _ l hl
/-- a result's cells, freshly made: they read, and can be written -/
def CellR (w W : World) (a b : Value) : Prop := Below w.heap.size w W ∧ w.heap.size < W.heap.size ∧ W.cell? ⟨w.heap.size, 0, none⟩ = some a ∧ W.cell? ⟨w.heap.size, 1, none⟩ = some b ∧ W.frozen? ⟨w.heap.size, 0, none⟩ = false ∧ W.frozen? ⟨w.heap.size, 1, none⟩ = false
theorem cellR0 (w : World) (a b : Value) (t : Nat) : CellR w (w.alloc (.cells #[a, b] t)) a b := by
  refine ⟨by go_grown, by rw [World.size_alloc]; omega, ?_, ?_, ?_, ?_⟩ <;> go_simp
theorem cellR1 {w W w1 : World} {a b : Value} (h : CellR w W a b) (hb : Below W.heap.size W w1) : CellR w w1 a b := by
  obtain ⟨h1, h2, k0, k1, f0, f1⟩ := h
  have hz := hb.size
  refine ⟨below_next hb h1, by omega, ?_, ?_, ?_, ?_⟩
  · rw [hb.cell (p := ⟨w.heap.size, 0, none⟩) (by simp; omega)]; exact k0
  · rw [hb.cell (p := ⟨w.heap.size, 1, none⟩) (by simp; omega)]; exact k1
  · rw [hb.frozen (p := ⟨w.heap.size, 0, none⟩) (by simp; omega)]; exact f0
  · rw [hb.frozen (p := ⟨w.heap.size, 1, none⟩) (by simp; omega)]; exact f1
theorem cellR_set {w W : World} {a b : Value} (a' b' : Value) (h : CellR w W a b) : (W.setCell ⟨w.heap.size, 0, none⟩ a').cell? ⟨w.heap.size, 0, none⟩ = some a' ∧ ((W.setCell ⟨w.heap.size, 0, none⟩ a').setCell ⟨w.heap.size, 1, none⟩ b').cell? ⟨w.heap.size, 1, none⟩ = some b' ∧ Below w.heap.size w ((W.setCell ⟨w.heap.size, 0, none⟩ a').setCell ⟨w.heap.size, 1, none⟩ b') := by
  obtain ⟨h1, h2, k0, k1, f0, f1⟩ := h
  refine ⟨World.cell?_setCell_same _ _ _ k0, ?_, ?_⟩
  · exact World.cell?_setCell_same (u := b) _ _ _ (by rw [World.cell?_setCell_other _ _ _ _ (by simp)]; exact k1)
  · exact (h1.setCell (by simp) _).setCell (by simp) _
theorem retPt {a b a' b' : Int} {c c' : Bool} (h1 : a = a') (h2 : b = b') (h3 : c = c') : Ending.returned (.tuple #[.agg #[.int .i64 a, .int .i64 b], .bool c]) = .returned (.tuple #[.agg #[.int .i64 a', .int .i64 b'], .bool c']) := by rw [h1, h2, h3]
theorem l02ReadS (s : ByteArray) (hs : s.size ≤ 2097152) (w : World) :
    Calls Tryd.prog 63 #[.string s] w fun e w' => e = .returned (.tuple #[.agg #[.int .i64 (rpX s.data.toList), .int .i64 (rpY s.data.toList)], .bool (rpB s.data.toList)]) ∧ Below w.heap.size w w' := by
  by_cases h2 : (splB 44 s).length = 2
  · obtain ⟨p, q, hpq⟩ := len_two h2
    have hp : p.size ≤ s.size := splB_sz 44 s p (by rw [hpq]; simp)
    have hq : q.size ≤ s.size := splB_sz 44 s q (by rw [hpq]; simp)
    obtain ⟨X, Y⟩ := rp_two (splB_two hpq)
    have HPQ := hide hpq
    have lp : cx s.data.toList = p.data.toList := X
    have lq : cy s.data.toList = q.data.toList := Y
    obtain ⟨x, hx⟩ : ∃ x, numV p.data.toList = x := ⟨_, rfl⟩
    obtain ⟨y, hy⟩ : ∃ y, numV q.data.toList = y := ⟨_, rfl⟩
    have NX := hide hx
    have NY := hide hy
    have xr := numV_bd p.data.toList
    have yr := numV_bd q.data.toList
    rw [hx] at xr
    rw [hy] at yr
    cases hbx : numB p.data.toList
    · have hB : rpB s.data.toList = false := rpB_x (by rw [lp]; exact hbx)
      obtain ⟨hX, hY⟩ := rp_no hB
      have HB := hide hB
      have HX := hide hX
      have HY := hide hY
      obtain ⟨by', hby⟩ : ∃ b, numB q.data.toList = b := ⟨_, rfl⟩
      have BX := hide hbx
      have BY := hide hby
      clear hbx hby hx hy hB hX hY hpq X Y lp lq h2
      go_enter Tryd.func63, Tryd.ntmps63
      go_wp2_with fail
      refine (splitS 44 s hs _).mono ?_
      rintro e w1 ⟨g, cp, rfl, hg1, hg2, hg3, hg4, ha, hb1⟩
      have hR := cellR1 (cellR0 w _ _ _) hb1
      rw [HPQ.out] at ha hg3 ⊢
      have c0 : w1.cell? ⟨g, 0, none⟩ = some (.string p) := ha 0 (by simp)
      have c1 : w1.cell? ⟨g, 1, none⟩ = some (.string q) := ha 1 (by simp)
      clear ha hb1 hg1
      simp only [List.length_cons, List.length_nil] at hg3 ⊢
      go_wp2_with fail
      refine (l01NumberS p (by omega) w1).mono ?_
      rw [NX.out, BX.out]
      rintro e w' ⟨rfl, rfl⟩
      go_wp2_with fail
      refine (l01NumberS q (by omega) w1).mono ?_
      rw [NY.out, BY.out]
      rintro e w' ⟨rfl, rfl⟩
      have hK := kept0 w1 (.int .i64 x) (.int .i64 y) 30
      have hR2 := cellR1 hR ((Below.refl _ w1).alloc (Nat.le_refl _) (.cells #[.int .i64 x, .int .i64 y] 30))
      clear c0 c1 hR
      obtain ⟨r0, r1, hBe⟩ := cellR_set (.int .i64 0) (.int .i64 0) hR2
      obtain ⟨hB1, hz1, k0, k1, f0, f1⟩ := hR2
      clear hK
      go_wp2_with fail
      refine bodyPost_ret (by simp [results, Tryd.results63, go_sem, r0, r1]; try rfl) rfl ?_
      exact ⟨retPt HX.out.symm HY.out.symm HB.out.symm, hBe⟩
    · cases hby : numB q.data.toList
      · have hB : rpB s.data.toList = false := rpB_y (by rw [lq]; exact hby)
        obtain ⟨hX, hY⟩ := rp_no hB
        have HB := hide hB
        have HX := hide hX
        have HY := hide hY
        have BX := hide hbx
        have BY := hide hby
        clear hbx hby hx hy hB hX hY hpq X Y lp lq h2
        go_enter Tryd.func63, Tryd.ntmps63
        go_wp2_with fail
        refine (splitS 44 s hs _).mono ?_
        rintro e w1 ⟨g, cp, rfl, hg1, hg2, hg3, hg4, ha, hb1⟩
        have hR := cellR1 (cellR0 w _ _ _) hb1
        rw [HPQ.out] at ha hg3 ⊢
        have c0 : w1.cell? ⟨g, 0, none⟩ = some (.string p) := ha 0 (by simp)
        have c1 : w1.cell? ⟨g, 1, none⟩ = some (.string q) := ha 1 (by simp)
        clear ha hb1 hg1
        simp only [List.length_cons, List.length_nil] at hg3 ⊢
        go_wp2_with fail
        refine (l01NumberS p (by omega) w1).mono ?_
        rw [NX.out, BX.out]
        rintro e w' ⟨rfl, rfl⟩
        go_wp2_with fail
        refine (l01NumberS q (by omega) w1).mono ?_
        rw [NY.out, BY.out]
        rintro e w' ⟨rfl, rfl⟩
        have hK := kept0 w1 (.int .i64 x) (.int .i64 y) 30
        have hR2 := cellR1 hR ((Below.refl _ w1).alloc (Nat.le_refl _) (.cells #[.int .i64 x, .int .i64 y] 30))
        clear c0 c1 hR
        obtain ⟨r0, r1, hBe⟩ := cellR_set (.int .i64 0) (.int .i64 0) hR2
        obtain ⟨hB1, hz1, k0, k1, f0, f1⟩ := hR2
        clear hK
        go_wp2_with fail
        refine bodyPost_ret (by simp [results, Tryd.results63, go_sem, r0, r1]; try rfl) rfl ?_
        exact ⟨retPt HX.out.symm HY.out.symm HB.out.symm, hBe⟩
      · cases hk : okP x y
        · have hB : rpB s.data.toList = false := rpB_k (by rw [lp, lq, hx, hy]; exact hk)
          obtain ⟨hX, hY⟩ := rp_no hB
          have HB := hide hB
          have HX := hide hX
          have HY := hide hY
          have BX := hide hbx
          have BY := hide hby
          have OK := hide hk
          clear hbx hby hx hy hB hX hY hpq X Y lp lq h2 hk
          go_enter Tryd.func63, Tryd.ntmps63
          go_wp2_with fail
          refine (splitS 44 s hs _).mono ?_
          rintro e w1 ⟨g, cp, rfl, hg1, hg2, hg3, hg4, ha, hb1⟩
          have hR := cellR1 (cellR0 w _ _ _) hb1
          rw [HPQ.out] at ha hg3 ⊢
          have c0 : w1.cell? ⟨g, 0, none⟩ = some (.string p) := ha 0 (by simp)
          have c1 : w1.cell? ⟨g, 1, none⟩ = some (.string q) := ha 1 (by simp)
          clear ha hb1 hg1
          simp only [List.length_cons, List.length_nil] at hg3 ⊢
          go_wp2_with fail
          refine (l01NumberS p (by omega) w1).mono ?_
          rw [NX.out, BX.out]
          rintro e w' ⟨rfl, rfl⟩
          go_wp2_with fail
          refine (l01NumberS q (by omega) w1).mono ?_
          rw [NY.out, BY.out]
          rintro e w' ⟨rfl, rfl⟩
          have hK := kept0 w1 (.int .i64 x) (.int .i64 y) 30
          have hR2 := cellR1 hR ((Below.refl _ w1).alloc (Nat.le_refl _) (.cells #[.int .i64 x, .int .i64 y] 30))
          clear c0 c1 hR
          go_wp2_with fail
          refine (okS x y _).mono ?_
          rw [OK.out]
          rintro e w2 ⟨rfl, hb2⟩
          have hR3 := cellR1 hR2 hb2
          obtain ⟨-, -, q0, q1⟩ := kept1 hK hb2
          clear hR2 hK hb2
          obtain ⟨r0, r1, hBe⟩ := cellR_set (.int .i64 0) (.int .i64 0) hR3
          obtain ⟨hB1, hz1, k0, k1, f0, f1⟩ := hR3
          go_wp2_with fail
          refine bodyPost_ret (by simp [results, Tryd.results63, go_sem, r0, r1]; try rfl) rfl ?_
          exact ⟨retPt HX.out.symm HY.out.symm HB.out.symm, hBe⟩
        · have hB : rpB s.data.toList = true := rpB_t (by rw [lp]; exact hbx) (by rw [lq]; exact hby) (by rw [lp, lq, hx, hy]; exact hk)
          obtain ⟨hX, hY⟩ := rp_yes hB
          rw [lp, hx] at hX
          rw [lq, hy] at hY
          have HB := hide hB
          have HX := hide hX
          have HY := hide hY
          have BX := hide hbx
          have BY := hide hby
          have OK := hide hk
          clear hbx hby hx hy hB hX hY hpq X Y lp lq h2 hk
          go_enter Tryd.func63, Tryd.ntmps63
          go_wp2_with fail
          refine (splitS 44 s hs _).mono ?_
          rintro e w1 ⟨g, cp, rfl, hg1, hg2, hg3, hg4, ha, hb1⟩
          have hR := cellR1 (cellR0 w _ _ _) hb1
          rw [HPQ.out] at ha hg3 ⊢
          have c0 : w1.cell? ⟨g, 0, none⟩ = some (.string p) := ha 0 (by simp)
          have c1 : w1.cell? ⟨g, 1, none⟩ = some (.string q) := ha 1 (by simp)
          clear ha hb1 hg1
          simp only [List.length_cons, List.length_nil] at hg3 ⊢
          go_wp2_with fail
          refine (l01NumberS p (by omega) w1).mono ?_
          rw [NX.out, BX.out]
          rintro e w' ⟨rfl, rfl⟩
          go_wp2_with fail
          refine (l01NumberS q (by omega) w1).mono ?_
          rw [NY.out, BY.out]
          rintro e w' ⟨rfl, rfl⟩
          have hK := kept0 w1 (.int .i64 x) (.int .i64 y) 30
          have hR2 := cellR1 hR ((Below.refl _ w1).alloc (Nat.le_refl _) (.cells #[.int .i64 x, .int .i64 y] 30))
          clear c0 c1 hR
          go_wp2_with fail
          refine (okS x y _).mono ?_
          rw [OK.out]
          rintro e w2 ⟨rfl, hb2⟩
          have hR3 := cellR1 hR2 hb2
          obtain ⟨-, -, q0, q1⟩ := kept1 hK hb2
          clear hR2 hK hb2
          obtain ⟨r0, r1, hBe⟩ := cellR_set (.int .i64 x) (.int .i64 y) hR3
          obtain ⟨hB1, hz1, k0, k1, f0, f1⟩ := hR3
          go_wp2_with fail
          refine bodyPost_ret (by simp [results, Tryd.results63, go_sem, r0, r1]; try rfl) rfl ?_
          exact ⟨retPt HX.out.symm HY.out.symm HB.out.symm, hBe⟩
  · have hB : rpB s.data.toList = false := rp_len (by unfold splB at h2; rwa [List.length_map] at h2)
    obtain ⟨hX, hY⟩ := rp_no hB
    have HB := hide hB
    have HX := hide hX
    have HY := hide hY
    obtain ⟨m, hm⟩ : ∃ m, (splB 44 s).length = m := ⟨_, rfl⟩
    have e1 : ((m : Int) == 2) = false := beq_false_of_ne (by omega)
    have HM := hide hm
    clear hB hX hY hm h2
    go_enter Tryd.func63, Tryd.ntmps63
    go_wp2_with fail
    refine (splitS 44 s hs _).mono ?_
    rintro e w1 ⟨g, cp, rfl, hg1, hg2, hg3, hg4, ha, hb1⟩
    have HA := hide ha
    clear ha
    rw [HM.out]
    have hR := cellR1 (cellR0 w _ _ _) hb1
    obtain ⟨r0, r1, hBe⟩ := cellR_set (.int .i64 0) (.int .i64 0) hR
    obtain ⟨hB1, hz1, k0, k1, f0, f1⟩ := hR
    clear hb1
    go_wp2
    refine bodyPost_ret (by simp [results, Tryd.results63, go_sem, r0, r1]; try rfl) rfl ?_
    exact ⟨retPt HX.out.symm HY.out.symm HB.out.symm, hBe⟩
theorem rdPointS (s : ByteArray) (hs : s.size ≤ 2097152) (w : World) :
    Calls Tryd.prog 22 #[.string s] w fun e w' => e = .returned (.tuple #[.agg #[.int .i64 (rpX s.data.toList), .int .i64 (rpY s.data.toList)], .bool (rpB s.data.toList)]) ∧ Below w.heap.size w w' := by
  obtain ⟨x, hx⟩ : ∃ x, rpX s.data.toList = x := ⟨_, rfl⟩
  obtain ⟨y, hy⟩ : ∃ x, rpY s.data.toList = x := ⟨_, rfl⟩
  obtain ⟨b, hb⟩ : ∃ x, rpB s.data.toList = x := ⟨_, rfl⟩
  have C := l02ReadS s hs
  rw [hx, hy, hb] at C ⊢
  have HC := hide C
  clear C hx hy hb
  go_enter Tryd.func22, Tryd.ntmps22
  go_wp2_with fail
  refine (HC.out _).mono ?_
  rintro e w1 ⟨rfl, hb1⟩
  have hR := cellR1 (cellR0 w _ _ _) hb1
  obtain ⟨r0, r1, hBe⟩ := cellR_set (.int .i64 x) (.int .i64 y) hR
  obtain ⟨hB1, hz1, k0, k1, f0, f1⟩ := hR
  clear hb1
  go_wp2_with fail
  refine bodyPost_ret (by simp [results, Tryd.results22, go_sem, r0, r1]; try rfl) rfl ?_
  exact ⟨rfl, hBe⟩
theorem cut_sz (l sep : List UInt8) : (Lib.cut l sep).1.length ≤ l.length ∧ (Lib.cut l sep).2.1.length ≤ l.length := by
  unfold Lib.cut
  split
  · simp only [List.length_take, List.length_drop]; omega
  · simp
theorem rdPointI (s : ByteArray) (hs : s.size ≤ 2097152) (w : World) (hp : Pow w) (he : Errs w) (hm : Mx w) :
    Calls Tryd.prog 23 #[.string s] w fun e w' => e = .returned (.tuple #[.agg #[.int .i64 (rpX s.data.toList), .int .i64 (rpY s.data.toList)], .bool (rpB s.data.toList)]) ∧ Below w.heap.size w w' := by
  have HP := hide hp
  have HE := hide he
  have HM := hide hm
  clear hp he hm
  obtain ⟨p, ep⟩ : ∃ p : ByteArray, p = ⟨(Lib.cut s.data.toList [44]).1.toArray⟩ := ⟨_, rfl⟩
  obtain ⟨q, eq⟩ : ∃ q : ByteArray, q = ⟨(Lib.cut s.data.toList [44]).2.1.toArray⟩ := ⟨_, rfl⟩
  obtain ⟨bf, hbf⟩ : ∃ b, b = (Lib.cut s.data.toList [44]).2.2 := ⟨_, rfl⟩
  have lp : cx s.data.toList = p.data.toList := by rw [ep]; rfl
  have lq : cy s.data.toList = q.data.toList := by rw [eq]; rfl
  obtain ⟨zp, zq⟩ := cut_sz s.data.toList [44]
  rw [show (Lib.cut s.data.toList [44]).1 = p.data.toList from lp, len_list, len_list] at zp
  rw [show (Lib.cut s.data.toList [44]).2.1 = q.data.toList from lq, len_list, len_list] at zq
  have EP := hide ep
  have EQ := hide eq
  have EF := hide hbf
  clear ep eq hbf
  obtain ⟨x, hx⟩ : ∃ x, numV p.data.toList = x := ⟨_, rfl⟩
  obtain ⟨y, hy⟩ : ∃ y, numV q.data.toList = y := ⟨_, rfl⟩
  have NX := hide hx
  have NY := hide hy
  have xr := numV_bd p.data.toList
  have yr := numV_bd q.data.toList
  rw [hx] at xr
  rw [hy] at yr
  cases hbx : numB p.data.toList
  · have hB : rpB s.data.toList = false := rpB_x (by rw [lp]; exact hbx)
    obtain ⟨hX, hY⟩ := rp_no hB
    have HB := hide hB
    have HX := hide hX
    have HY := hide hY
    obtain ⟨by', hby⟩ : ∃ b, numB q.data.toList = b := ⟨_, rfl⟩
    have BX := hide hbx
    have BY := hide hby
    clear hbx hby hx hy hB hX hY lp lq
    go_enter Tryd.func23, Tryd.ntmps23
    go_wp2_with fail
    have h0 := cellR0 w (.int .i64 0) (.int .i64 0) 30
    refine (cutI s ⟨#[44]⟩ hs _ (HM.out.below h0.1)).mono ?_
    rintro e w1 ⟨rfl, hb1⟩
    rw [← EP.out, ← EQ.out, ← EF.out]
    have hR := cellR1 h0 hb1
    clear hb1 h0
    have HR := hide hR
    clear hR
    go_wp2_with fail
    refine (readI p (by omega) w1 (HP.out.below HR.out.1) (HE.out.below HR.out.1)).mono ?_
    rw [NX.out, BX.out]
    rintro e w2 ⟨rfl, hb2⟩
    have HR2 := hide (cellR1 HR.out hb2)
    clear hb2 HR
    go_wp2_with fail
    refine (readI q (by omega) w2 (HP.out.below HR2.out.1) (HE.out.below HR2.out.1)).mono ?_
    rw [NY.out, BY.out]
    rintro e w3 ⟨rfl, hb3⟩
    have hR := cellR1 HR2.out hb3
    have hK := kept0 w3 (.int .i64 x) (.int .i64 y) 30
    have hR2 := cellR1 hR ((Below.refl _ w3).alloc (Nat.le_refl _) (.cells #[.int .i64 x, .int .i64 y] 30))
    clear hb3 HR2 hR
    obtain ⟨r0, r1, hBe⟩ := cellR_set (.int .i64 0) (.int .i64 0) hR2
    obtain ⟨hB1, hz1, k0, k1, f0, f1⟩ := hR2
    clear hK
    go_wp2_with fail
    refine bodyPost_ret (by simp [results, Tryd.results23, go_sem, r0, r1]; try rfl) rfl ?_
    exact ⟨retPt HX.out.symm HY.out.symm HB.out.symm, hBe⟩
  · cases hby : numB q.data.toList
    · have hB : rpB s.data.toList = false := rpB_y (by rw [lq]; exact hby)
      obtain ⟨hX, hY⟩ := rp_no hB
      have HB := hide hB
      have HX := hide hX
      have HY := hide hY
      have BX := hide hbx
      have BY := hide hby
      clear hbx hby hx hy hB hX hY lp lq
      go_enter Tryd.func23, Tryd.ntmps23
      go_wp2_with fail
      have h0 := cellR0 w (.int .i64 0) (.int .i64 0) 30
      refine (cutI s ⟨#[44]⟩ hs _ (HM.out.below h0.1)).mono ?_
      rintro e w1 ⟨rfl, hb1⟩
      rw [← EP.out, ← EQ.out, ← EF.out]
      have hR := cellR1 h0 hb1
      clear hb1 h0
      have HR := hide hR
      clear hR
      go_wp2_with fail
      refine (readI p (by omega) w1 (HP.out.below HR.out.1) (HE.out.below HR.out.1)).mono ?_
      rw [NX.out, BX.out]
      rintro e w2 ⟨rfl, hb2⟩
      have HR2 := hide (cellR1 HR.out hb2)
      clear hb2 HR
      go_wp2_with fail
      refine (readI q (by omega) w2 (HP.out.below HR2.out.1) (HE.out.below HR2.out.1)).mono ?_
      rw [NY.out, BY.out]
      rintro e w3 ⟨rfl, hb3⟩
      have hR := cellR1 HR2.out hb3
      have hK := kept0 w3 (.int .i64 x) (.int .i64 y) 30
      have hR2 := cellR1 hR ((Below.refl _ w3).alloc (Nat.le_refl _) (.cells #[.int .i64 x, .int .i64 y] 30))
      clear hb3 HR2 hR
      obtain ⟨r0, r1, hBe⟩ := cellR_set (.int .i64 0) (.int .i64 0) hR2
      obtain ⟨hB1, hz1, k0, k1, f0, f1⟩ := hR2
      clear hK
      go_wp2_with fail
      refine bodyPost_ret (by simp [results, Tryd.results23, go_sem, r0, r1]; try rfl) rfl ?_
      exact ⟨retPt HX.out.symm HY.out.symm HB.out.symm, hBe⟩
    · cases hk : okP x y
      · have hB : rpB s.data.toList = false := rpB_k (by rw [lp, lq, hx, hy]; exact hk)
        obtain ⟨hX, hY⟩ := rp_no hB
        have HB := hide hB
        have HX := hide hX
        have HY := hide hY
        have BX := hide hbx
        have BY := hide hby
        have OK := hide hk
        clear hbx hby hx hy hB hX hY lp lq hk
        go_enter Tryd.func23, Tryd.ntmps23
        go_wp2_with fail
        have h0 := cellR0 w (.int .i64 0) (.int .i64 0) 30
        refine (cutI s ⟨#[44]⟩ hs _ (HM.out.below h0.1)).mono ?_
        rintro e w1 ⟨rfl, hb1⟩
        rw [← EP.out, ← EQ.out, ← EF.out]
        have hR := cellR1 h0 hb1
        clear hb1 h0
        have HR := hide hR
        clear hR
        go_wp2_with fail
        refine (readI p (by omega) w1 (HP.out.below HR.out.1) (HE.out.below HR.out.1)).mono ?_
        rw [NX.out, BX.out]
        rintro e w2 ⟨rfl, hb2⟩
        have HR2 := hide (cellR1 HR.out hb2)
        clear hb2 HR
        go_wp2_with fail
        refine (readI q (by omega) w2 (HP.out.below HR2.out.1) (HE.out.below HR2.out.1)).mono ?_
        rw [NY.out, BY.out]
        rintro e w3 ⟨rfl, hb3⟩
        have hR := cellR1 HR2.out hb3
        have hK := kept0 w3 (.int .i64 x) (.int .i64 y) 30
        have hR2 := cellR1 hR ((Below.refl _ w3).alloc (Nat.le_refl _) (.cells #[.int .i64 x, .int .i64 y] 30))
        clear hb3 HR2 hR
        go_wp2_with fail
        refine (okI x y _).mono ?_
        rw [OK.out]
        rintro e w4 ⟨rfl, hb4⟩
        have hR3 := cellR1 hR2 hb4
        obtain ⟨-, -, q0, q1⟩ := kept1 hK hb4
        clear hR2 hK hb4
        obtain ⟨r0, r1, hBe⟩ := cellR_set (.int .i64 0) (.int .i64 0) hR3
        obtain ⟨hB1, hz1, k0, k1, f0, f1⟩ := hR3
        go_wp2_with fail
        refine bodyPost_ret (by simp [results, Tryd.results23, go_sem, r0, r1]; try rfl) rfl ?_
        exact ⟨retPt HX.out.symm HY.out.symm HB.out.symm, hBe⟩
      · have hB : rpB s.data.toList = true := rpB_t (by rw [lp]; exact hbx) (by rw [lq]; exact hby) (by rw [lp, lq, hx, hy]; exact hk)
        obtain ⟨hX, hY⟩ := rp_yes hB
        rw [lp, hx] at hX
        rw [lq, hy] at hY
        have HB := hide hB
        have HX := hide hX
        have HY := hide hY
        have BX := hide hbx
        have BY := hide hby
        have OK := hide hk
        clear hbx hby hx hy hB hX hY lp lq hk
        go_enter Tryd.func23, Tryd.ntmps23
        go_wp2_with fail
        have h0 := cellR0 w (.int .i64 0) (.int .i64 0) 30
        refine (cutI s ⟨#[44]⟩ hs _ (HM.out.below h0.1)).mono ?_
        rintro e w1 ⟨rfl, hb1⟩
        rw [← EP.out, ← EQ.out, ← EF.out]
        have hR := cellR1 h0 hb1
        clear hb1 h0
        have HR := hide hR
        clear hR
        go_wp2_with fail
        refine (readI p (by omega) w1 (HP.out.below HR.out.1) (HE.out.below HR.out.1)).mono ?_
        rw [NX.out, BX.out]
        rintro e w2 ⟨rfl, hb2⟩
        have HR2 := hide (cellR1 HR.out hb2)
        clear hb2 HR
        go_wp2_with fail
        refine (readI q (by omega) w2 (HP.out.below HR2.out.1) (HE.out.below HR2.out.1)).mono ?_
        rw [NY.out, BY.out]
        rintro e w3 ⟨rfl, hb3⟩
        have hR := cellR1 HR2.out hb3
        have hK := kept0 w3 (.int .i64 x) (.int .i64 y) 30
        have hR2 := cellR1 hR ((Below.refl _ w3).alloc (Nat.le_refl _) (.cells #[.int .i64 x, .int .i64 y] 30))
        clear hb3 HR2 hR
        go_wp2_with fail
        refine (okI x y _).mono ?_
        rw [OK.out]
        rintro e w4 ⟨rfl, hb4⟩
        have hR3 := cellR1 hR2 hb4
        obtain ⟨-, -, q0, q1⟩ := kept1 hK hb4
        clear hR2 hK hb4
        obtain ⟨r0, r1, hBe⟩ := cellR_set (.int .i64 x) (.int .i64 y) hR3
        obtain ⟨hB1, hz1, k0, k1, f0, f1⟩ := hR3
        go_wp2_with fail
        refine bodyPost_ret (by simp [results, Tryd.results23, go_sem, r0, r1]; try rfl) rfl ?_
        exact ⟨retPt HX.out.symm HY.out.symm HB.out.symm, hBe⟩
theorem eqPt (x y : Int) (w : World) :
    Calls Tryd.prog 24 #[.agg #[.int .i64 x, .int .i64 y], .agg #[.int .i64 x, .int .i64 y]] w fun e w' => e = .returned (.bool true) ∧ Below w.heap.size w w' := by
  go_enter Tryd.func24, Tryd.ntmps24
  go_wp2
  go_ret
  exact ⟨rfl, by go_grown⟩
theorem fnExactReadPoint_walk (s : ByteArray) (hs : s.size ≤ maxLen) (w : World) (hp : Pow w) (he : Errs w) (hm : Mx w) :
    Calls Tryd.prog 6 #[.string s] w fun e w' => e = .returned (.bool true) ∧ Below w.heap.size w w' := by
  unfold maxLen at hs
  have HP := hide hp
  have HE := hide he
  have HM := hide hm
  clear hp he hm
  by_cases hl : s.size ≤ 1048576
  · obtain ⟨x, hx⟩ : ∃ x, rpX s.data.toList = x := ⟨_, rfl⟩
    obtain ⟨y, hy⟩ : ∃ x, rpY s.data.toList = x := ⟨_, rfl⟩
    obtain ⟨b, hb⟩ : ∃ x, rpB s.data.toList = x := ⟨_, rfl⟩
    have C := rdPointS s (by omega)
    have D := rdPointI s (by omega)
    rw [hx, hy, hb] at C D
    have HC := hide C
    have HD := hide D
    clear C D hx hy hb
    go_enter Tryd.func6, Tryd.ntmps6
    go_wp2_with fail
    refine (HC.out _).mono ?_
    rintro e w1 ⟨rfl, hb1⟩
    have hK := kept0 w1 (.int .i64 x) (.int .i64 y) 30
    have hB := below_next (w0 := w) hK.1 hb1
    go_wp2_with fail
    refine (HD.out _ (HP.out.below hB) (HE.out.below hB) (HM.out.below hB)).mono ?_
    rintro e w2 ⟨rfl, hb2⟩
    have hK1 := kept1 hK hb2
    have hB2 := below_next (w0 := w) hb2 hB
    clear hb1 hb2 hK hB
    obtain ⟨-, hz1, q0, q1⟩ := hK1
    have hB3 := below_next (w0 := w) (kept0 w2 (.int .i64 x) (.int .i64 y) 30).1 hB2
    go_wp2_with fail
    refine (eqPt x y _).mono ?_
    rintro e w3 ⟨rfl, hb3⟩
    have hB4 := below_next (w0 := w) hb3 hB3
    clear hB2 hB3 hb3 hz1 q0 q1
    go_wp2_with fail
    go_ret
    exact ⟨rfl, hB4⟩
  · go_enter Tryd.func6, Tryd.ntmps6
    go_wp2_with fail
    go_ret
    exact ⟨rfl, Below.refl _ _⟩
end Go.Proofs.YtphlbpailmdndaaDoor
