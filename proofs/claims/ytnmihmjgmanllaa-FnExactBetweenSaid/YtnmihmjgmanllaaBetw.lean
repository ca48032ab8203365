--%!
/- The walks of the law on points between two points that the seat has: it returns true. -/
import Derived.Test.YtnmihmjgmanllaaPts
namespace Go.Proofs.Ytnmihmjgmanllaa
open Go.ChangeShapes Go.WideShapes Go.ChangeAt Go.RowKit
set_option linter.unusedVariables false
set_option maxRecDepth 100000
set_option maxHeartbeats 2000000

/-- one coordinate of the point that divides a segment -/
def btw (p r j n : Int) : Int := p + dr (j * (r - p)) n
theorem btw_bd {p r j n : Int} (hp : 0 ≤ p ∧ p ≤ 200000) (hr : 0 ≤ r ∧ r ≤ 200000) (hj : 0 ≤ j ∧ j ≤ n) (hn : 1 ≤ n ∧ n ≤ 1000000) :
    (-200000 ≤ r - p ∧ r - p ≤ 200000) ∧ (-200000000000 ≤ j * (r - p) ∧ j * (r - p) ≤ 200000000000) ∧ -200000 ≤ dr (j * (r - p)) n ∧ dr (j * (r - p)) n ≤ 200000 := by
  have e := mul_bd (a := r - p) (b := j) (A := 200000) (B := n) (by omega) (by omega) (by omega) (by omega) (by omega)
  rw [Int.mul_comm (r - p) j] at e
  exact ⟨by omega, by omega, dr_bd _ _ _ (by omega) (by omega) (by omega)⟩
def swapP (a b c d : Int) : Prop := c < a ∨ (a = c ∧ d < b)
theorem betwS_gt (a b c d i n : Int) (h : okP a b = true) (k : okP c d = true) (n0 : 1 ≤ n) (n1 : n ≤ 1000000) (i0 : 0 ≤ i) (i1 : i ≤ n) (q0 : c < a) (w : World) :
    Calls Try.prog 50 #[.agg #[.int .i64 a, .int .i64 b], .agg #[.int .i64 c, .int .i64 d], .int .i64 i, .int .i64 n] w fun e w' => e = .returned (.agg #[.int .i64 (btw c a (n - i) n), .int .i64 (btw d b (n - i) n)]) ∧ Below w.heap.size w w' := by
  obtain ⟨x0, x1, x2, x3⟩ := okP_bd h
  obtain ⟨y0, y1, y2, y3⟩ := okP_bd k
  obtain ⟨⟨p1, p2⟩, ⟨p3, p4⟩, p5, p6⟩ := btw_bd (p := c) (r := a) (j := (n - i)) (n := n) (by omega) (by omega) (by omega) (by omega)
  obtain ⟨⟨s1, s2⟩, ⟨s3, s4⟩, s5, s6⟩ := btw_bd (p := d) (r := b) (j := (n - i)) (n := n) (by omega) (by omega) (by omega) (by omega)
  have e1 : IntKind.i64.wrap (a - c) = a - c := IntWalk.i64_in _ (by omega)
  have e2 : IntKind.i64.wrap (b - d) = b - d := IntWalk.i64_in _ (by omega)
  have e3 : IntKind.i64.wrap ((n - i) * (a - c)) = (n - i) * (a - c) := IntWalk.i64_in _ (by omega)
  have e4 : IntKind.i64.wrap ((n - i) * (b - d)) = (n - i) * (b - d) := IntWalk.i64_in _ (by omega)
  have e5 : IntKind.i64.wrap (c + dr ((n - i) * (a - c)) n) = c + dr ((n - i) * (a - c)) n := IntWalk.i64_in _ (by omega)
  have e6 : IntKind.i64.wrap (d + dr ((n - i) * (b - d)) n) = d + dr ((n - i) * (b - d)) n := IntWalk.i64_in _ (by omega)
  have g0 : decide (c < a) = true := by simp; omega
  go_enter Try.func50, Try.ntmps50
  go_wp2_with fail
  go_region_held3 (fun w' => Below w.heap.size w w' ∧ w.heap.size + 1 + 1 < w'.heap.size ∧ w'.cell? ⟨w.heap.size, 0, none⟩ = some (.int .i64 c) ∧ w'.cell? ⟨w.heap.size, 1, none⟩ = some (.int .i64 d) ∧ w'.cell? ⟨w.heap.size + 1, 0, none⟩ = some (.int .i64 a) ∧ w'.cell? ⟨w.heap.size + 1, 1, none⟩ = some (.int .i64 b) ∧ w'.cell? ⟨w.heap.size + 1 + 1, 0, none⟩ = some (.int .i64 (cellInt w' ⟨w.heap.size + 1 + 1, 0, none⟩)) ∧ w'.cell? ⟨w.heap.size + 1 + 1, 1, none⟩ = some (.int .i64 (cellInt w' ⟨w.heap.size + 1 + 1, 1, none⟩)) ∧ w'.frozen? ⟨w.heap.size + 1 + 1, 0, none⟩ = false ∧ w'.frozen? ⟨w.heap.size + 1 + 1, 1, none⟩ = false) (first | exact heldRD2 (by assumption) | exact heldR2 (by assumption) (by assumption) | exact heldRS21 (heldRS20 (by assumption)) | (refine ⟨?_, ?_, ?_, ?_, ?_, ?_, ?_, ?_, ?_, ?_⟩ <;> first | (go_simp; done) | (simp; done) | (refine int_of_cell (n := 0) ?_; go_simp; done) | (refine int_of_cell (n := c + dr ((n - i) * (a - c)) n) ?_; go_simp; done) | (refine int_of_cell (n := d + dr ((n - i) * (b - d)) n) ?_; go_simp; done) | (go_grown; done)) | go_keep) ((go_at_call 71; refine (divS _ _ (by omega) (by omega) (by omega) (by omega) (by omega) _).mono ?_; rintro e w' ⟨rfl, rfl⟩))
  clear e1 e2 e3 e4 e5 e6
  have hH := And.intro (by assumption : Below w.heap.size w _ ∧ _) trivial
  obtain ⟨⟨hB, hz, k0, k1, k2, k3, r0, r1', f0, f1⟩, -⟩ := hH
  clear r0 r1'
  go_wp2
  go_returns
  exact ⟨rfl, hB⟩
theorem betwS_eqgt (a b c d i n : Int) (h : okP a b = true) (k : okP c d = true) (n0 : 1 ≤ n) (n1 : n ≤ 1000000) (i0 : 0 ≤ i) (i1 : i ≤ n) (q0 : a = c) (q1 : d < b) (w : World) :
    Calls Try.prog 50 #[.agg #[.int .i64 a, .int .i64 b], .agg #[.int .i64 c, .int .i64 d], .int .i64 i, .int .i64 n] w fun e w' => e = .returned (.agg #[.int .i64 (btw c a (n - i) n), .int .i64 (btw d b (n - i) n)]) ∧ Below w.heap.size w w' := by
  obtain ⟨x0, x1, x2, x3⟩ := okP_bd h
  obtain ⟨y0, y1, y2, y3⟩ := okP_bd k
  obtain ⟨⟨p1, p2⟩, ⟨p3, p4⟩, p5, p6⟩ := btw_bd (p := c) (r := a) (j := (n - i)) (n := n) (by omega) (by omega) (by omega) (by omega)
  obtain ⟨⟨s1, s2⟩, ⟨s3, s4⟩, s5, s6⟩ := btw_bd (p := d) (r := b) (j := (n - i)) (n := n) (by omega) (by omega) (by omega) (by omega)
  have e1 : IntKind.i64.wrap (a - c) = a - c := IntWalk.i64_in _ (by omega)
  have e2 : IntKind.i64.wrap (b - d) = b - d := IntWalk.i64_in _ (by omega)
  have e3 : IntKind.i64.wrap ((n - i) * (a - c)) = (n - i) * (a - c) := IntWalk.i64_in _ (by omega)
  have e4 : IntKind.i64.wrap ((n - i) * (b - d)) = (n - i) * (b - d) := IntWalk.i64_in _ (by omega)
  have e5 : IntKind.i64.wrap (c + dr ((n - i) * (a - c)) n) = c + dr ((n - i) * (a - c)) n := IntWalk.i64_in _ (by omega)
  have e6 : IntKind.i64.wrap (d + dr ((n - i) * (b - d)) n) = d + dr ((n - i) * (b - d)) n := IntWalk.i64_in _ (by omega)
  have g0 : decide (c < a) = false := by simp; omega
  have g1 : (a == c) = true := by simp; omega
  have g2 : decide (d < b) = true := by simp; omega
  clear q0
  go_enter Try.func50, Try.ntmps50
  go_wp2_with fail
  go_region_held3 (fun w' => Below w.heap.size w w' ∧ w.heap.size + 1 + 1 < w'.heap.size ∧ w'.cell? ⟨w.heap.size, 0, none⟩ = some (.int .i64 c) ∧ w'.cell? ⟨w.heap.size, 1, none⟩ = some (.int .i64 d) ∧ w'.cell? ⟨w.heap.size + 1, 0, none⟩ = some (.int .i64 a) ∧ w'.cell? ⟨w.heap.size + 1, 1, none⟩ = some (.int .i64 b) ∧ w'.cell? ⟨w.heap.size + 1 + 1, 0, none⟩ = some (.int .i64 (cellInt w' ⟨w.heap.size + 1 + 1, 0, none⟩)) ∧ w'.cell? ⟨w.heap.size + 1 + 1, 1, none⟩ = some (.int .i64 (cellInt w' ⟨w.heap.size + 1 + 1, 1, none⟩)) ∧ w'.frozen? ⟨w.heap.size + 1 + 1, 0, none⟩ = false ∧ w'.frozen? ⟨w.heap.size + 1 + 1, 1, none⟩ = false) (first | exact heldRD2 (by assumption) | exact heldR2 (by assumption) (by assumption) | exact heldRS21 (heldRS20 (by assumption)) | (refine ⟨?_, ?_, ?_, ?_, ?_, ?_, ?_, ?_, ?_, ?_⟩ <;> first | (go_simp; done) | (simp; done) | (refine int_of_cell (n := 0) ?_; go_simp; done) | (refine int_of_cell (n := c + dr ((n - i) * (a - c)) n) ?_; go_simp; done) | (refine int_of_cell (n := d + dr ((n - i) * (b - d)) n) ?_; go_simp; done) | (go_grown; done)) | go_keep) ((go_at_call 71; refine (divS _ _ (by omega) (by omega) (by omega) (by omega) (by omega) _).mono ?_; rintro e w' ⟨rfl, rfl⟩))
  clear e1 e2 e3 e4 e5 e6
  have hH := And.intro (by assumption : Below w.heap.size w _ ∧ _) trivial
  obtain ⟨⟨hB, hz, k0, k1, k2, k3, r0, r1', f0, f1⟩, -⟩ := hH
  clear r0 r1'
  go_wp2
  go_returns
  exact ⟨rfl, hB⟩
theorem betwS_eqle (a b c d i n : Int) (h : okP a b = true) (k : okP c d = true) (n0 : 1 ≤ n) (n1 : n ≤ 1000000) (i0 : 0 ≤ i) (i1 : i ≤ n) (q0 : a = c) (q1 : ¬ d < b) (w : World) :
    Calls Try.prog 50 #[.agg #[.int .i64 a, .int .i64 b], .agg #[.int .i64 c, .int .i64 d], .int .i64 i, .int .i64 n] w fun e w' => e = .returned (.agg #[.int .i64 (btw a c i n), .int .i64 (btw b d i n)]) ∧ Below w.heap.size w w' := by
  obtain ⟨x0, x1, x2, x3⟩ := okP_bd h
  obtain ⟨y0, y1, y2, y3⟩ := okP_bd k
  obtain ⟨⟨p1, p2⟩, ⟨p3, p4⟩, p5, p6⟩ := btw_bd (p := a) (r := c) (j := i) (n := n) (by omega) (by omega) (by omega) (by omega)
  obtain ⟨⟨s1, s2⟩, ⟨s3, s4⟩, s5, s6⟩ := btw_bd (p := b) (r := d) (j := i) (n := n) (by omega) (by omega) (by omega) (by omega)
  have e1 : IntKind.i64.wrap (c - a) = c - a := IntWalk.i64_in _ (by omega)
  have e2 : IntKind.i64.wrap (d - b) = d - b := IntWalk.i64_in _ (by omega)
  have e3 : IntKind.i64.wrap (i * (c - a)) = i * (c - a) := IntWalk.i64_in _ (by omega)
  have e4 : IntKind.i64.wrap (i * (d - b)) = i * (d - b) := IntWalk.i64_in _ (by omega)
  have e5 : IntKind.i64.wrap (a + dr (i * (c - a)) n) = a + dr (i * (c - a)) n := IntWalk.i64_in _ (by omega)
  have e6 : IntKind.i64.wrap (b + dr (i * (d - b)) n) = b + dr (i * (d - b)) n := IntWalk.i64_in _ (by omega)
  have g0 : decide (c < a) = false := by simp; omega
  have g1 : (a == c) = true := by simp; omega
  have g2 : decide (d < b) = false := by simp; omega
  clear q0
  go_enter Try.func50, Try.ntmps50
  go_wp2_with fail
  go_region_held3 (fun w' => Below w.heap.size w w' ∧ w.heap.size + 1 + 1 < w'.heap.size ∧ w'.cell? ⟨w.heap.size, 0, none⟩ = some (.int .i64 a) ∧ w'.cell? ⟨w.heap.size, 1, none⟩ = some (.int .i64 b) ∧ w'.cell? ⟨w.heap.size + 1, 0, none⟩ = some (.int .i64 c) ∧ w'.cell? ⟨w.heap.size + 1, 1, none⟩ = some (.int .i64 d) ∧ w'.cell? ⟨w.heap.size + 1 + 1, 0, none⟩ = some (.int .i64 (cellInt w' ⟨w.heap.size + 1 + 1, 0, none⟩)) ∧ w'.cell? ⟨w.heap.size + 1 + 1, 1, none⟩ = some (.int .i64 (cellInt w' ⟨w.heap.size + 1 + 1, 1, none⟩)) ∧ w'.frozen? ⟨w.heap.size + 1 + 1, 0, none⟩ = false ∧ w'.frozen? ⟨w.heap.size + 1 + 1, 1, none⟩ = false) (first | exact heldRD2 (by assumption) | exact heldR2 (by assumption) (by assumption) | exact heldRS21 (heldRS20 (by assumption)) | (refine ⟨?_, ?_, ?_, ?_, ?_, ?_, ?_, ?_, ?_, ?_⟩ <;> first | (go_simp; done) | (simp; done) | (refine int_of_cell (n := 0) ?_; go_simp; done) | (refine int_of_cell (n := a + dr (i * (c - a)) n) ?_; go_simp; done) | (refine int_of_cell (n := b + dr (i * (d - b)) n) ?_; go_simp; done) | (go_grown; done)) | go_keep) ((go_at_call 71; refine (divS _ _ (by omega) (by omega) (by omega) (by omega) (by omega) _).mono ?_; rintro e w' ⟨rfl, rfl⟩))
  clear e1 e2 e3 e4 e5 e6
  have hH := And.intro (by assumption : Below w.heap.size w _ ∧ _) trivial
  obtain ⟨⟨hB, hz, k0, k1, k2, k3, r0, r1', f0, f1⟩, -⟩ := hH
  clear r0 r1'
  go_wp2
  go_returns
  exact ⟨rfl, hB⟩
theorem betwS_lt (a b c d i n : Int) (h : okP a b = true) (k : okP c d = true) (n0 : 1 ≤ n) (n1 : n ≤ 1000000) (i0 : 0 ≤ i) (i1 : i ≤ n) (q0 : a < c) (w : World) :
    Calls Try.prog 50 #[.agg #[.int .i64 a, .int .i64 b], .agg #[.int .i64 c, .int .i64 d], .int .i64 i, .int .i64 n] w fun e w' => e = .returned (.agg #[.int .i64 (btw a c i n), .int .i64 (btw b d i n)]) ∧ Below w.heap.size w w' := by
  obtain ⟨x0, x1, x2, x3⟩ := okP_bd h
  obtain ⟨y0, y1, y2, y3⟩ := okP_bd k
  obtain ⟨⟨p1, p2⟩, ⟨p3, p4⟩, p5, p6⟩ := btw_bd (p := a) (r := c) (j := i) (n := n) (by omega) (by omega) (by omega) (by omega)
  obtain ⟨⟨s1, s2⟩, ⟨s3, s4⟩, s5, s6⟩ := btw_bd (p := b) (r := d) (j := i) (n := n) (by omega) (by omega) (by omega) (by omega)
  have e1 : IntKind.i64.wrap (c - a) = c - a := IntWalk.i64_in _ (by omega)
  have e2 : IntKind.i64.wrap (d - b) = d - b := IntWalk.i64_in _ (by omega)
  have e3 : IntKind.i64.wrap (i * (c - a)) = i * (c - a) := IntWalk.i64_in _ (by omega)
  have e4 : IntKind.i64.wrap (i * (d - b)) = i * (d - b) := IntWalk.i64_in _ (by omega)
  have e5 : IntKind.i64.wrap (a + dr (i * (c - a)) n) = a + dr (i * (c - a)) n := IntWalk.i64_in _ (by omega)
  have e6 : IntKind.i64.wrap (b + dr (i * (d - b)) n) = b + dr (i * (d - b)) n := IntWalk.i64_in _ (by omega)
  have g0 : decide (c < a) = false := by simp; omega
  have g1 : (a == c) = false := by simp; omega
  go_enter Try.func50, Try.ntmps50
  go_wp2_with fail
  go_region_held3 (fun w' => Below w.heap.size w w' ∧ w.heap.size + 1 + 1 < w'.heap.size ∧ w'.cell? ⟨w.heap.size, 0, none⟩ = some (.int .i64 a) ∧ w'.cell? ⟨w.heap.size, 1, none⟩ = some (.int .i64 b) ∧ w'.cell? ⟨w.heap.size + 1, 0, none⟩ = some (.int .i64 c) ∧ w'.cell? ⟨w.heap.size + 1, 1, none⟩ = some (.int .i64 d) ∧ w'.cell? ⟨w.heap.size + 1 + 1, 0, none⟩ = some (.int .i64 (cellInt w' ⟨w.heap.size + 1 + 1, 0, none⟩)) ∧ w'.cell? ⟨w.heap.size + 1 + 1, 1, none⟩ = some (.int .i64 (cellInt w' ⟨w.heap.size + 1 + 1, 1, none⟩)) ∧ w'.frozen? ⟨w.heap.size + 1 + 1, 0, none⟩ = false ∧ w'.frozen? ⟨w.heap.size + 1 + 1, 1, none⟩ = false) (first | exact heldRD2 (by assumption) | exact heldR2 (by assumption) (by assumption) | exact heldRS21 (heldRS20 (by assumption)) | (refine ⟨?_, ?_, ?_, ?_, ?_, ?_, ?_, ?_, ?_, ?_⟩ <;> first | (go_simp; done) | (simp; done) | (refine int_of_cell (n := 0) ?_; go_simp; done) | (refine int_of_cell (n := a + dr (i * (c - a)) n) ?_; go_simp; done) | (refine int_of_cell (n := b + dr (i * (d - b)) n) ?_; go_simp; done) | (go_grown; done)) | go_keep) ((go_at_call 71; refine (divS _ _ (by omega) (by omega) (by omega) (by omega) (by omega) _).mono ?_; rintro e w' ⟨rfl, rfl⟩))
  clear e1 e2 e3 e4 e5 e6
  have hH := And.intro (by assumption : Below w.heap.size w _ ∧ _) trivial
  obtain ⟨⟨hB, hz, k0, k1, k2, k3, r0, r1', f0, f1⟩, -⟩ := hH
  clear r0 r1'
  go_wp2
  go_returns
  exact ⟨rfl, hB⟩
theorem betwI_gt (a b c d i n : Int) (h : okP a b = true) (k : okP c d = true) (n0 : 1 ≤ n) (n1 : n ≤ 1000000) (i0 : 0 ≤ i) (i1 : i ≤ n) (q0 : c < a) (w : World) :
    Calls Try.prog 52 #[.agg #[.int .i64 a, .int .i64 b], .agg #[.int .i64 c, .int .i64 d], .int .i64 i, .int .i64 n] w fun e w' => e = .returned (.agg #[.int .i64 (btw c a (n - i) n), .int .i64 (btw d b (n - i) n)]) ∧ Below w.heap.size w w' := by
  obtain ⟨x0, x1, x2, x3⟩ := okP_bd h
  obtain ⟨y0, y1, y2, y3⟩ := okP_bd k
  obtain ⟨⟨p1, p2⟩, ⟨p3, p4⟩, p5, p6⟩ := btw_bd (p := c) (r := a) (j := (n - i)) (n := n) (by omega) (by omega) (by omega) (by omega)
  obtain ⟨⟨s1, s2⟩, ⟨s3, s4⟩, s5, s6⟩ := btw_bd (p := d) (r := b) (j := (n - i)) (n := n) (by omega) (by omega) (by omega) (by omega)
  have e1 : IntKind.i64.wrap (a - c) = a - c := IntWalk.i64_in _ (by omega)
  have e2 : IntKind.i64.wrap (b - d) = b - d := IntWalk.i64_in _ (by omega)
  have e3 : IntKind.i64.wrap ((n - i) * (a - c)) = (n - i) * (a - c) := IntWalk.i64_in _ (by omega)
  have e4 : IntKind.i64.wrap ((n - i) * (b - d)) = (n - i) * (b - d) := IntWalk.i64_in _ (by omega)
  have e5 : IntKind.i64.wrap (c + dr ((n - i) * (a - c)) n) = c + dr ((n - i) * (a - c)) n := IntWalk.i64_in _ (by omega)
  have e6 : IntKind.i64.wrap (d + dr ((n - i) * (b - d)) n) = d + dr ((n - i) * (b - d)) n := IntWalk.i64_in _ (by omega)
  have g0 : decide (c < a) = true := by simp; omega
  go_enter Try.func52, Try.ntmps52
  go_wp2_with fail
  go_region_held3 (fun w' => Below w.heap.size w w' ∧ w.heap.size + 1 + 1 < w'.heap.size ∧ w'.cell? ⟨w.heap.size, 0, none⟩ = some (.int .i64 c) ∧ w'.cell? ⟨w.heap.size, 1, none⟩ = some (.int .i64 d) ∧ w'.cell? ⟨w.heap.size + 1, 0, none⟩ = some (.int .i64 a) ∧ w'.cell? ⟨w.heap.size + 1, 1, none⟩ = some (.int .i64 b) ∧ w'.cell? ⟨w.heap.size + 1 + 1, 0, none⟩ = some (.int .i64 (cellInt w' ⟨w.heap.size + 1 + 1, 0, none⟩)) ∧ w'.cell? ⟨w.heap.size + 1 + 1, 1, none⟩ = some (.int .i64 (cellInt w' ⟨w.heap.size + 1 + 1, 1, none⟩)) ∧ w'.frozen? ⟨w.heap.size + 1 + 1, 0, none⟩ = false ∧ w'.frozen? ⟨w.heap.size + 1 + 1, 1, none⟩ = false) (first | exact heldRD2 (by assumption) | exact heldR2 (by assumption) (by assumption) | exact heldRS21 (heldRS20 (by assumption)) | (refine ⟨?_, ?_, ?_, ?_, ?_, ?_, ?_, ?_, ?_, ?_⟩ <;> first | (go_simp; done) | (simp; done) | (refine int_of_cell (n := 0) ?_; go_simp; done) | (refine int_of_cell (n := c + dr ((n - i) * (a - c)) n) ?_; go_simp; done) | (refine int_of_cell (n := d + dr ((n - i) * (b - d)) n) ?_; go_simp; done) | (go_grown; done)) | go_keep) ((go_at_call 65; refine (divI _ _ (by omega) (by omega) (by omega) (by omega) (by omega) _).mono ?_; rintro e w' ⟨rfl, rfl⟩))
  clear e1 e2 e3 e4 e5 e6
  have hH := And.intro (by assumption : Below w.heap.size w _ ∧ _) trivial
  obtain ⟨⟨hB, hz, k0, k1, k2, k3, r0, r1', f0, f1⟩, -⟩ := hH
  clear r0 r1'
  go_wp2
  go_returns
  exact ⟨rfl, hB⟩
theorem betwI_eqgt (a b c d i n : Int) (h : okP a b = true) (k : okP c d = true) (n0 : 1 ≤ n) (n1 : n ≤ 1000000) (i0 : 0 ≤ i) (i1 : i ≤ n) (q0 : a = c) (q1 : d < b) (w : World) :
    Calls Try.prog 52 #[.agg #[.int .i64 a, .int .i64 b], .agg #[.int .i64 c, .int .i64 d], .int .i64 i, .int .i64 n] w fun e w' => e = .returned (.agg #[.int .i64 (btw c a (n - i) n), .int .i64 (btw d b (n - i) n)]) ∧ Below w.heap.size w w' := by
  obtain ⟨x0, x1, x2, x3⟩ := okP_bd h
  obtain ⟨y0, y1, y2, y3⟩ := okP_bd k
  obtain ⟨⟨p1, p2⟩, ⟨p3, p4⟩, p5, p6⟩ := btw_bd (p := c) (r := a) (j := (n - i)) (n := n) (by omega) (by omega) (by omega) (by omega)
  obtain ⟨⟨s1, s2⟩, ⟨s3, s4⟩, s5, s6⟩ := btw_bd (p := d) (r := b) (j := (n - i)) (n := n) (by omega) (by omega) (by omega) (by omega)
  have e1 : IntKind.i64.wrap (a - c) = a - c := IntWalk.i64_in _ (by omega)
  have e2 : IntKind.i64.wrap (b - d) = b - d := IntWalk.i64_in _ (by omega)
  have e3 : IntKind.i64.wrap ((n - i) * (a - c)) = (n - i) * (a - c) := IntWalk.i64_in _ (by omega)
  have e4 : IntKind.i64.wrap ((n - i) * (b - d)) = (n - i) * (b - d) := IntWalk.i64_in _ (by omega)
  have e5 : IntKind.i64.wrap (c + dr ((n - i) * (a - c)) n) = c + dr ((n - i) * (a - c)) n := IntWalk.i64_in _ (by omega)
  have e6 : IntKind.i64.wrap (d + dr ((n - i) * (b - d)) n) = d + dr ((n - i) * (b - d)) n := IntWalk.i64_in _ (by omega)
  have g0 : decide (c < a) = false := by simp; omega
  have g1 : (a == c) = true := by simp; omega
  have g2 : decide (d < b) = true := by simp; omega
  clear q0
  go_enter Try.func52, Try.ntmps52
  go_wp2_with fail
  go_region_held3 (fun w' => Below w.heap.size w w' ∧ w.heap.size + 1 + 1 < w'.heap.size ∧ w'.cell? ⟨w.heap.size, 0, none⟩ = some (.int .i64 c) ∧ w'.cell? ⟨w.heap.size, 1, none⟩ = some (.int .i64 d) ∧ w'.cell? ⟨w.heap.size + 1, 0, none⟩ = some (.int .i64 a) ∧ w'.cell? ⟨w.heap.size + 1, 1, none⟩ = some (.int .i64 b) ∧ w'.cell? ⟨w.heap.size + 1 + 1, 0, none⟩ = some (.int .i64 (cellInt w' ⟨w.heap.size + 1 + 1, 0, none⟩)) ∧ w'.cell? ⟨w.heap.size + 1 + 1, 1, none⟩ = some (.int .i64 (cellInt w' ⟨w.heap.size + 1 + 1, 1, none⟩)) ∧ w'.frozen? ⟨w.heap.size + 1 + 1, 0, none⟩ = false ∧ w'.frozen? ⟨w.heap.size + 1 + 1, 1, none⟩ = false) (first | exact heldRD2 (by assumption) | exact heldR2 (by assumption) (by assumption) | exact heldRS21 (heldRS20 (by assumption)) | (refine ⟨?_, ?_, ?_, ?_, ?_, ?_, ?_, ?_, ?_, ?_⟩ <;> first | (go_simp; done) | (simp; done) | (refine int_of_cell (n := 0) ?_; go_simp; done) | (refine int_of_cell (n := c + dr ((n - i) * (a - c)) n) ?_; go_simp; done) | (refine int_of_cell (n := d + dr ((n - i) * (b - d)) n) ?_; go_simp; done) | (go_grown; done)) | go_keep) ((go_at_call 65; refine (divI _ _ (by omega) (by omega) (by omega) (by omega) (by omega) _).mono ?_; rintro e w' ⟨rfl, rfl⟩))
  clear e1 e2 e3 e4 e5 e6
  have hH := And.intro (by assumption : Below w.heap.size w _ ∧ _) trivial
  obtain ⟨⟨hB, hz, k0, k1, k2, k3, r0, r1', f0, f1⟩, -⟩ := hH
  clear r0 r1'
  go_wp2
  go_returns
  exact ⟨rfl, hB⟩
theorem betwI_eqle (a b c d i n : Int) (h : okP a b = true) (k : okP c d = true) (n0 : 1 ≤ n) (n1 : n ≤ 1000000) (i0 : 0 ≤ i) (i1 : i ≤ n) (q0 : a = c) (q1 : ¬ d < b) (w : World) :
    Calls Try.prog 52 #[.agg #[.int .i64 a, .int .i64 b], .agg #[.int .i64 c, .int .i64 d], .int .i64 i, .int .i64 n] w fun e w' => e = .returned (.agg #[.int .i64 (btw a c i n), .int .i64 (btw b d i n)]) ∧ Below w.heap.size w w' := by
  obtain ⟨x0, x1, x2, x3⟩ := okP_bd h
  obtain ⟨y0, y1, y2, y3⟩ := okP_bd k
  obtain ⟨⟨p1, p2⟩, ⟨p3, p4⟩, p5, p6⟩ := btw_bd (p := a) (r := c) (j := i) (n := n) (by omega) (by omega) (by omega) (by omega)
  obtain ⟨⟨s1, s2⟩, ⟨s3, s4⟩, s5, s6⟩ := btw_bd (p := b) (r := d) (j := i) (n := n) (by omega) (by omega) (by omega) (by omega)
  have e1 : IntKind.i64.wrap (c - a) = c - a := IntWalk.i64_in _ (by omega)
  have e2 : IntKind.i64.wrap (d - b) = d - b := IntWalk.i64_in _ (by omega)
  have e3 : IntKind.i64.wrap (i * (c - a)) = i * (c - a) := IntWalk.i64_in _ (by omega)
  have e4 : IntKind.i64.wrap (i * (d - b)) = i * (d - b) := IntWalk.i64_in _ (by omega)
  have e5 : IntKind.i64.wrap (a + dr (i * (c - a)) n) = a + dr (i * (c - a)) n := IntWalk.i64_in _ (by omega)
  have e6 : IntKind.i64.wrap (b + dr (i * (d - b)) n) = b + dr (i * (d - b)) n := IntWalk.i64_in _ (by omega)
  have g0 : decide (c < a) = false := by simp; omega
  have g1 : (a == c) = true := by simp; omega
  have g2 : decide (d < b) = false := by simp; omega
  clear q0
  go_enter Try.func52, Try.ntmps52
  go_wp2_with fail
  go_region_held3 (fun w' => Below w.heap.size w w' ∧ w.heap.size + 1 + 1 < w'.heap.size ∧ w'.cell? ⟨w.heap.size, 0, none⟩ = some (.int .i64 a) ∧ w'.cell? ⟨w.heap.size, 1, none⟩ = some (.int .i64 b) ∧ w'.cell? ⟨w.heap.size + 1, 0, none⟩ = some (.int .i64 c) ∧ w'.cell? ⟨w.heap.size + 1, 1, none⟩ = some (.int .i64 d) ∧ w'.cell? ⟨w.heap.size + 1 + 1, 0, none⟩ = some (.int .i64 (cellInt w' ⟨w.heap.size + 1 + 1, 0, none⟩)) ∧ w'.cell? ⟨w.heap.size + 1 + 1, 1, none⟩ = some (.int .i64 (cellInt w' ⟨w.heap.size + 1 + 1, 1, none⟩)) ∧ w'.frozen? ⟨w.heap.size + 1 + 1, 0, none⟩ = false ∧ w'.frozen? ⟨w.heap.size + 1 + 1, 1, none⟩ = false) (first | exact heldRD2 (by assumption) | exact heldR2 (by assumption) (by assumption) | exact heldRS21 (heldRS20 (by assumption)) | (refine ⟨?_, ?_, ?_, ?_, ?_, ?_, ?_, ?_, ?_, ?_⟩ <;> first | (go_simp; done) | (simp; done) | (refine int_of_cell (n := 0) ?_; go_simp; done) | (refine int_of_cell (n := a + dr (i * (c - a)) n) ?_; go_simp; done) | (refine int_of_cell (n := b + dr (i * (d - b)) n) ?_; go_simp; done) | (go_grown; done)) | go_keep) ((go_at_call 65; refine (divI _ _ (by omega) (by omega) (by omega) (by omega) (by omega) _).mono ?_; rintro e w' ⟨rfl, rfl⟩))
  clear e1 e2 e3 e4 e5 e6
  have hH := And.intro (by assumption : Below w.heap.size w _ ∧ _) trivial
  obtain ⟨⟨hB, hz, k0, k1, k2, k3, r0, r1', f0, f1⟩, -⟩ := hH
  clear r0 r1'
  go_wp2
  go_returns
  exact ⟨rfl, hB⟩
theorem betwI_lt (a b c d i n : Int) (h : okP a b = true) (k : okP c d = true) (n0 : 1 ≤ n) (n1 : n ≤ 1000000) (i0 : 0 ≤ i) (i1 : i ≤ n) (q0 : a < c) (w : World) :
    Calls Try.prog 52 #[.agg #[.int .i64 a, .int .i64 b], .agg #[.int .i64 c, .int .i64 d], .int .i64 i, .int .i64 n] w fun e w' => e = .returned (.agg #[.int .i64 (btw a c i n), .int .i64 (btw b d i n)]) ∧ Below w.heap.size w w' := by
  obtain ⟨x0, x1, x2, x3⟩ := okP_bd h
  obtain ⟨y0, y1, y2, y3⟩ := okP_bd k
  obtain ⟨⟨p1, p2⟩, ⟨p3, p4⟩, p5, p6⟩ := btw_bd (p := a) (r := c) (j := i) (n := n) (by omega) (by omega) (by omega) (by omega)
  obtain ⟨⟨s1, s2⟩, ⟨s3, s4⟩, s5, s6⟩ := btw_bd (p := b) (r := d) (j := i) (n := n) (by omega) (by omega) (by omega) (by omega)
  have e1 : IntKind.i64.wrap (c - a) = c - a := IntWalk.i64_in _ (by omega)
  have e2 : IntKind.i64.wrap (d - b) = d - b := IntWalk.i64_in _ (by omega)
  have e3 : IntKind.i64.wrap (i * (c - a)) = i * (c - a) := IntWalk.i64_in _ (by omega)
  have e4 : IntKind.i64.wrap (i * (d - b)) = i * (d - b) := IntWalk.i64_in _ (by omega)
  have e5 : IntKind.i64.wrap (a + dr (i * (c - a)) n) = a + dr (i * (c - a)) n := IntWalk.i64_in _ (by omega)
  have e6 : IntKind.i64.wrap (b + dr (i * (d - b)) n) = b + dr (i * (d - b)) n := IntWalk.i64_in _ (by omega)
  have g0 : decide (c < a) = false := by simp; omega
  have g1 : (a == c) = false := by simp; omega
  go_enter Try.func52, Try.ntmps52
  go_wp2_with fail
  go_region_held3 (fun w' => Below w.heap.size w w' ∧ w.heap.size + 1 + 1 < w'.heap.size ∧ w'.cell? ⟨w.heap.size, 0, none⟩ = some (.int .i64 a) ∧ w'.cell? ⟨w.heap.size, 1, none⟩ = some (.int .i64 b) ∧ w'.cell? ⟨w.heap.size + 1, 0, none⟩ = some (.int .i64 c) ∧ w'.cell? ⟨w.heap.size + 1, 1, none⟩ = some (.int .i64 d) ∧ w'.cell? ⟨w.heap.size + 1 + 1, 0, none⟩ = some (.int .i64 (cellInt w' ⟨w.heap.size + 1 + 1, 0, none⟩)) ∧ w'.cell? ⟨w.heap.size + 1 + 1, 1, none⟩ = some (.int .i64 (cellInt w' ⟨w.heap.size + 1 + 1, 1, none⟩)) ∧ w'.frozen? ⟨w.heap.size + 1 + 1, 0, none⟩ = false ∧ w'.frozen? ⟨w.heap.size + 1 + 1, 1, none⟩ = false) (first | exact heldRD2 (by assumption) | exact heldR2 (by assumption) (by assumption) | exact heldRS21 (heldRS20 (by assumption)) | (refine ⟨?_, ?_, ?_, ?_, ?_, ?_, ?_, ?_, ?_, ?_⟩ <;> first | (go_simp; done) | (simp; done) | (refine int_of_cell (n := 0) ?_; go_simp; done) | (refine int_of_cell (n := a + dr (i * (c - a)) n) ?_; go_simp; done) | (refine int_of_cell (n := b + dr (i * (d - b)) n) ?_; go_simp; done) | (go_grown; done)) | go_keep) ((go_at_call 65; refine (divI _ _ (by omega) (by omega) (by omega) (by omega) (by omega) _).mono ?_; rintro e w' ⟨rfl, rfl⟩))
  clear e1 e2 e3 e4 e5 e6
  have hH := And.intro (by assumption : Below w.heap.size w _ ∧ _) trivial
  obtain ⟨⟨hB, hz, k0, k1, k2, k3, r0, r1', f0, f1⟩, -⟩ := hH
  clear r0 r1'
  go_wp2
  go_returns
  exact ⟨rfl, hB⟩
end Go.Proofs.Ytnmihmjgmanllaa
