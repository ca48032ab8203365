--%!
/- Plain laws on points: squared distances, sides, segments. No program in sight. -/
import Derived.Test.YtnmihmjgmanllaaTrigMath
namespace Go.Proofs.Ytnmihmjgmanllaa
open Go.RowKit
set_option linter.unusedVariables false

def sqd (a b c d : Int) : Int := (a - c) * (a - c) + (b - d) * (b - d)
def crs (ax ay bx bY cx cy : Int) : Int := (bx - ax) * (cy - ay) - (bY - ay) * (cx - ax)
def dotp (ax ay bx bY px py : Int) : Int := (px - ax) * (bx - ax) + (py - ay) * (bY - ay)
theorem sq_nonneg' (a : Int) : 0 ≤ a * a := by
  by_cases h : 0 ≤ a
  · exact Int.mul_nonneg h h
  · exact Int.mul_nonneg_of_nonpos_of_nonpos (by omega) (by omega)
theorem sq_bd {a B : Int} (h1 : -B ≤ a) (h2 : a ≤ B) : 0 ≤ a * a ∧ a * a ≤ B * B := by
  refine ⟨sq_nonneg' a, ?_⟩
  have := mul_abs (a := a) (b := a) (A := B) (B := B) (by omega) (by omega) h1 h2 h1 h2
  omega
theorem diff_bd {a c : Int} (ha : 0 ≤ a ∧ a ≤ 200000) (hc : 0 ≤ c ∧ c ≤ 200000) : -200000 ≤ a - c ∧ a - c ≤ 200000 := by omega
theorem sqd_parts {a b c d : Int} (h : okP a b = true) (k : okP c d = true) :
    (-200000 ≤ a - c ∧ a - c ≤ 200000) ∧ (-200000 ≤ b - d ∧ b - d ≤ 200000) ∧ (0 ≤ (a - c) * (a - c) ∧ (a - c) * (a - c) ≤ 40000000000) ∧ 0 ≤ (b - d) * (b - d) ∧ (b - d) * (b - d) ≤ 40000000000 := by
  have h1 := okP_bd h
  have h2 := okP_bd k
  have e1 := sq_bd (a := a - c) (B := 200000) (by omega) (by omega)
  have e2 := sq_bd (a := b - d) (B := 200000) (by omega) (by omega)
  exact ⟨by omega, by omega, e1, e2⟩
theorem sqd_bd {a b c d : Int} (h : okP a b = true) (k : okP c d = true) : 0 ≤ sqd a b c d ∧ sqd a b c d ≤ 80000000000 := by
  have := sqd_parts h k
  unfold sqd; omega
theorem crs_parts {ax ay bx bY cx cy : Int} (h : okP ax ay = true) (k : okP bx bY = true) (l : okP cx cy = true) :
    (-40000000000 ≤ (bx - ax) * (cy - ay) ∧ (bx - ax) * (cy - ay) ≤ 40000000000) ∧ -40000000000 ≤ (bY - ay) * (cx - ax) ∧ (bY - ay) * (cx - ax) ≤ 40000000000 := by
  have h1 := okP_bd h
  have h2 := okP_bd k
  have h3 := okP_bd l
  exact ⟨mul_abs (A := 200000) (B := 200000) (by omega) (by omega) (by omega) (by omega) (by omega) (by omega), mul_abs (A := 200000) (B := 200000) (by omega) (by omega) (by omega) (by omega) (by omega) (by omega)⟩
theorem crs_bd {ax ay bx bY cx cy : Int} (h : okP ax ay = true) (k : okP bx bY = true) (l : okP cx cy = true) : -80000000000 ≤ crs ax ay bx bY cx cy ∧ crs ax ay bx bY cx cy ≤ 80000000000 := by
  have := crs_parts h k l
  unfold crs; omega
theorem dotp_parts {ax ay bx bY px py : Int} (h : okP ax ay = true) (k : okP bx bY = true) (l : okP px py = true) :
    (-40000000000 ≤ (px - ax) * (bx - ax) ∧ (px - ax) * (bx - ax) ≤ 40000000000) ∧ -40000000000 ≤ (py - ay) * (bY - ay) ∧ (py - ay) * (bY - ay) ≤ 40000000000 := by
  have h1 := okP_bd h
  have h2 := okP_bd k
  have h3 := okP_bd l
  exact ⟨mul_abs (A := 200000) (B := 200000) (by omega) (by omega) (by omega) (by omega) (by omega) (by omega), mul_abs (A := 200000) (B := 200000) (by omega) (by omega) (by omega) (by omega) (by omega) (by omega)⟩
def sgn (n : Int) : Int := if 0 < n then 1 else if n < 0 then -1 else 0
def allOk (ps : List (Int × Int)) : Bool := ps.all fun p => okP p.1 p.2
theorem allOk_no {ps : List (Int × Int)} {k : Nat} (h : k < ps.length) (hn : okP ps[k].1 ps[k].2 = false) : allOk ps = false := by
  cases e : allOk ps with
  | false => rfl
  | true =>
    have := List.all_eq_true.1 e ps[k] (List.getElem_mem h)
    rw [hn] at this; cases this
def okTo (ps : List (Int × Int)) (n : Nat) : Prop := ∀ (k : Nat) (h : k < ps.length), k < n → okP ps[k].1 ps[k].2 = true
theorem okTo_zero (ps : List (Int × Int)) : okTo ps 0 := fun _ _ h => absurd h (by omega)
theorem okTo_succ {ps : List (Int × Int)} {n : Nat} (h : okTo ps n) (hn : n < ps.length) (hc : okP ps[n].1 ps[n].2 = true) : okTo ps (n + 1) := fun k hk hkn => by
  by_cases e : k = n
  · subst e; exact hc
  · exact h k hk (by omega)
theorem okTo_done {ps : List (Int × Int)} (h : okTo ps ps.length) : allOk ps = true := by
  apply List.all_eq_true.2
  intro x hx
  obtain ⟨k, hk, rfl⟩ := List.getElem_of_mem hx
  exact h k hk hk
theorem allOk_at {ps : List (Int × Int)} (h : allOk ps = true) {k : Nat} (hk : k < ps.length) : okP ps[k].1 ps[k].2 = true := List.all_eq_true.1 h ps[k] (List.getElem_mem hk)

/-- the area and the projection: squares add up -/
theorem lagrange (u v x y : Int) : (u * y - v * x) * (u * y - v * x) + (x * u + y * v) * (x * u + y * v) = (u * u + v * v) * (x * x + y * y) := by
  simp only [Int.mul_add, Int.mul_sub, Int.mul_left_comm, Int.mul_comm]
  omega
end Go.Proofs.Ytnmihmjgmanllaa
