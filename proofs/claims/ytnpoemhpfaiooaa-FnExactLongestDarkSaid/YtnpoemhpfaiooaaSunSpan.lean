--%!
/- The minutes of day are the ones of one span about noon. Own work. -/
import Derived.Test.YtnpoemhpfaiooaaSunSine
namespace Go.Proofs.Ytnpoemhpfaiooaa
set_option linter.unusedVariables false
set_option maxRecDepth 100000

theorem hq_step {k : Int} (h0 : 0 ≤ k) (h1 : k < 720) : hq (k + 1) ≤ hq k := by
  have h : (List.range 720).all (fun k => decide (hq ((k : Int) + 1) ≤ hq (k : Int))) = true := by decide +kernel
  rw [List.all_eq_true] at h
  obtain ⟨q, rfl⟩ := Int.eq_ofNat_of_zero_le h0
  exact of_decide_eq_true (h q (List.mem_range.2 (by omega)))
theorem cos_pos {lat : Int} (h0 : -66 ≤ lat) (h1 : lat ≤ 66) : 0 ≤ cosine lat := by
  have h : (List.range 133).all (fun k => decide (0 ≤ cosine ((k : Int) - 66))) = true := by decide +kernel
  rw [List.all_eq_true] at h
  obtain ⟨q, hq⟩ := Int.eq_ofNat_of_zero_le (show 0 ≤ lat + 66 by omega)
  have := of_decide_eq_true (h q (List.mem_range.2 (by omega)))
  rwa [show (q : Int) - 66 = lat by omega] at this
theorem ten_pos {a : Int} (h0 : 0 ≤ a) (h1 : a ≤ 234) : 0 ≤ tenths (900 - a) := by
  have h : (List.range 235).all (fun k => decide (0 ≤ tenths (900 - (k : Int)))) = true := by decide +kernel
  rw [List.all_eq_true] at h
  obtain ⟨q, rfl⟩ := Int.eq_ofNat_of_zero_le h0
  exact of_decide_eq_true (h q (List.mem_range.2 (by omega)))
theorem move_pos {lat n : Int} (l0 : -66 ≤ lat) (l1 : lat ≤ 66) (h0 : 0 ≤ n) (h1 : n ≤ 99999) : 0 ≤ moveV lat n := by
  obtain ⟨a0, a1⟩ := decA_bd n h0 h1
  have := dr_mono (b := 1000000) (by decide) (Int.mul_nonneg (cos_pos l0 l1) (ten_pos a0 a1))
  exact this
/-- the height at k minutes from noon -/
noncomputable def awayH (lat n k : Int) : Int := stillV lat n + dr (moveV lat n * hq k) 1000000
theorem awayH_step {lat n k : Int} (l0 : -66 ≤ lat) (l1 : lat ≤ 66) (h0 : 0 ≤ n) (h1 : n ≤ 99999) (k0 : 0 ≤ k) (k1 : k < 720) : awayH lat n (k + 1) ≤ awayH lat n k := by
  have := dr_mono (b := 1000000) (by decide) (Int.mul_le_mul_of_nonneg_left (hq_step k0 k1) (move_pos l0 l1 h0 h1))
  unfold awayH; omega
theorem awayH_le {lat n : Int} (l0 : -66 ≤ lat) (l1 : lat ≤ 66) (h0 : 0 ≤ n) (h1 : n ≤ 99999) (j : Nat) (d : Nat) (hj : j + d ≤ 720) : awayH lat n ((j : Int) + d) ≤ awayH lat n j := by
  induction d with
  | zero => simp
  | succ d ih =>
    have a := ih (by omega)
    have b := awayH_step (k := (j : Int) + d) l0 l1 h0 h1 (by omega) (by omega)
    rw [show (j : Int) + ((d + 1 : Nat) : Int) = (j : Int) + d + 1 by omega]
    omega
/-- the minutes of day are those from r to before e -/
def Span (lat n r e : Int) : Prop := 0 ≤ r ∧ r ≤ e ∧ e ≤ 1440 ∧ (∀ k, 0 ≤ k → k < 1440 → (-14000 ≤ sunV lat n k ↔ r ≤ k ∧ k < e)) ∧
  ((r = 1440 ∧ e = 1440) ∨ (r = 0 ∧ e = 1440) ∨ (1 ≤ r ∧ r ≤ 720 ∧ e = 1441 - r))
theorem last_of (P : Nat → Prop) [DecidablePred P] (h0 : P 0) (hP : ∀ j d, j + d ≤ 720 → P (j + d) → P j) : ∃ d, d ≤ 720 ∧ ∀ k, k ≤ 720 → (P k ↔ k ≤ d) := by
  have key : ∀ N, N ≤ 720 → ∃ d, d ≤ N ∧ ∀ k, k ≤ N → (P k ↔ k ≤ d) := by
    intro N
    induction N with
    | zero =>
      intro _
      refine ⟨0, Nat.le_refl _, fun k hk => ?_⟩
      have e : k = 0 := by omega
      subst e
      exact ⟨fun _ => Nat.le_refl _, fun _ => h0⟩
    | succ N ih =>
      intro hN
      by_cases hp : P (N + 1)
      · refine ⟨N + 1, Nat.le_refl _, fun k hk => ⟨fun _ => hk, fun _ => ?_⟩⟩
        exact hP k (N + 1 - k) (by omega) (by rwa [show k + (N + 1 - k) = N + 1 by omega])
      · obtain ⟨d, hd, hk⟩ := ih (by omega)
        refine ⟨d, by omega, fun k hk' => ?_⟩
        by_cases e : k = N + 1
        · subst e; exact ⟨fun h => absurd h hp, fun h => by omega⟩
        · exact hk k (by omega)
  exact key 720 (Nat.le_refl _)
theorem span_ex {lat n : Int} (l0 : -66 ≤ lat) (l1 : lat ≤ 66) (h0 : 0 ≤ n) (h1 : n ≤ 99999) : ∃ r e, Span lat n r e := by
  have hA : ∀ m, sunV lat n m = awayH lat n (awayV m) := fun m => rfl
  have mono : ∀ j d, j + d ≤ 720 → -14000 ≤ awayH lat n ((j + d : Nat) : Int) → -14000 ≤ awayH lat n (j : Int) := by
    intro j d hj h
    have := awayH_le l0 l1 h0 h1 j d hj
    rw [show ((j + d : Nat) : Int) = (j : Int) + d by omega] at h
    omega
  by_cases h : -14000 ≤ awayH lat n ((0 : Nat) : Int)
  · obtain ⟨d, hd, hk⟩ := last_of (fun k => -14000 ≤ awayH lat n (k : Int)) h mono
    have hday : ∀ k, 0 ≤ k → k < 1440 → (-14000 ≤ sunV lat n k ↔ awayV k ≤ d) := by
      intro k k0 k1
      obtain ⟨a0, a1⟩ := away_bd (m := k) k0 (by omega)
      obtain ⟨q, hq⟩ := Int.eq_ofNat_of_zero_le a0
      rw [hA, hq]
      have := hk q (by omega)
      constructor
      · intro h; have := this.1 h; omega
      · intro h; exact this.2 (by omega)
    by_cases e : d = 720
    · refine ⟨0, 1440, by omega, by omega, by omega, fun k k0 k1 => ?_, .inr (.inl ⟨rfl, rfl⟩)⟩
      rw [hday k k0 k1]
      have := away_bd (m := k) k0 (by omega)
      omega
    · refine ⟨720 - d, 721 + d, by omega, by omega, by omega, fun k k0 k1 => ?_, .inr (.inr (by omega))⟩
      rw [hday k k0 k1]
      unfold awayV
      split <;> omega
  · refine ⟨1440, 1440, by omega, by omega, by omega, fun k k0 k1 => ⟨fun hd => ?_, fun hk => by omega⟩, .inl ⟨rfl, rfl⟩⟩
    obtain ⟨a0, a1⟩ := away_bd (m := k) k0 (by omega)
    obtain ⟨q, hq⟩ := Int.eq_ofNat_of_zero_le a0
    rw [hA, hq] at hd
    exact absurd (mono 0 q (by omega) (by rwa [Nat.zero_add])) h
end Go.Proofs.Ytnpoemhpfaiooaa
