--%!
/- Plain laws on texts of days: the library's split at the dashes and the digits between against the ten bytes that the reference looks at. No program in sight. Own work. -/
import Derived.Test.YtphlbpailmdndaaDoorClkMath
import Derived.Test.YtphlbpailmdndaaDoorCalMath
import Derived.Test.YtphlbpailmdndaaDoorSplMath
namespace Go.Proofs.YtphlbpailmdndaaDoor
set_option linter.unusedVariables false
open Go.Lib

/-- the day of a date, where it is one -/
def dOf (y m d : Int) : Option Int := if (2000 ≤ y ∧ y ≤ 2273 ∧ 1 ≤ m ∧ m ≤ 12 ∧ 1 ≤ d ∧ d ≤ dim y m) ∧ num y m d ≤ 99999 then some (num y m d) else none
theorem dOf_some {y m d n : Int} (h : dOf y m d = some n) : (2000 ≤ y ∧ y ≤ 2273 ∧ 1 ≤ m ∧ m ≤ 12 ∧ 1 ≤ d ∧ d ≤ dim y m) ∧ num y m d ≤ 99999 ∧ n = num y m d := by
  unfold dOf at h
  split at h
  · rename_i k
    exact ⟨k.1, k.2, (Option.some.inj h).symm⟩
  · cases h
theorem dOf_date {y m d n : Int} (h : dOf y m d = some n) : IsDate n y m d ∧ 0 ≤ n ∧ n ≤ 99999 := by
  obtain ⟨⟨h1, h2, h3, h4, h5, h6⟩, h7, rfl⟩ := dOf_some h
  exact ⟨⟨h1, h2, h3, h4, h5, h6, rfl⟩, (num_bd h1 h2 h3 h4 h5 h6).1, h7⟩
theorem dOf_of {y m d n : Int} (h : IsDate n y m d) (h1 : n ≤ 99999) : dOf y m d = some n := by
  obtain ⟨a, b, c, e, f, g, rfl⟩ := h
  exact if_pos ⟨⟨a, b, c, e, f, g⟩, h1⟩
/-- a day's text, as bytes -/
def dtxL (y m d : Int) : List UInt8 := itoa y ++ (45 :: padV m ++ (45 :: padV d))
theorem dv_four (a b c e : UInt8) : dv 0 [a, b, c, e] = 1000 * (a.toNat - 48) + 100 * (b.toNat - 48) + 10 * (c.toNat - 48) + (e.toNat - 48) := by rw [dv_cons, dv_cons, dv_cons, dv_cons]; unfold dv; rw [List.foldl_nil]; omega
theorem dig_all (u : Nat) : (decDigits u).all digB = true := by
  induction u using Nat.strongRecOn with
  | ind u ih =>
    rw [decDigits]
    split
    · simp only [List.all_cons, List.all_nil, Bool.and_true, digB_iff]
      rw [UInt8.toNat_ofNat']; omega
    · rw [List.all_append, ih (u / 10) (by omega)]
      simp only [List.all_cons, List.all_nil, Bool.and_true, Bool.true_and, digB_iff]
      rw [UInt8.toNat_ofNat']; omega
theorem dv_dec (u : Nat) : dv 0 (decDigits u) = u := by
  induction u using Nat.strongRecOn with
  | ind u ih =>
    rw [decDigits]
    split
    · rw [dv_cons]; unfold dv; rw [List.foldl_nil, UInt8.toNat_ofNat']; omega
    · rw [dv_snoc, ih (u / 10) (by omega), UInt8.toNat_ofNat']; omega
theorem dec_four {u : Nat} (h0 : 1000 ≤ u) (h1 : u ≤ 9999) : ∃ a b c e, decDigits u = [a, b, c, e] := by
  have hl : (decDigits u).length = 4 := by
    rw [decDigits_length, nDigits_big (by omega), nDigits_big (by omega), nDigits_big (by omega), nDigits_small (by omega)]
  match decDigits u, hl with
  | [a, b, c, e], _ => exact ⟨a, b, c, e, rfl⟩
/-- what the reference reads -/
def rdOf (l : List UInt8) : Option Int := match l with
  | [a, b, c, e, x, f, g, z, h, i] => if (x = 45 ∧ z = 45) ∧ [a, b, c, e].all digB = true ∧ [f, g].all digB = true ∧ [h, i].all digB = true then dOf (dv 0 [a, b, c, e]) (dv 0 [f, g]) (dv 0 [h, i]) else none
  | _ => none
theorem rdOf_10 (a b c e x f g z h i : UInt8) : rdOf [a, b, c, e, x, f, g, z, h, i] = if (x = 45 ∧ z = 45) ∧ [a, b, c, e].all digB = true ∧ [f, g].all digB = true ∧ [h, i].all digB = true then dOf (dv 0 [a, b, c, e]) (dv 0 [f, g]) (dv 0 [h, i]) else none := rfl
theorem rdOf_some {l : List UInt8} {n : Int} (h : rdOf l = some n) : ∃ a b c e f g h' i, l = [a, b, c, e, 45, f, g, 45, h', i] ∧ [a, b, c, e].all digB = true ∧ [f, g].all digB = true ∧ [h', i].all digB = true ∧ dOf (dv 0 [a, b, c, e]) (dv 0 [f, g]) (dv 0 [h', i]) = some n := by
  match l, h with
  | [a, b, c, e, x, f, g, z, h', i], h =>
    rw [rdOf_10] at h
    split at h
    · rename_i k
      obtain ⟨⟨rfl, rfl⟩, k1, k2, k3⟩ := k
      exact ⟨a, b, c, e, f, g, h', i, rfl, k1, k2, k3, h⟩
    · cases h
theorem pad_dig {n : Nat} (h : n ≤ 99) : ∃ f g, padV (n : Int) = [f, g] ∧ [f, g].all digB = true ∧ dv 0 [f, g] = n := by
  have a := dig_of (k := n / 10) (by omega)
  have b := dig_of (k := n % 10) (by omega)
  refine ⟨_, _, padV_two h, by simp only [List.all_cons, List.all_nil, Bool.and_true]; rw [a.1, b.1]; rfl, ?_⟩
  rw [dv_two, a.2, b.2]; omega
/-- a day's text is read as the day -/
theorem rdOf_text {y m d n : Int} (h : dOf y m d = some n) : rdOf (dtxL y m d) = some n := by
  obtain ⟨⟨h1, h2, h3, h4, h5, h6⟩, -, -⟩ := dOf_some h
  have hd := dim_bd y m
  obtain ⟨y, rfl⟩ := Int.eq_ofNat_of_zero_le (show 0 ≤ y by omega)
  obtain ⟨m, rfl⟩ := Int.eq_ofNat_of_zero_le (show 0 ≤ m by omega)
  obtain ⟨d, rfl⟩ := Int.eq_ofNat_of_zero_le (show 0 ≤ d by omega)
  obtain ⟨a, b, c, e, hy⟩ := dec_four (u := y) (by omega) (by omega)
  obtain ⟨f, g, hm, m1, m2⟩ := pad_dig (n := m) (by omega)
  obtain ⟨h', i, hd', d1, d2⟩ := pad_dig (n := d) (by omega)
  have e1 := dig_all y
  have e2 := dv_dec y
  rw [hy] at e1 e2
  unfold dtxL
  rw [itoa_nat, hy, hm, hd']
  show rdOf [a, b, c, e, 45, f, g, 45, h', i] = _
  rw [rdOf_10, if_pos ⟨⟨rfl, rfl⟩, e1, m1, d1⟩, e2, m2, d2]
  exact h
theorem not_dash {l : List UInt8} (h : l.all digB = true) : (45 : UInt8) ∉ l := fun k => absurd (List.all_eq_true.1 h _ k) (by decide)
/-- what the program's test says of the pieces -/
def rdI (p q r l : List UInt8) (n : Int) : Prop := dgB p = true ∧ dgB q = true ∧ dgB r = true ∧ dOf (dv 0 p) (dv 0 q) (dv 0 r) = some n ∧ dtxL (dv 0 p) (dv 0 q) (dv 0 r) = l
theorem rd_yes {p q r l : List UInt8} {n : Int} (h : rdI p q r l n) : rdOf l = some n := by
  obtain ⟨h1, h2, h3, h4, h5⟩ := h
  rw [← h5]
  exact rdOf_text h4
theorem rd_parts {l : List UInt8} {n : Int} (h : rdOf l = some n) : ∃ p q r, spl 45 l = [p, q, r] ∧ rdI p q r l n := by
  obtain ⟨a, b, c, e, f, g, h', i, rfl, h1, h2, h3, h4⟩ := rdOf_some h
  refine ⟨[a, b, c, e], [f, g], [h', i], ?_, dgB_iff.2 ⟨h1, by simp, by simp⟩, dgB_iff.2 ⟨h2, by simp, by simp⟩, dgB_iff.2 ⟨h3, by simp, by simp⟩, h4, ?_⟩
  · show spl 45 ([a, b, c, e] ++ 45 :: ([f, g] ++ 45 :: [h', i])) = _
    rw [spl_at (not_dash h1), spl_at (not_dash h2), spl_no (not_dash h3)]
  · obtain ⟨⟨y0, y1, m0, m1, d0, d1⟩, -, -⟩ := dOf_some h4
    have hd1 := dim_bd (dv 0 [a, b, c, e] : Nat) (dv 0 [f, g] : Nat)
    unfold dtxL
    have ey : itoa ((dv 0 [a, b, c, e] : Nat) : Int) = [a, b, c, e] := by
      rw [itoa_nat]
      refine dec_of h1 (by simp) (.inl ?_)
      intro k
      have ka : a = 48 := by simpa using k
      subst ka
      have h1' := h1
      simp only [List.all_cons, List.all_nil, Bool.and_true, Bool.and_eq_true, digB_iff] at h1'
      rw [dv_four] at y0
      have : (48 : UInt8).toNat = 48 := rfl
      omega
    have em : padV ((dv 0 [f, g] : Nat) : Int) = [f, g] := by
      have h2' := h2
      simp only [List.all_cons, List.all_nil, Bool.and_true, Bool.and_eq_true] at h2'
      rw [dv_two]; exact two_of h2'.1 h2'.2
    have ed : padV ((dv 0 [h', i] : Nat) : Int) = [h', i] := by
      have h3' := h3
      simp only [List.all_cons, List.all_nil, Bool.and_true, Bool.and_eq_true] at h3'
      rw [dv_two]; exact two_of h3'.1 h3'.2
    rw [ey, em, ed]
    rfl
theorem rdd_len {l : List UInt8} (h : (spl 45 l).length ≠ 3) : rdOf l = none := by
  cases hk : rdOf l with
  | none => rfl
  | some n =>
    obtain ⟨p, q, r, hs, -⟩ := rd_parts hk
    rw [hs] at h; simp at h
theorem rd_no {p q r l : List UInt8} (hs : spl 45 l = [p, q, r]) (h : ∀ n, ¬ rdI p q r l n) : rdOf l = none := by
  cases hk : rdOf l with
  | none => rfl
  | some n =>
    obtain ⟨p', q', r', hs', hi⟩ := rd_parts hk
    rw [hs] at hs'
    injection hs' with e1 e2
    injection e2 with e2 e3
    injection e3 with e3 _
    subst e1 e2 e3
    exact absurd hi (h n)
end Go.Proofs.YtphlbpailmdndaaDoor
