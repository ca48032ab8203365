--%!
/- Plain laws on numerals: the reference's reading of a decimal number against the library's. No program in sight. Own work. -/
import Derived.Test.YtphlbpailmdndaaDoorDecMath
import Derived.Lib.ParseIntB
import Derived.Lib.Strings
namespace Go.Proofs.YtphlbpailmdndaaDoor
set_option linter.unusedVariables false
open Go.Lib

def digB (c : UInt8) : Bool := decide (48 ≤ c.toNat ∧ c.toNat ≤ 57)
theorem digB_iff {c : UInt8} : digB c = true ↔ 48 ≤ c.toNat ∧ c.toNat ≤ 57 := decide_eq_true_iff
/-- the value of digits, behind a number -/
def dv (acc : Nat) (l : List UInt8) : Nat := l.foldl (fun a c => 10 * a + (c.toNat - 48)) acc
theorem dv_snoc (acc : Nat) (l : List UInt8) (c : UInt8) : dv acc (l ++ [c]) = 10 * dv acc l + (c.toNat - 48) := by simp [dv]
theorem dv_cons (acc : Nat) (l : List UInt8) (c : UInt8) : dv acc (c :: l) = dv (10 * acc + (c.toNat - 48)) l := by unfold dv; rw [List.foldl_cons]
theorem dv_lt {l : List UInt8} (h : l.all digB = true) {acc k : Nat} (ha : acc < 10 ^ k) : dv acc l < 10 ^ (k + l.length) := by
  induction l generalizing acc k with
  | nil => rw [List.length_nil, Nat.add_zero]; exact ha
  | cons c l ih =>
    rw [List.all_cons, Bool.and_eq_true] at h
    have hc := digB_iff.1 h.1
    rw [dv_cons, List.length_cons, show k + (l.length + 1) = k + 1 + l.length by omega]
    refine ih h.2 ?_
    rw [Nat.pow_succ]; omega
theorem dv_ge {l : List UInt8} {acc : Nat} (h : 1 ≤ acc) : 1 ≤ dv acc l := by
  induction l generalizing acc with
  | nil => exact h
  | cons c l ih => rw [dv_cons]; exact ih (by omega)
/-- digits of at most eighteen places: the library reads their value -/
theorem parse_digits {l : List UInt8} {acc k : Nat} (ha : acc < 10 ^ k) (hk : k + l.length ≤ 18) : parseUintM (2 ^ 64 - 1) acc l = if l.all digB = true then .ok (dv acc l) else NumEnd.syntax := by
  induction l generalizing acc k with
  | nil => rfl
  | cons c l ih =>
    rw [List.length_cons] at hk
    have h18 : 10 ^ k ≤ 10 ^ 17 := Nat.pow_le_pow_right (by decide) (by omega)
    rw [parseUintM]
    cases hc : digB c
    · rw [if_neg (fun e => by rw [digB_iff.2 e] at hc; cases hc), List.all_cons, hc]; rfl
    · have e := digB_iff.1 hc
      rw [if_pos e, if_neg (by omega), if_neg (by omega), List.all_cons, hc, dv_cons, Nat.mul_comm acc 10]
      exact ih (k := k + 1) (by rw [Nat.pow_succ]; omega) (by omega)
theorem parse_u {l : List UInt8} (hne : l ≠ []) (hk : l.length ≤ 18) : parseUintB 64 l = if l.all digB = true then .ok (dv 0 l) else NumEnd.syntax := by
  unfold parseUintB
  rw [if_neg hne]
  exact parse_digits (k := 0) (by decide) (by omega)
theorem nDigits_le {u k : Nat} (h : u < 10 ^ k) (h1 : 1 ≤ k) : nDigits u ≤ k := by
  induction k generalizing u with
  | zero => omega
  | succ k ih =>
    by_cases hu : u < 10
    · rw [nDigits_small hu]; omega
    · rw [nDigits_big hu]
      have : 1 ≤ k := by
        rcases Nat.eq_zero_or_pos k with e | e
        · subst e; simp at h; omega
        · exact e
      have := ih (u := u / 10) (by rw [Nat.pow_succ] at h; omega) this
      omega
/-- a numeral without a needless 0 at its head is what its value is written as -/
theorem dec_of_n (n : Nat) : ∀ {l : List UInt8}, l.length = n → l.all digB = true → l ≠ [] → (l.head? ≠ some 48 ∨ l.length = 1) → decDigits (dv 0 l) = l := by
  induction n with
  | zero => intro l hl h hne hd; exact absurd (List.eq_nil_of_length_eq_zero hl) hne
  | succ n ih' =>
    intro l hl h hne hd
    rcases List.eq_nil_or_concat l with e0 | ⟨e, c, rfl⟩
    · exact absurd e0 hne
    rw [List.concat_eq_append] at *
    have ih : e.all digB = true → e ≠ [] → (e.head? ≠ some 48 ∨ e.length = 1) → decDigits (dv 0 e) = e := ih' (by rw [List.length_append] at hl; simpa using hl)
    rw [List.all_append, Bool.and_eq_true] at h
    have hc : digB c = true := by simpa using h.2
    have hcb := digB_iff.1 hc
    have hcc : UInt8.ofNat (48 + (c.toNat - 48)) = c := by
      rw [show 48 + (c.toNat - 48) = c.toNat by omega, UInt8.ofNat_toNat]
    rw [dv_snoc]
    by_cases he : e = []
    · subst he
      show decDigits (10 * 0 + (c.toNat - 48)) = [c]
      rw [decDigits_one (by omega), show 10 * 0 + (c.toNat - 48) = c.toNat - 48 by omega, hcc]
    · have hd' : e.head? ≠ some 48 ∨ e.length = 1 := by
        rcases hd with hd | hd
        · left
          intro k
          apply hd
          rw [List.head?_append, k]; rfl
        · rw [List.length_append] at hd
          have : e.length = 0 := by simpa using hd
          exact absurd (List.eq_nil_of_length_eq_zero this) he
      have hv : 1 ≤ dv 0 e := by
        match e, he with
        | x :: r, _ =>
          rw [List.all_cons, Bool.and_eq_true] at h
          have hx := digB_iff.1 h.1.1
          rw [dv_cons]
          refine dv_ge ?_
          have hx48 : x ≠ 48 := by
            rcases hd with hd | hd
            · intro k; apply hd; rw [k]; rfl
            · simp at hd
          have : x.toNat ≠ 48 := fun k => hx48 (by rw [← UInt8.toNat_inj]; exact k)
          omega
      rw [decDigits, dif_neg (by omega), show (10 * dv 0 e + (c.toNat - 48)) / 10 = dv 0 e by omega, show (10 * dv 0 e + (c.toNat - 48)) % 10 = c.toNat - 48 by omega, hcc, ih h.1 he hd']
theorem dec_of {l : List UInt8} (h : l.all digB = true) (hne : l ≠ []) (hd : l.head? ≠ some 48 ∨ l.length = 1) : decDigits (dv 0 l) = l := dec_of_n _ rfl h hne hd
theorem dec_not {l : List UInt8} (h : l.all digB = true) (h1 : l.head? = some 48) (h2 : 1 < l.length) : decDigits (dv 0 l) ≠ l := by
  match l, h1, h2 with
  | c :: r, h1, h2 =>
    simp only [List.head?_cons, Option.some.injEq] at h1
    subst h1
    rw [List.length_cons] at h2
    rw [List.all_cons, Bool.and_eq_true] at h
    intro e
    have el := congrArg List.length e
    rw [decDigits_length, List.length_cons] at el
    have lt : dv 0 (48 :: r) < 10 ^ (0 + r.length) := by
      rw [dv_cons]
      exact dv_lt h.2 (by decide)
    rw [Nat.zero_add] at lt
    have := nDigits_le lt (by omega)
    omega
def negB (l : List UInt8) : Bool := decide (l.head? = some 45)
def bodyOf (l : List UInt8) : List UInt8 := if negB l = true then l.tail else l
/-- is a text a number of the reference's? -/
def numB (l : List UInt8) : Bool := decide (bodyOf l ≠ [] ∧ (bodyOf l).length ≤ 18 ∧ ¬ ((bodyOf l).head? = some 48 ∧ 1 < l.length)) && (bodyOf l).all digB
def numV (l : List UInt8) : Int := if numB l = true then (if negB l = true then -(dv 0 (bodyOf l) : Int) else dv 0 (bodyOf l)) else 0
theorem numV_f {l : List UInt8} (h : numB l = false) : numV l = 0 := if_neg (by rw [h]; decide)
theorem numV_t {l : List UInt8} (h : numB l = true) : numV l = if negB l = true then -(dv 0 (bodyOf l) : Int) else dv 0 (bodyOf l) := if_pos h
theorem trim_body (l : List UInt8) : trimPrefix l [45] = bodyOf l := by
  unfold trimPrefix hasPrefix bodyOf negB
  cases l with
  | nil => rfl
  | cons c r =>
    by_cases h : c = 45
    · subst h; rfl
    · have h' : ¬ (45 : UInt8) = c := fun e => h e.symm
      simp [h, h']
theorem itoa_nat (u : Nat) : itoa (u : Int) = decDigits u := by unfold itoa; rw [if_neg (by omega)]; rfl
theorem itoa_neg (u : Nat) (h : 1 ≤ u) : itoa (-(u : Int)) = 45 :: decDigits u := by unfold itoa; rw [if_pos (by omega)]; congr 2; omega
theorem all_not_plus {r : List UInt8} : ((43 : UInt8) :: r).all digB = false := rfl
theorem dec_head (u : Nat) (r : List UInt8) (c : UInt8) (h : decDigits u = c :: r) : digB c = true := by
  have : ∀ u, (decDigits u).all digB = true := by
    intro u
    induction u using Nat.strongRecOn with
    | ind u ih =>
      rw [decDigits]
      split
      · simp only [List.all_cons, List.all_nil, Bool.and_true, digB_iff]
        rw [UInt8.toNat_ofNat']; omega
      · rw [List.all_append, ih (u / 10) (by omega)]
        simp only [List.all_cons, List.all_nil, Bool.and_true, Bool.true_and, digB_iff]
        rw [UInt8.toNat_ofNat']; omega
  have e := this u
  rw [h, List.all_cons, Bool.and_eq_true] at e
  exact e.1
/-- THE LAW: what the library reads, written again, is the text itself, just where the reference reads a number -/
theorem read_ok {l : List UInt8} (hb : (bodyOf l).length ≤ 18) {v : Int} (h : parseIntB 64 l = .ok v) : (itoa v = l → numB l = true ∧ numV l = v) ∧ (itoa v ≠ l → numB l = false) := by
  cases l with
  | nil => cases h
  | cons c r =>
    by_cases hc : c = 45
    · subst hc
      have hbo : bodyOf (45 :: r) = r := rfl
      rw [hbo] at hb
      simp only [parseIntB] at h
      rw [if_pos (.inr (by decide))] at h
      by_cases hr : r = []
      · subst hr; cases h
      rw [parse_u hr hb] at h
      cases ha : r.all digB
      · rw [ha] at h; cases h
      · rw [ha] at h
        simp only [if_true] at h
        have hlt := dv_lt ha (acc := 0) (k := 0) (by decide)
        rw [Nat.zero_add] at hlt
        have h18 : 10 ^ r.length ≤ 10 ^ 18 := Nat.pow_le_pow_right (by decide) hb
        have e45 : (45 : UInt8).toNat = 45 := rfl
        rw [if_neg (by simp), if_neg (by omega), if_pos e45] at h
        injection h with h
        subst h
        by_cases hz : r.head? = some 48
        · have hnb : numB (45 :: r) = false := by
            unfold numB
            rw [hbo, decide_eq_false (fun k => k.2.2 ⟨hz, by rw [List.length_cons]; have := List.length_pos_iff.2 hr; omega⟩)]; rfl
          refine ⟨fun e => ?_, fun _ => hnb⟩
          exfalso
          by_cases h0 : dv 0 r = 0
          · rw [h0] at e
            have : itoa (-((0 : Nat) : Int)) = [48] := by rw [show -((0 : Nat) : Int) = ((0 : Nat) : Int) by rfl, itoa_nat, decDigits_one (by decide)]; rfl
            rw [this] at e
            injection e with e _
            cases e
          · rw [itoa_neg _ (by omega)] at e
            injection e with _ e
            have hl1 : r.length = 1 := by
              rcases Nat.lt_or_ge 1 r.length with k | k
              · exact absurd e (dec_not ha hz k)
              · have := List.length_pos_iff.2 hr; omega
            match r, hl1, hz with
            | [x], _, hz =>
              simp only [List.head?_cons, Option.some.injEq] at hz
              subst hz
              exact h0 rfl
        · have hnb : numB (45 :: r) = true := by
            unfold numB
            rw [hbo, decide_eq_true (show r ≠ [] ∧ r.length ≤ 18 ∧ ¬ (r.head? = some 48 ∧ 1 < ((45 : UInt8) :: r).length) from ⟨hr, hb, fun k => hz k.1⟩), ha]; rfl
          have hd := dec_of ha hr (.inl hz)
          have h1 : 1 ≤ dv 0 r := by
            rcases Nat.eq_zero_or_pos (dv 0 r) with k | k
            · rw [k, decDigits_one (by decide)] at hd
              rw [← hd] at hz
              exact absurd rfl hz
            · exact k
          have hi : itoa (-(dv 0 r : Int)) = 45 :: r := by rw [itoa_neg _ h1, hd]
          exact ⟨fun _ => ⟨hnb, by rw [numV_t hnb, hbo]; rfl⟩, fun k => absurd hi k⟩
    · have hn : negB (c :: r) = false := decide_eq_false (fun e => hc (by simpa using e))
      have hbo : bodyOf (c :: r) = c :: r := by unfold bodyOf; rw [hn]; rfl
      rw [hbo] at hb
      have h45 : ¬ c.toNat = 45 := fun e => hc (by rw [← UInt8.toNat_inj]; exact e)
      by_cases hp : c = 43
      · subst hp
        have hnb : numB (43 :: r) = false := by unfold numB; rw [hbo, all_not_plus, Bool.and_false]
        refine ⟨fun e => ?_, fun _ => hnb⟩
        exfalso
        rcases Int.lt_or_le v 0 with k | k
        · obtain ⟨u, rfl⟩ : ∃ u : Nat, v = -(u : Int) := ⟨v.natAbs, by omega⟩
          rw [itoa_neg _ (by omega)] at e
          injection e with e _
          cases e
        · obtain ⟨u, rfl⟩ := Int.eq_ofNat_of_zero_le k
          rw [itoa_nat] at e
          have := dec_head _ _ _ e
          cases this
      · have h43 : ¬ c.toNat = 43 := fun e => hp (by rw [← UInt8.toNat_inj]; exact e)
        simp only [parseIntB] at h
        rw [if_neg (by omega), parse_u (by simp) hb] at h
        cases ha : (c :: r).all digB
        · rw [ha] at h; cases h
        · rw [ha] at h
          simp only [if_true] at h
          have hlt := dv_lt ha (acc := 0) (k := 0) (by decide)
          rw [Nat.zero_add] at hlt
          have h18 : 10 ^ (c :: r).length ≤ 10 ^ 18 := Nat.pow_le_pow_right (by decide) hb
          rw [if_neg (by omega), if_neg (by simp [h45]), if_neg h45] at h
          injection h with h
          subst h
          rw [itoa_nat]
          by_cases hz : (c :: r).head? = some 48 ∧ 1 < (c :: r).length
          · have hnb : numB (c :: r) = false := by unfold numB; rw [hbo, decide_eq_false (fun k => k.2.2 hz)]; rfl
            exact ⟨fun e => absurd e (dec_not ha hz.1 hz.2), fun _ => hnb⟩
          · have hnb : numB (c :: r) = true := by
              unfold numB
              rw [hbo, decide_eq_true (show c :: r ≠ [] ∧ (c :: r).length ≤ 18 ∧ ¬ ((c :: r).head? = some 48 ∧ 1 < (c :: r).length) from ⟨by simp, hb, hz⟩), ha]; rfl
            have hd := dec_of ha (by simp) (by
              by_cases k : (c :: r).head? = some 48
              · right; have : ¬ 1 < (c :: r).length := fun q => hz ⟨k, q⟩
                rw [List.length_cons] at this ⊢; omega
              · exact .inl k)
            exact ⟨fun _ => ⟨hnb, by rw [numV_t hnb, hn, hbo]; rfl⟩, fun k => absurd hd k⟩
theorem read_no {l : List UInt8} (hb : (bodyOf l).length ≤ 18) (h : ∀ v, parseIntB 64 l ≠ .ok v) : numB l = false := by
  cases hn : numB l with
  | false => rfl
  | true =>
    exfalso
    unfold numB at hn
    rw [Bool.and_eq_true, decide_eq_true_iff] at hn
    obtain ⟨⟨h1, _, h3⟩, ha⟩ := hn
    have hlt := dv_lt ha (acc := 0) (k := 0) (by decide)
    rw [Nat.zero_add] at hlt
    have h18 : 10 ^ (bodyOf l).length ≤ 10 ^ 18 := Nat.pow_le_pow_right (by decide) hb
    cases l with
    | nil => exact h1 rfl
    | cons c r =>
      by_cases hc : c = 45
      · subst hc
        have hbo : bodyOf (45 :: r) = r := rfl
        rw [hbo] at h1 ha hlt h18 hb
        refine h (-(dv 0 r : Int)) ?_
        simp only [parseIntB]
        rw [if_pos (.inr (by decide)), parse_u h1 hb, ha]
        simp only [if_true]
        have e45 : (45 : UInt8).toNat = 45 := rfl
        rw [if_neg (by simp), if_neg (by omega), if_pos e45]
      · have hbo : bodyOf (c :: r) = c :: r := by unfold bodyOf; rw [show negB (c :: r) = false from decide_eq_false (fun e => hc (by simpa using e))]; rfl
        rw [hbo] at h1 ha hlt h18 hb
        have hcd := digB_iff.1 (by rw [List.all_cons, Bool.and_eq_true] at ha; exact ha.1)
        refine h (dv 0 (c :: r) : Int) ?_
        simp only [parseIntB]
        rw [if_neg (by omega), parse_u h1 hb, ha]
        simp only [if_true]
        rw [if_neg (by omega), if_neg (by omega), if_neg (by omega)]
theorem numB_long {l : List UInt8} (h : 18 < (bodyOf l).length) : numB l = false := by
  unfold numB
  rw [decide_eq_false (fun k => by have := k.2.1; omega)]; rfl
end Go.Proofs.YtphlbpailmdndaaDoor
