--%!
/- Plain laws on clock texts: the library's cut and the digits on its two sides against the five bytes that the reference looks at. No program in sight. Own work. -/
import Derived.Test.YtphlbpailmdndaaDoorTwo
import Derived.Test.YtphlbpailmdndaaDoorNumMath
import Derived.Lib.CutLaws
namespace Go.Proofs.YtphlbpailmdndaaDoor
set_option linter.unusedVariables false
open Go.Lib

/-- digits, at least one and at most eighteen -/
def dgB (l : List UInt8) : Bool := l.all digB && decide (1 ≤ l.length ∧ l.length ≤ 18)
theorem dgB_iff {l : List UInt8} : dgB l = true ↔ l.all digB = true ∧ 1 ≤ l.length ∧ l.length ≤ 18 := by unfold dgB; rw [Bool.and_eq_true, decide_eq_true_iff]
theorem dgB_bd {l : List UInt8} (h : dgB l = true) : dv 0 l < 1000000000000000000 := by
  obtain ⟨h1, h2, h3⟩ := dgB_iff.1 h
  have h4 := dv_lt h1 (show 0 < 10 ^ 0 by decide)
  have h5 : 10 ^ (0 + l.length) ≤ 10 ^ 18 := Nat.pow_le_pow_right (by decide) (by omega)
  exact Nat.lt_of_lt_of_le h4 (Nat.le_trans h5 (by decide))
/-- the two digits of a number -/
theorem padV_two {n : Nat} (h : n ≤ 99) : padV n = [UInt8.ofNat (48 + n / 10), UInt8.ofNat (48 + n % 10)] := by
  by_cases h1 : n < 10
  · rw [padV_lt (by omega), itoa_nat, decDigits_one h1, show n / 10 = 0 by omega, show n % 10 = n by omega]; rfl
  · rw [padV_ge (by omega), itoa_nat, decDigits_two h1 (by omega)]
theorem dig_of {k : Nat} (h : k ≤ 9) : digB (UInt8.ofNat (48 + k)) = true ∧ (UInt8.ofNat (48 + k)).toNat = 48 + k := by
  have e : (UInt8.ofNat (48 + k)).toNat = 48 + k := by rw [UInt8.toNat_ofNat']; omega
  exact ⟨digB_iff.2 (by rw [e]; omega), e⟩
theorem two_of {a b : UInt8} (ha : digB a = true) (hb : digB b = true) : padV ((10 * (a.toNat - 48) + (b.toNat - 48) : Nat) : Int) = [a, b] := by
  have ha := digB_iff.1 ha
  have hb := digB_iff.1 hb
  rw [padV_two (by omega), show 48 + (10 * (a.toNat - 48) + (b.toNat - 48)) / 10 = a.toNat by omega, show 48 + (10 * (a.toNat - 48) + (b.toNat - 48)) % 10 = b.toNat by omega, UInt8.ofNat_toNat, UInt8.ofNat_toNat]
theorem dv_two (a b : UInt8) : dv 0 [a, b] = 10 * (a.toNat - 48) + (b.toNat - 48) := by rw [dv_cons, dv_cons]; unfold dv; rw [List.foldl_nil]; omega
/-- what the reference reads -/
def ckOf (l : List UInt8) : Option Int := match l with
  | [a, b, x, c, d] => if x = 58 ∧ (digB a = true ∧ digB b = true) ∧ (digB c = true ∧ digB d = true) ∧ dv 0 [a, b] ≤ 23 ∧ dv 0 [c, d] ≤ 59 then some (60 * (dv 0 [a, b] : Int) + dv 0 [c, d]) else none
  | _ => none
theorem ckOf_5 (a b x c d : UInt8) : ckOf [a, b, x, c, d] = if x = 58 ∧ (digB a = true ∧ digB b = true) ∧ (digB c = true ∧ digB d = true) ∧ dv 0 [a, b] ≤ 23 ∧ dv 0 [c, d] ≤ 59 then some (60 * (dv 0 [a, b] : Int) + dv 0 [c, d]) else none := rfl
theorem ckOf_some {l : List UInt8} {n : Int} (h : ckOf l = some n) : ∃ a b c d, l = [a, b, 58, c, d] ∧ (digB a = true ∧ digB b = true) ∧ (digB c = true ∧ digB d = true) ∧ dv 0 [a, b] ≤ 23 ∧ dv 0 [c, d] ≤ 59 ∧ n = 60 * (dv 0 [a, b] : Int) + dv 0 [c, d] := by
  match l, h with
  | [a, b, x, c, d], h =>
    rw [ckOf_5] at h
    split at h
    · rename_i k
      obtain ⟨rfl, k1, k2, k3, k4⟩ := k
      exact ⟨a, b, c, d, rfl, k1, k2, k3, k4, (Option.some.inj h).symm⟩
    · cases h
theorem ckOf_clock {n : Int} (h0 : 0 ≤ n) (h1 : n ≤ 1439) : ckOf (clockV n) = some n := by
  obtain ⟨u, rfl⟩ := Int.eq_ofNat_of_zero_le h0
  rw [clockV_t ((inB_iff _ _ _).2 ⟨h0, h1⟩), show (u : Int) / 60 = ((u / 60 : Nat) : Int) by omega, show (u : Int) % 60 = ((u % 60 : Nat) : Int) by omega, padV_two (by omega), padV_two (by omega)]
  show ckOf [_, _, 58, _, _] = _
  have a := dig_of (k := u / 60 / 10) (by omega)
  have b := dig_of (k := u / 60 % 10) (by omega)
  have c := dig_of (k := u % 60 / 10) (by omega)
  have d := dig_of (k := u % 60 % 10) (by omega)
  rw [ckOf_5, dv_two, dv_two, a.2, b.2, c.2, d.2, if_pos ⟨rfl, ⟨a.1, b.1⟩, ⟨c.1, d.1⟩, by omega, by omega⟩]
  congr 1
  omega
theorem cut_5 {a b : UInt8} (ha : digB a = true) (hb : digB b = true) (c d : UInt8) : cut [a, b, 58, c, d] [58] = ([a, b], [c, d], true) := by
  have e1 : ¬ (58 : UInt8) = a := fun e => by rw [← e] at ha; cases ha
  have e2 : ¬ (58 : UInt8) = b := fun e => by rw [← e] at hb; cases hb
  have hi : index [a, b, 58, c, d] [58] = 2 := by simp [index, e1, e2]
  unfold cut
  rw [hi]
  rfl
/-- what the program's test says of a text -/
def ckI (l : List UInt8) : Prop := dgB (cut l [58]).1 = true ∧ dgB (cut l [58]).2.1 = true ∧ dv 0 (cut l [58]).1 ≤ 23 ∧ clockV (60 * (dv 0 (cut l [58]).1 : Int) + dv 0 (cut l [58]).2.1) = l
theorem ck_yes {l : List UInt8} (h : ckI l) : ckOf l = some (60 * (dv 0 (cut l [58]).1 : Int) + dv 0 (cut l [58]).2.1) := by
  obtain ⟨h1, h2, h3, h4⟩ := h
  cases hb : inB (60 * (dv 0 (cut l [58]).1 : Int) + dv 0 (cut l [58]).2.1) 0 1439
  · rw [clockV_f hb] at h4
    subst h4
    have := (dgB_iff.1 h1).2.1
    rw [show (cut [] [58]).1 = [] from rfl] at this
    simp at this
  · obtain ⟨b0, b1⟩ := (inB_iff _ _ _).1 hb
    have := ckOf_clock b0 b1
    rw [h4] at this
    exact this
theorem ck_no {l : List UInt8} (h : ¬ ckI l) : ckOf l = none := by
  cases hk : ckOf l with
  | none => rfl
  | some n =>
    exfalso
    apply h
    obtain ⟨a, b, c, d, rfl, ⟨ha, hb⟩, ⟨hc, hd⟩, h1, h2, rfl⟩ := ckOf_some hk
    unfold ckI
    rw [cut_5 ha hb]
    simp only
    have e1 := two_of ha hb
    have e2 := two_of hc hd
    rw [← dv_two] at e1 e2
    refine ⟨dgB_iff.2 ⟨by simp [ha, hb], by simp, by simp⟩, dgB_iff.2 ⟨by simp [hc, hd], by simp, by simp⟩, h1, ?_⟩
    rw [clockV_t ((inB_iff _ _ _).2 ⟨by omega, by omega⟩), show (60 * (dv 0 [a, b] : Int) + dv 0 [c, d]) / 60 = dv 0 [a, b] by omega, show (60 * (dv 0 [a, b] : Int) + dv 0 [c, d]) % 60 = dv 0 [c, d] by omega, e1, e2]
    rfl
end Go.Proofs.YtphlbpailmdndaaDoor
