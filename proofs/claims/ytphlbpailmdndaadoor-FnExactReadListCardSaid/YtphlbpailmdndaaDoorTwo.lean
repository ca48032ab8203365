--%!
/- Contracts: a number in two digits, reference and program alike. Own work. -/
import Derived.Test.YtphlbpailmdndaaDoorDecLaw
namespace Go.Proofs.YtphlbpailmdndaaDoor
open Go.ChangeShapes Go.WideShapes Go.ChangeAt Go.RowKit
set_option linter.unusedVariables false
set_option maxRecDepth 100000
set_option maxHeartbeats 1000000

def padV (n : Int) : List UInt8 := if n < 10 then 48 :: Lib.itoa n else Lib.itoa n
theorem padV_lt {n : Int} (h : n < 10) : padV n = 48 :: Lib.itoa n := if_pos h
theorem padV_ge {n : Int} (h : ¬ n < 10) : padV n = Lib.itoa n := if_neg h
theorem itoa_len {n : Int} (h0 : 0 ≤ n) (h1 : n ≤ 99) : (Lib.itoa n).length = if n < 10 then 1 else 2 := by
  obtain ⟨u, rfl⟩ := Int.eq_ofNat_of_zero_le h0
  unfold Lib.itoa
  rw [if_neg (by omega), Lib.decDigits_length]
  show Lib.nDigits u = _
  by_cases h : u < 10
  · rw [if_pos (by omega), Lib.nDigits_small h]
  · rw [if_neg (by omega), Lib.nDigits_big h, Lib.nDigits_small (by omega)]
theorem size_lst (l : List UInt8) : (⟨l.toArray⟩ : ByteArray).size = l.length := by show l.toArray.size = _; simp
theorem app_list (a b : List UInt8) : (⟨a.toArray⟩ : ByteArray) ++ ⟨b.toArray⟩ = ⟨(a ++ b).toArray⟩ := by
  have : ((⟨a.toArray⟩ : ByteArray) ++ ⟨b.toArray⟩).data = (a ++ b).toArray := by rw [ByteArray.data_append]; simp
  cases h : (⟨a.toArray⟩ : ByteArray) ++ ⟨b.toArray⟩ with
  | mk d => rw [h] at this; simp only at this; rw [this]
theorem nDig_le {u k : Nat} (h : u < 10 ^ k) (h1 : 1 ≤ k) : Lib.nDigits u ≤ k := by
  induction k generalizing u with
  | zero => omega
  | succ k ih =>
    by_cases hu : u < 10
    · rw [Lib.nDigits_small hu]; omega
    · rw [Lib.nDigits_big hu]
      have : 1 ≤ k := by
        rcases Nat.eq_zero_or_pos k with e | e
        · subst e; simp at h; omega
        · exact e
      have := ih (u := u / 10) (by rw [Nat.pow_succ] at h; omega) this
      omega
theorem itoa_le {n : Int} (h0 : -9223372036854775808 ≤ n) (h1 : n ≤ 9223372036854775807) : (Lib.itoa n).length ≤ 20 := by
  unfold Lib.itoa
  split
  · rw [List.length_cons, Lib.decDigits_length]
    have := nDig_le (u := n.natAbs) (k := 19) (by omega) (by decide)
    omega
  · rw [Lib.decDigits_length]
    have := nDig_le (u := n.toNat) (k := 19) (by omega) (by decide)
    omega
/-- the text of a number, under a name -/
theorem itoa_name {n : Int} (h0 : -9223372036854775808 ≤ n) (h1 : n ≤ 9223372036854775807) : ∃ t : ByteArray, t = ⟨(Lib.itoa n).toArray⟩ ∧ t.size ≤ 20 := ⟨_, rfl, by rw [size_lst]; exact itoa_le h0 h1⟩
theorem twoS (n : Int) (h0 : 0 ≤ n) (h1 : n ≤ 99) (w : World) :
    Calls Tryd.prog 66 #[.int .i64 n] w fun e w' => e = .returned (.string ⟨(padV n).toArray⟩) ∧ Below w.heap.size w w' := by
  obtain ⟨t, ht, hsz⟩ := itoa_name (n := n) (by omega) (by omega)
  have HT := hide ht
  clear ht
  by_cases h : n < 10
  · have H : Hid (⟨#[48]⟩ ++ t = (⟨(padV n).toArray⟩ : ByteArray)) := hide (by rw [HT.out, padV_lt h]; exact app_list [48] _)
    go_enter Tryd.func66, Tryd.ntmps66
    go_wp2_with fail
    refine (l01DecS n (by omega) (by omega) w).mono ?_
    rintro e w1 ⟨rfl, hb1⟩
    rw [← HT.out]
    go_wp2_with fail
    go_ret
    exact ⟨ret_str H.out, hb1⟩
  · have H : Hid (t = (⟨(padV n).toArray⟩ : ByteArray)) := hide (by rw [HT.out, padV_ge h])
    go_enter Tryd.func66, Tryd.ntmps66
    go_wp2_with fail
    refine (l01DecS n (by omega) (by omega) w).mono ?_
    rintro e w1 ⟨rfl, hb1⟩
    rw [← HT.out]
    go_wp2_with fail
    go_ret
    exact ⟨ret_str H.out, hb1⟩
theorem rep1 (c : Nat) (w : World) (h : c ≤ 10 := by decide) :
    Calls Tryd.prog 96 #[.string ⟨#[48]⟩, .int .i64 c] w fun e w' => e = .returned (.string ⟨(Lib.repeatL [48] c).toArray⟩) ∧ Below w.heap.size w w' :=
  Tryd.strings_Repeat ⟨#[48]⟩ c w (by omega) (by show 1 * c ≤ _; omega)
theorem paddedI (n : Int) (h0 : 0 ≤ n) (h1 : n ≤ 99) (w : World) (hp : Pow w) :
    Calls Tryd.prog 68 #[.int .i64 n, .int .i64 2] w fun e w' => e = .returned (.string ⟨(padV n).toArray⟩) ∧ Below w.heap.size w w' := by
  have HP := hide hp
  clear hp
  obtain ⟨t, ht, hsz⟩ := itoa_name (n := n) (by omega) (by omega)
  have hlen : t.size = if n < 10 then 1 else 2 := by rw [ht, size_lst, itoa_len h0 h1]
  have HT := hide ht
  clear ht
  by_cases h : n < 10
  · have H : Hid (⟨(Lib.repeatL [48] 1).toArray⟩ ++ t = (⟨(padV n).toArray⟩ : ByteArray)) := hide (by rw [HT.out, padV_lt h, app_list]; rfl)
    rw [if_pos h] at hlen
    go_enter Tryd.func68, Tryd.ntmps68
    go_wp2_with fail
    refine (decI n (by omega) (by omega) w HP.out).mono ?_
    rintro e w1 ⟨rfl, hb1⟩
    rw [← HT.out]
    go_wp2_with fail
    refine (rep1 1 _).mono ?_
    rintro e w2 ⟨rfl, hb2⟩
    have hB := below_next (w0 := w) hb2 hb1
    have hr : (⟨(Lib.repeatL [48] 1).toArray⟩ : ByteArray).size ≤ 10 := by rw [size_lst]; simp [Lib.repeatL]
    obtain ⟨z, hz⟩ : ∃ z : ByteArray, z = ⟨(Lib.repeatL [48] 1).toArray⟩ := ⟨_, rfl⟩
    rw [← hz] at H hr ⊢
    clear hz hb1 hb2
    go_wp2_with fail
    go_ret
    exact ⟨ret_str H.out, hB⟩
  · have H : Hid (⟨(Lib.repeatL [48] 0).toArray⟩ ++ t = (⟨(padV n).toArray⟩ : ByteArray)) := hide (by rw [HT.out, padV_ge h, app_list]; rfl)
    rw [if_neg h] at hlen
    go_enter Tryd.func68, Tryd.ntmps68
    go_wp2_with fail
    refine (decI n (by omega) (by omega) w HP.out).mono ?_
    rintro e w1 ⟨rfl, hb1⟩
    rw [← HT.out]
    go_wp2_with fail
    refine (rep1 0 _).mono ?_
    rintro e w2 ⟨rfl, hb2⟩
    have hB := below_next (w0 := w) hb2 hb1
    have hr : (⟨(Lib.repeatL [48] 0).toArray⟩ : ByteArray).size ≤ 10 := by rw [size_lst]; simp [Lib.repeatL]
    obtain ⟨z, hz⟩ : ∃ z : ByteArray, z = ⟨(Lib.repeatL [48] 0).toArray⟩ := ⟨_, rfl⟩
    rw [← hz] at H hr ⊢
    clear hz hb1 hb2
    go_wp2_with fail
    go_ret
    exact ⟨ret_str H.out, hB⟩
def clockV (m : Int) : List UInt8 := if inB m 0 1439 = true then padV (m / 60) ++ (58 :: padV (m % 60)) else []
theorem clockV_t {m : Int} (h : inB m 0 1439 = true) : clockV m = padV (m / 60) ++ (58 :: padV (m % 60)) := if_pos h
theorem clockV_f {m : Int} (h : inB m 0 1439 = false) : clockV m = [] := if_neg (by rw [h]; decide)
theorem padV_len {n : Int} (h0 : 0 ≤ n) (h1 : n ≤ 99) : (padV n).length = 2 := by
  by_cases h : n < 10
  · rw [padV_lt h, List.length_cons, itoa_len h0 h1, if_pos h]
  · rw [padV_ge h, itoa_len h0 h1, if_neg h]
theorem padV_name {n : Int} (h0 : 0 ≤ n) (h1 : n ≤ 99) : ∃ t : ByteArray, t = ⟨(padV n).toArray⟩ ∧ t.size ≤ 20 := ⟨_, rfl, by rw [size_lst, padV_len h0 h1]; decide⟩
theorem minuteI (n : Int) (w : World) : Calls Tryd.prog 67 #[.int .i64 n] w fun e w' => e = .returned (.bool (inB n 0 1439)) ∧ w = w' := by
  go_enter Tryd.func67, Tryd.ntmps67
  go_wp2_with fail
  refine (inI _ _ _ _).mono ?_
  rintro e w' ⟨rfl, rfl⟩
  go_wp2_with fail
  go_ret
  exact ⟨rfl, rfl⟩
theorem clockS (n : Int) (w : World) :
    Calls Tryd.prog 25 #[.int .i64 n] w fun e w' => e = .returned (.string ⟨(clockV n).toArray⟩) ∧ Below w.heap.size w w' := by
  cases hb : inB n 0 1439
  · have H : Hid (ByteArray.empty = (⟨(clockV n).toArray⟩ : ByteArray)) := hide (by rw [clockV_f hb]; rfl)
    have HB := hide hb
    clear hb
    go_enter Tryd.func25, Tryd.ntmps25
    go_wp2_with fail
    refine (inS _ _ _ _).mono ?_
    rw [HB.out]
    rintro e w' ⟨rfl, rfl⟩
    go_wp2_with fail
    go_ret
    exact ⟨ret_str H.out, Below.refl _ _⟩
  · obtain ⟨b0, b1⟩ := (inB_iff _ _ _).1 hb
    obtain ⟨t1, ht1, hs1⟩ := padV_name (n := n / 60) (by omega) (by omega)
    obtain ⟨t2, ht2, hs2⟩ := padV_name (n := n % 60) (by omega) (by omega)
    have H : Hid (t1 ++ ⟨#[58]⟩ ++ t2 = (⟨(clockV n).toArray⟩ : ByteArray)) := hide (by
      rw [clockV_t hb, ht1, ht2, show (⟨#[58]⟩ : ByteArray) = ⟨[(58 : UInt8)].toArray⟩ from rfl, app_list, app_list, List.append_assoc]; rfl)
    have HB := hide hb
    have HT1 := hide ht1
    have HT2 := hide ht2
    have ha : (t1 ++ ⟨#[58]⟩ : ByteArray).size ≤ 30 := by rw [ByteArray.size_append]; show t1.size + 1 ≤ 30; omega
    clear hb ht1 ht2
    go_enter Tryd.func25, Tryd.ntmps25
    go_wp2_with fail
    refine (inS _ _ _ _).mono ?_
    rw [HB.out]
    rintro e w' ⟨rfl, rfl⟩
    go_wp2_with fail
    refine (twoS (n / 60) (by omega) (by omega) w).mono ?_
    rintro e w1 ⟨rfl, hb1⟩
    rw [← HT1.out]
    go_wp2_with fail
    refine (twoS (n % 60) (by omega) (by omega) w1).mono ?_
    rintro e w2 ⟨rfl, hb2⟩
    rw [← HT2.out]
    have hB2 := below_next (w0 := w) hb2 hb1
    clear hb1 hb2
    go_wp2_with fail
    go_ret
    exact ⟨ret_str H.out, hB2⟩
theorem clockI (n : Int) (w : World) (hp : Pow w) :
    Calls Tryd.prog 26 #[.int .i64 n] w fun e w' => e = .returned (.string ⟨(clockV n).toArray⟩) ∧ Below w.heap.size w w' := by
  have HP := hide hp
  clear hp
  cases hb : inB n 0 1439
  · have H : Hid (ByteArray.empty = (⟨(clockV n).toArray⟩ : ByteArray)) := hide (by rw [clockV_f hb]; rfl)
    have HB := hide hb
    clear hb
    go_enter Tryd.func26, Tryd.ntmps26
    go_wp2_with fail
    refine (minuteI _ _).mono ?_
    rw [HB.out]
    rintro e w' ⟨rfl, rfl⟩
    go_wp2_with fail
    go_ret
    exact ⟨ret_str H.out, Below.refl _ _⟩
  · obtain ⟨b0, b1⟩ := (inB_iff _ _ _).1 hb
    obtain ⟨t1, ht1, hs1⟩ := padV_name (n := n / 60) (by omega) (by omega)
    obtain ⟨t2, ht2, hs2⟩ := padV_name (n := n % 60) (by omega) (by omega)
    have H : Hid (t1 ++ ⟨#[58]⟩ ++ t2 = (⟨(clockV n).toArray⟩ : ByteArray)) := hide (by
      rw [clockV_t hb, ht1, ht2, show (⟨#[58]⟩ : ByteArray) = ⟨[(58 : UInt8)].toArray⟩ from rfl, app_list, app_list, List.append_assoc]; rfl)
    have HB := hide hb
    have HT1 := hide ht1
    have HT2 := hide ht2
    have ha : (t1 ++ ⟨#[58]⟩ : ByteArray).size ≤ 30 := by rw [ByteArray.size_append]; show t1.size + 1 ≤ 30; omega
    clear hb ht1 ht2
    go_enter Tryd.func26, Tryd.ntmps26
    go_wp2_with fail
    refine (minuteI _ _).mono ?_
    rw [HB.out]
    rintro e w' ⟨rfl, rfl⟩
    go_wp2_with fail
    refine (paddedI (n / 60) (by omega) (by omega) w HP.out).mono ?_
    rintro e w1 ⟨rfl, hb1⟩
    rw [← HT1.out]
    have HP1 := hide (HP.out.below hb1)
    go_wp2_with fail
    refine (paddedI (n % 60) (by omega) (by omega) w1 HP1.out).mono ?_
    rintro e w2 ⟨rfl, hb2⟩
    rw [← HT2.out]
    have hB2 := below_next (w0 := w) hb2 hb1
    clear hb1 hb2
    go_wp2_with fail
    go_ret
    exact ⟨ret_str H.out, hB2⟩
theorem fnExactClockText_walk (n : Int) (h0 : -9223372036854775808 ≤ n) (h1 : n ≤ 9223372036854775807) (w : World) (hp : Pow w) :
    Calls Tryd.prog 7 #[.int .i64 n] w fun e w' => e = .returned (.bool true) ∧ Below w.heap.size w w' := by
  have HP := hide hp
  clear hp
  go_enter Tryd.func7, Tryd.ntmps7
  go_wp2_with fail
  refine (clockS n w).mono ?_
  rintro e w1 ⟨rfl, hb1⟩
  have HP1 := hide (HP.out.below hb1)
  go_wp2_with fail
  refine (clockI n w1 HP1.out).mono ?_
  rintro e w2 ⟨rfl, hb2⟩
  have hB2 := below_next (w0 := w) hb2 hb1
  clear hb1 hb2
  go_wp2_with fail
  go_ret
  exact ⟨rfl, hB2⟩
end Go.Proofs.YtphlbpailmdndaaDoor
