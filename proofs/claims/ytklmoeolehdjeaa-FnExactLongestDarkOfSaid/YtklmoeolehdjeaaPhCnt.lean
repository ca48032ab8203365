--%!
/- Contracts of the functions that count over the tenths of a period: how many are lit, how often it goes on; reference and program alike. Own work. -/
import Derived.Test.YtklmoeolehdjeaaPhPer
namespace Go.Proofs.Ytklmoeolehdjeaa
open Go.ChangeShapes Go.WideShapes Go.ChangeAt Go.RowKit
set_option linter.unusedVariables false
set_option maxRecDepth 100000
set_option maxHeartbeats 2000000

def cnt (f : Nat → Bool) : Nat → Int
  | 0 => 0
  | k + 1 => cnt f k + (if f k = true then 1 else 0)
theorem cnt_bd (f : Nat → Bool) (k : Nat) : 0 ≤ cnt f k ∧ cnt f k ≤ k := by
  induction k with
  | zero => simp [cnt]
  | succ k ih => unfold cnt; split <;> omega
theorem cnt_t {f : Nat → Bool} {k : Nat} (h : f k = true) : cnt f (k + 1) = cnt f k + 1 := by show cnt f k + (if f k = true then 1 else 0) = _; rw [if_pos h]
theorem cnt_f {f : Nat → Bool} {k : Nat} (h : f k = false) : cnt f (k + 1) = cnt f k := by show cnt f k + (if f k = true then 1 else 0) = _; rw [if_neg (by rw [h]; decide)]; omega
def litF (l : List UInt8) (t : Nat) : Bool := decide (l.getD t 0 ≠ 0)
def flashF (l : List UInt8) (t : Nat) : Bool := decide (l.getD t 0 ≠ 0) && decide (l.getD ((t + l.length - 1) % l.length) 0 = 0)
theorem isE_0 : (nameOf 0).toList.isEmpty = true := by unfold nameOf; rw [if_pos rfl, Lib.toList_data]; rfl
theorem isE_n {a : UInt8} (h : a ≠ 0) : (nameOf a).toList.isEmpty = false := by unfold nameOf; rw [if_neg h, Lib.toList_data]; rfl
theorem nat_n {a : UInt8} (h : a ≠ 0) : a.toNat ≠ 0 := fun e => h (by rw [← UInt8.toNat_inj]; exact e)
theorem back_rem (k n : Nat) (h : 1 ≤ n) : ((k : Int) + (n : Int) - 1).tmod (n : Int) = (((k + n - 1) % n : Nat) : Int) := by
  rw [Int.tmod_eq_emod_of_nonneg (by omega), show (k : Int) + (n : Int) - 1 = ((k + n - 1 : Nat) : Int) by omega, ← Int.natCast_emod]
theorem back_rem' (k n : Nat) (h : 1 ≤ n) : ((k : Int) + (n : Int) - 1) % (n : Int) = (((k + n - 1) % n : Nat) : Int) := by
  rw [show (k : Int) + (n : Int) - 1 = ((k + n - 1 : Nat) : Int) by omega, ← Int.natCast_emod]
theorem litI (g c : Nat) (l : List UInt8) (h0 : 1 ≤ l.length) (h1 : l.length ≤ 1000) (w : World) (ht : TAt w g l strV) :
    Calls Try.prog 64 #[.slice (some ⟨g, 0, none⟩) l.length c] w fun e w' => e = .returned (.int .i64 (cnt (litF l) l.length)) ∧ w = w' := by
  have HT := hide ht
  clear ht
  go_enter Try.func64, Try.ntmps64
  go_wp2
  go_loop [3, 8] (fun c i => ∃ k : Nat, k ≤ l.length ∧ c = .int .i64 (cnt (litF l) k) ∧ i = .int .i64 k) (fun _ i => l.length - (intOf i).toNat)
  case atStart => exact ⟨0, Nat.zero_le _, rfl, rfl⟩
  case round =>
    obtain ⟨k, hk, rfl, rfl⟩ := hrel
    have cb := cnt_bd (litF l) k
    by_cases hlt : k < l.length
    · have c1 := HT.out.at_ hlt
      unfold strV at c1
      obtain ⟨a, ha⟩ : ∃ a, a = l.getD k 0 := ⟨_, rfl⟩
      rw [← ha] at c1
      have HA := hide ha
      clear ha
      by_cases h : a = 0
      · have H : Hid (cnt (litF l) (k + 1) = cnt (litF l) k) := hide (cnt_f (by unfold litF; rw [← HA.out, h]; rfl))
        clear HA
        subst h
        have z1 := isE_0
        go_wp2
        go_round
        case rel => exact ⟨k + 1, by omega, by rw [H.out], by go_num⟩
        case measure => simp [intOf]; omega
      · have H : Hid (cnt (litF l) (k + 1) = cnt (litF l) k + 1) := hide (cnt_t (by unfold litF; rw [← HA.out]; exact decide_eq_true h))
        have n1 := isE_n h
        clear h
        go_wp2
        go_round
        case rel => exact ⟨k + 1, by omega, by rw [H.out], by go_num⟩
        case measure => simp [intOf]; omega
    · obtain rfl : k = l.length := by omega
      go_wp2
      go_ret
      exact ⟨rfl, rfl⟩
theorem litS (g c : Nat) (l : List UInt8) (h0 : 1 ≤ l.length) (h1 : l.length ≤ 1000) (w : World) (ht : TAt w g l byteV) :
    Calls Try.prog 63 #[.slice (some ⟨g, 0, none⟩) l.length c] w fun e w' => e = .returned (.int .i64 (cnt (litF l) l.length)) ∧ w = w' := by
  have HT := hide ht
  clear ht
  go_enter Try.func63, Try.ntmps63
  go_wp2
  go_loop [3, 4] (fun c i => ∃ k : Nat, k ≤ l.length ∧ c = .int .i64 (cnt (litF l) k) ∧ i = .int .i64 k) (fun _ i => l.length - (intOf i).toNat)
  case atStart => exact ⟨0, Nat.zero_le _, rfl, rfl⟩
  case round =>
    obtain ⟨k, hk, rfl, rfl⟩ := hrel
    have cb := cnt_bd (litF l) k
    by_cases hlt : k < l.length
    · have c1 := HT.out.at_ hlt
      unfold byteV at c1
      obtain ⟨a, ha⟩ : ∃ a, a = l.getD k 0 := ⟨_, rfl⟩
      rw [← ha] at c1
      have HA := hide ha
      clear ha
      by_cases h : a = 0
      · have H : Hid (cnt (litF l) (k + 1) = cnt (litF l) k) := hide (cnt_f (by unfold litF; rw [← HA.out, h]; rfl))
        clear HA
        subst h
        skip
        go_wp2
        go_round
        case rel => exact ⟨k + 1, by omega, by rw [H.out], by go_num⟩
        case measure => simp [intOf]; omega
      · have H : Hid (cnt (litF l) (k + 1) = cnt (litF l) k + 1) := hide (cnt_t (by unfold litF; rw [← HA.out]; exact decide_eq_true h))
        have n1 := nat_n h
        have n2 : ((a.toNat : Int) == 0) = false := by simpa using n1
        have n3 : ((a.toNat : Int) != 0) = true := by simpa using n1
        clear h
        go_wp2
        go_round
        case rel => exact ⟨k + 1, by omega, by rw [H.out], by go_num⟩
        case measure => simp [intOf]; omega
    · obtain rfl : k = l.length := by omega
      go_wp2
      go_ret
      exact ⟨rfl, rfl⟩
theorem flashI (g c : Nat) (l : List UInt8) (h0 : 1 ≤ l.length) (h1 : l.length ≤ 1000) (w : World) (ht : TAt w g l strV) :
    Calls Try.prog 62 #[.slice (some ⟨g, 0, none⟩) l.length c] w fun e w' => e = .returned (.int .i64 (cnt (flashF l) l.length)) ∧ w = w' := by
  have HT := hide ht
  clear ht
  go_enter Try.func62, Try.ntmps62
  go_wp2
  go_loop [3, 8] (fun c i => ∃ k : Nat, k ≤ l.length ∧ c = .int .i64 (cnt (flashF l) k) ∧ i = .int .i64 k) (fun _ i => l.length - (intOf i).toNat)
  case atStart => exact ⟨0, Nat.zero_le _, rfl, rfl⟩
  case round =>
    obtain ⟨k, hk, rfl, rfl⟩ := hrel
    have cb := cnt_bd (flashF l) k
    by_cases hlt : k < l.length
    · have c1 := HT.out.at_ hlt
      unfold strV at c1
      obtain ⟨a, ha⟩ : ∃ a, a = l.getD k 0 := ⟨_, rfl⟩
      rw [← ha] at c1
      have HA := hide ha
      clear ha
      obtain ⟨m, hme⟩ : ∃ m, m = (k + l.length - 1) % l.length := ⟨_, rfl⟩
      have hm : m < l.length := by rw [hme]; exact Nat.mod_lt _ h0
      have c2 := HT.out.at_ hm
      unfold strV at c2
      have s1 := back_rem k l.length h0
      have s2 := back_rem' k l.length h0
      have s3 : ¬ l.length = 0 := by omega
      rw [← hme] at s1 s2
      have HM := hide hme
      clear hme
      obtain ⟨b, hb⟩ : ∃ b, b = l.getD m 0 := ⟨_, rfl⟩
      rw [← hb] at c2
      have HB := hide hb
      clear hb
      by_cases h : a = 0
      · have H : Hid (cnt (flashF l) (k + 1) = cnt (flashF l) k) := hide (cnt_f (by unfold flashF; rw [← HA.out, h]; rfl))
        clear HA
        subst h
        have z1 := isE_0
        go_wp2
        go_round
        case rel => exact ⟨k + 1, by omega, by rw [H.out], by go_num⟩
        case measure => simp [intOf]; omega
      · have n1 := isE_n h
        by_cases h' : b = 0
        · have H : Hid (cnt (flashF l) (k + 1) = cnt (flashF l) k + 1) := hide (cnt_t (by unfold flashF; rw [← HM.out, ← HA.out, ← HB.out, decide_eq_true h, decide_eq_true h']; rfl))
          clear h HA HB
          subst h'
          have z1 := isE_0
          go_wp2
          go_round
          case rel => exact ⟨k + 1, by omega, by rw [H.out], by go_num⟩
          case measure => simp [intOf]; omega
        · have H : Hid (cnt (flashF l) (k + 1) = cnt (flashF l) k) := hide (cnt_f (by unfold flashF; rw [← HM.out, ← HA.out, ← HB.out, decide_eq_false h', Bool.and_false]))
          have n1b := isE_n h'
          clear h h'
          go_wp2
          go_round
          case rel => exact ⟨k + 1, by omega, by rw [H.out], by go_num⟩
          case measure => simp [intOf]; omega
    · obtain rfl : k = l.length := by omega
      go_wp2
      go_ret
      exact ⟨rfl, rfl⟩
theorem flashS (g c : Nat) (l : List UInt8) (h0 : 1 ≤ l.length) (h1 : l.length ≤ 1000) (w : World) (ht : TAt w g l byteV) :
    Calls Try.prog 61 #[.slice (some ⟨g, 0, none⟩) l.length c] w fun e w' => e = .returned (.int .i64 (cnt (flashF l) l.length)) ∧ w = w' := by
  have HT := hide ht
  clear ht
  go_enter Try.func61, Try.ntmps61
  go_wp2
  go_loop [3, 4] (fun c i => ∃ k : Nat, k ≤ l.length ∧ c = .int .i64 (cnt (flashF l) k) ∧ i = .int .i64 k) (fun _ i => l.length - (intOf i).toNat)
  case atStart => exact ⟨0, Nat.zero_le _, rfl, rfl⟩
  case round =>
    obtain ⟨k, hk, rfl, rfl⟩ := hrel
    have cb := cnt_bd (flashF l) k
    by_cases hlt : k < l.length
    · have c1 := HT.out.at_ hlt
      unfold byteV at c1
      obtain ⟨a, ha⟩ : ∃ a, a = l.getD k 0 := ⟨_, rfl⟩
      rw [← ha] at c1
      have HA := hide ha
      clear ha
      obtain ⟨m, hme⟩ : ∃ m, m = (k + l.length - 1) % l.length := ⟨_, rfl⟩
      have hm : m < l.length := by rw [hme]; exact Nat.mod_lt _ h0
      have c2 := HT.out.at_ hm
      unfold byteV at c2
      have s1 := back_rem k l.length h0
      have s2 := back_rem' k l.length h0
      have s3 : ¬ l.length = 0 := by omega
      rw [← hme] at s1 s2
      have HM := hide hme
      clear hme
      obtain ⟨b, hb⟩ : ∃ b, b = l.getD m 0 := ⟨_, rfl⟩
      rw [← hb] at c2
      have HB := hide hb
      clear hb
      by_cases h : a = 0
      · have H : Hid (cnt (flashF l) (k + 1) = cnt (flashF l) k) := hide (cnt_f (by unfold flashF; rw [← HA.out, h]; rfl))
        clear HA
        subst h
        skip
        go_wp2
        go_round
        case rel => exact ⟨k + 1, by omega, by rw [H.out], by go_num⟩
        case measure => simp [intOf]; omega
      · have n1 := nat_n h
        have n2 : ((a.toNat : Int) == 0) = false := by simpa using n1
        have n3 : ((a.toNat : Int) != 0) = true := by simpa using n1
        by_cases h' : b = 0
        · have H : Hid (cnt (flashF l) (k + 1) = cnt (flashF l) k + 1) := hide (cnt_t (by unfold flashF; rw [← HM.out, ← HA.out, ← HB.out, decide_eq_true h, decide_eq_true h']; rfl))
          clear h HA HB
          subst h'
          skip
          go_wp2
          go_round
          case rel => exact ⟨k + 1, by omega, by rw [H.out], by go_num⟩
          case measure => simp [intOf]; omega
        · have H : Hid (cnt (flashF l) (k + 1) = cnt (flashF l) k) := hide (cnt_f (by unfold flashF; rw [← HM.out, ← HA.out, ← HB.out, decide_eq_false h', Bool.and_false]))
          have n1b := nat_n h'
          have n2b : ((b.toNat : Int) == 0) = false := by simpa using n1b
          have n3b : ((b.toNat : Int) != 0) = true := by simpa using n1b
          clear h h'
          go_wp2
          go_round
          case rel => exact ⟨k + 1, by omega, by rw [H.out], by go_num⟩
          case measure => simp [intOf]; omega
    · obtain rfl : k = l.length := by omega
      go_wp2
      go_ret
      exact ⟨rfl, rfl⟩
end Go.Proofs.Ytklmoeolehdjeaa
