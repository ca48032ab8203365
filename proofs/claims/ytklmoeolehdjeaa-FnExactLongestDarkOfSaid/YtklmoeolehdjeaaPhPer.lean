--%!
/- Contracts of the functions that find the period of a list of tenths, reference and program alike. Own work. -/
import Derived.Test.YtklmoeolehdjeaaPhAt
import Derived.Test.YtklmoeolehdjeaaPerMath
namespace Go.Proofs.Ytklmoeolehdjeaa
open Go.ChangeShapes Go.WideShapes Go.ChangeAt Go.RowKit
set_option linter.unusedVariables false
set_option maxRecDepth 100000
set_option maxHeartbeats 2000000

theorem of_drewN {W w1 : World} (h : ∃ k, w1 = W.drewN k) : Below W.heap.size W w1 := by
  obtain ⟨k, rfl⟩ := h
  have r := Below.refl W.heap.size W
  exact ⟨r.os, r.tape, r.output, r.size, r.block⟩
theorem of_drewN' {B : Nat} {w W : World} (h : Below B w W) (k : Nat) : Below B w (W.drewN k) := ⟨h.os, h.tape, h.output, h.size, h.block⟩
theorem ret_slice {A : Option Addr} {n m c : Nat} (h : n = m) : Ending.returned (.slice A n c) = .returned (.slice A m c) := by rw [h]
theorem nameOf_inj {a b : UInt8} (h : a ≠ b) : nameOf a ≠ nameOf b := by
  unfold nameOf
  by_cases h1 : a = 0
  · rw [if_pos h1, if_neg (fun e => h (h1.trans e.symm))]
    intro e
    have := congrArg ByteArray.size e
    cases this
  · by_cases h2 : b = 0
    · rw [if_neg h1, if_pos h2]
      intro e
      have := congrArg ByteArray.size e
      cases this
    · rw [if_neg h1, if_neg h2]
      exact fun e => h (mk1_inj e)
theorem neS {a b : UInt8} (h : a ≠ b) : (!(nameOf a).toList == (nameOf b).toList) = true := by
  have := toList_ne (nameOf_inj h)
  simpa using this
theorem eqS {a b : UInt8} (h : a = b) : (!(nameOf a).toList == (nameOf b).toList) = false := by subst h; simp
theorem neB {a b : UInt8} (h : a ≠ b) : ((a.toNat : Int) == (b.toNat : Int)) = false := by
  have : a.toNat ≠ b.toNat := fun e => h (UInt8.toNat_inj.1 e)
  simp; omega
theorem eqB {a b : UInt8} (h : a = b) : ((a.toNat : Int) == (b.toNat : Int)) = true := by subst h; simp
theorem TAt.at_ {w : World} {g : Nat} {l : List UInt8} {f : UInt8 → Value} (h : TAt w g l f) {k : Nat} (hk : k < l.length) : w.cell? ⟨g, k, none⟩ = some (f (l.getD k 0)) := by rw [getD_at hk]; exact h k hk
theorem sum_rem (a b n : Nat) : ((a : Int) + (b : Int)).tmod (n : Int) = (((a + b) % n : Nat) : Int) := by
  rw [Int.tmod_eq_emod_of_nonneg (by omega), ← Int.natCast_add, ← Int.natCast_emod]
theorem i64_sum (a b : Nat) (h : a + b ≤ 1000000) : IntKind.i64.wrap ((a : Int) + (b : Int)) = (a : Int) + (b : Int) := IntWalk.i64_in _ (by omega)
theorem repeatsI (g c : Nat) (l : List UInt8) (h0 : 1 ≤ l.length) (h1 : l.length ≤ 1000) (n : Nat) (hn : n ≤ 1000) (w : World) (ht : TAt w g l strV) :
    Calls Try.prog 78 #[.slice (some ⟨g, 0, none⟩) l.length c, .int .i64 n] w fun e w' => e = .returned (.bool (repB l n)) ∧ ∃ j, w' = w.drewN j := by
  have HT := hide ht
  clear ht
  go_enter Try.func78, Try.ntmps78
  go_wp2
  go_loopw [5, 8] (fun _ i wr => ∃ k : Nat, k ≤ l.length ∧ Hid (∀ t, t < k → l.getD t 0 = l.getD ((t + n) % l.length) 0) ∧ i = .int .i64 k ∧ ∃ j, wr = w.drewN j) (fun _ i _ => l.length - (intOf i).toNat)
  case atStart => exact ⟨0, Nat.zero_le _, hide (fun t h => absurd h (by omega)), rfl, 0, rfl⟩
  case round =>
    obtain ⟨k, hk, hr, rfl, j, rfl⟩ := hrel
    by_cases hlt : k < l.length
    · obtain ⟨m, hme⟩ : ∃ m, m = (k + n) % l.length := ⟨_, rfl⟩
      have hm : m < l.length := by rw [hme]; exact Nat.mod_lt _ h0
      have c1 := HT.out.at_ hlt
      have c2 := HT.out.at_ hm
      unfold strV at c1 c2
      have s1 := i64_sum k n (by omega)
      have s2 := sum_rem k n l.length
      have s3 : ¬ l.length = 0 := by omega
      rw [← hme] at s2
      have HM := hide hme
      clear hme
      obtain ⟨a, ha⟩ : ∃ a, a = l.getD k 0 := ⟨_, rfl⟩
      obtain ⟨b, hb⟩ : ∃ b, b = l.getD m 0 := ⟨_, rfl⟩
      rw [← ha] at c1
      rw [← hb] at c2
      have HA := hide ha
      have HB := hide hb
      clear ha hb
      by_cases he : a = b
      · have q1 := eqS he
        have H : Hid (l.getD k 0 = l.getD ((k + n) % l.length) 0) := hide (by rw [← HM.out, ← HA.out, ← HB.out]; exact he)
        clear he
        go_wp2_with fail
        go_quiet (fail)
        go_wp2
        go_roundw
        case rel => exact ⟨k + 1, by omega, hide (fun t ht => by
          by_cases e : t = k
          · subst e; exact H.out
          · exact hr.out t (by omega)), by go_num, _, rfl⟩
        case measure => simp [intOf]; omega
      · have q1 := neS he
        have H := hide (repB_no (n := n) hlt (by rw [← HM.out, ← HA.out, ← HB.out]; exact he))
        clear he
        go_wp2_with fail
        go_quiet (fail)
        go_wp2
        go_ret
        exact ⟨ret_bool H.out.symm, _, by first | rfl | exact World.drewN_drewN _ _ _⟩
    · obtain rfl : k = l.length := by omega
      have H := hide (repB_t hr.out)
      go_wp2
      go_ret
      exact ⟨ret_bool H.out.symm, _, rfl⟩
/-- the tenths of one period -/
noncomputable def once (ps : List (ByteArray × Int)) : List UInt8 := (tn ps).take (per (tn ps))
theorem once_len {ps : List (ByteArray × Int)} (h : 1 ≤ (tn ps).length) : (once ps).length = per (tn ps) := by
  unfold once
  rw [List.length_take]
  have := (per_spec h).le
  omega
theorem onePerI (g n c : Nat) (ps : List (ByteArray × Int)) (hn : ps.length = n) (hm : n ≤ 40) (hok : ps.all elOk = true) (h1 : 1 ≤ (tn ps).length) (h2 : (tn ps).length ≤ 600) (w : World) (hp : PhAt w g 0 ps) (hg : g < w.heap.size) :
    Calls Try.prog 60 #[.slice (some ⟨g, 0, none⟩) n c] w fun e w' => ∃ g' c', e = .returned (.slice (some ⟨g', 0, none⟩) (per (tn ps)) c') ∧ w.heap.size ≤ g' ∧ g' < w'.heap.size ∧ TAt w' g' (once ps) strV ∧ Below w.heap.size w w' := by
  have HP := hide hp
  have HN := hide hn
  have HA := hide hok
  have hper := per_spec h1
  have HD := hide hper
  obtain ⟨q0, q1, -, -⟩ := hper
  clear hp hn hok
  go_enter Try.func60, Try.ntmps60
  go_wp2_with fail
  refine (tenthsI g n c ps HN.out hm HA.out w HP.out hg).mono ?_
  rintro e w1 ⟨v, rfl, ho, hb1⟩
  obtain ⟨g1, c1, rfl, hc1, hc1', hg1, hl1, ht1⟩ := Owns.form' ho h1
  have HT := hide ht1
  clear ho ht1
  go_wp2_with fail
  go_loopw [4] (fun i wr => ∃ k : Nat, 1 ≤ k ∧ k ≤ per (tn ps) ∧ i = .int .i64 k ∧ ∃ j, wr = w1.drewN j) (fun i _ => per (tn ps) - (intOf i).toNat)
  case atStart => exact ⟨1, by omega, by omega, rfl, 0, rfl⟩
  case round =>
    obtain ⟨k, hk0, hk, rfl, j, rfl⟩ := hrel
    by_cases hr : Rep (tn ps) k
    · have H := hide (HD.out.found hk hk0 hr)
      have R := hide (repB_t hr)
      clear hr
      go_wp2_with fail
      refine (repeatsI g1 c1 (tn ps) h1 (by omega) k (by omega) (w1.drewN j) HT.out).mono ?_
      rw [R.out]
      rintro e w2 ⟨rfl, hw2⟩
      have hB := below_next (w0 := w) (of_drewN hw2) (of_drewN' hb1 j)
      have hz : g1 < w2.heap.size := by obtain ⟨q, rfl⟩ := hw2; exact hl1
      have HT2 : Hid (TAt w2 g1 (tn ps) strV) := by obtain ⟨q, rfl⟩ := hw2; exact HT
      clear hw2
      go_wp2_with fail
      go_ret
      exact ⟨g1, c1, ret_slice H.out.symm, hg1, hz, by unfold once; exact HT2.out.take _, hB⟩
    · have H := HD.out.next hk hr
      have R := hide (repB_f hr)
      clear hr
      go_wp2_with fail
      refine (repeatsI g1 c1 (tn ps) h1 (by omega) k (by omega) (w1.drewN j) HT.out).mono ?_
      rw [R.out]
      rintro e w2 ⟨rfl, q, rfl⟩
      go_wp2_with fail
      go_roundw
      case rel => exact ⟨k + 1, by omega, H, by go_num, j + q, by first | rfl | exact World.drewN_drewN _ _ _⟩
      case measure => simp [intOf]; omega
theorem l06PeriodS (g c : Nat) (l : List UInt8) (h0 : 1 ≤ l.length) (h1 : l.length ≤ 1000) (w : World) (ht : TAt w g l byteV) :
    Calls Try.prog 77 #[.slice (some ⟨g, 0, none⟩) l.length c] w fun e w' => e = .returned (.int .i64 (per l)) ∧ ∃ j, w' = w.drewN j := by
  have HT := hide ht
  have hper := per_spec h0
  have HD := hide hper
  obtain ⟨q0, q1, -, -⟩ := hper
  clear ht
  go_enter Try.func77, Try.ntmps77
  go_wp2
  go_loopw [3] (fun i wr => ∃ k : Nat, 1 ≤ k ∧ k ≤ per l ∧ i = .int .i64 k ∧ ∃ j, wr = w.drewN j) (fun i _ => l.length - (intOf i).toNat)
  case atStart => exact ⟨1, by omega, by omega, rfl, 0, rfl⟩
  case round =>
    obtain ⟨k, hk0, hk, rfl, j, rfl⟩ := hrel
    by_cases hlt : k < l.length
    · have s2 : (l.length : Int).tmod (k : Int) = ((l.length % k : Nat) : Int) := by rw [Int.tmod_eq_emod_of_nonneg (by omega), ← Int.natCast_emod]
      have s3 : ¬ k = 0 := by omega
      by_cases hd : l.length % k = 0
      · rw [hd] at s2
        have HDv := hide hd
        clear hd
        go_wp2
        go_loopw [4, 5] (fun s i wr => ∃ (q : Nat) (b : Bool), q ≤ l.length ∧ s = .bool b ∧ i = .int .i64 q ∧ Hid (if b = true then Sh l k q else ¬ Rep l k) ∧ ∃ j, wr = w.drewN j) (fun _ i _ => l.length - (intOf i).toNat)
        case atStart => exact ⟨0, true, Nat.zero_le _, rfl, rfl, hide (sh_zero l k), j, rfl⟩
        case round =>
          obtain ⟨q, b, hq, rfl, rfl, hs, j2, rfl⟩ := hrel
          cases b
          · have H := HD.out.next hk hs.out
            by_cases hlq : q + k < l.length
            all_goals
              go_wp2
              go_roundw
              case rel => exact ⟨k + 1, by omega, H, by go_num, _, rfl⟩
              case measure => simp [intOf]; omega
          · have hsh : Hid (Sh l k q) := hs
            clear hs
            by_cases hlq : q + k < l.length
            · have hlq1 : q < l.length := by omega
              have e1 := HT.out.at_ hlq1
              have e2 := HT.out.at_ hlq
              unfold byteV at e1 e2
              have s1 := i64_sum q k (by omega)
              obtain ⟨a, ha⟩ : ∃ a, a = l.getD q 0 := ⟨_, rfl⟩
              obtain ⟨b, hb⟩ : ∃ b, b = l.getD (q + k) 0 := ⟨_, rfl⟩
              rw [← ha] at e1
              rw [← hb] at e2
              have HA := hide ha
              have HB := hide hb
              clear ha hb
              by_cases he : a = b
              · have t1 := eqB he
                have H : Hid (l.getD q 0 = l.getD (q + k) 0) := hide (by rw [← HA.out, ← HB.out]; exact he)
                clear he
                go_wp2_with fail
                go_quiet (fail)
                go_wp2
                go_roundw
                case rel => exact ⟨q + 1, true, by omega, rfl, by go_num, hide (sh_succ hsh.out H.out), _, rfl⟩
                case measure => simp [intOf]; omega
              · have t1 := neB he
                have H : Hid (¬ Rep l k) := hide (not_rep_of hlq (by rw [← HA.out, ← HB.out]; exact he))
                clear he
                go_wp2_with fail
                go_quiet (fail)
                go_wp2
                go_roundw
                case rel => exact ⟨q + 1, false, by omega, rfl, by go_num, H, _, rfl⟩
                case measure => simp [intOf]; omega
            · have R : Hid (per l = k) := hide (HD.out.found hk hk0 (rep_of_sh hsh.out (by omega) hk0 (by omega) HDv.out))
              go_wp2
              go_ret
              exact ⟨ret_int (by rw [R.out]), _, rfl⟩
      · have H := HD.out.next' hk hd
        have s4 : ((l.length % k : Nat) : Int) ≠ 0 := by omega
        obtain ⟨m, hm⟩ : ∃ m : Nat, m = l.length % k := ⟨_, rfl⟩
        rw [← hm] at s2 s4 hd
        have s5 : ¬ m = 0 := hd
        clear hm hd
        go_wp2
        go_roundw
        case rel => exact ⟨k + 1, by omega, H, by go_num, _, rfl⟩
        case measure => simp [intOf]; omega
    · have H : Hid (per l = l.length) := hide (by omega)
      go_wp2
      go_ret
      exact ⟨ret_int (by rw [H.out]), _, rfl⟩
theorem onceS (g n c : Nat) (ps : List (ByteArray × Int)) (hn : ps.length = n) (hm : n ≤ 40) (hok : ps.all elOk = true) (h1 : 1 ≤ (tn ps).length) (h2 : (tn ps).length ≤ 600) (w : World) (hp : PhAt w g 0 ps) (hg : g < w.heap.size) :
    Calls Try.prog 59 #[.slice (some ⟨g, 0, none⟩) n c] w fun e w' => ∃ g' c', e = .returned (.slice (some ⟨g', 0, none⟩) (per (tn ps)) c') ∧ w.heap.size ≤ g' ∧ g' < w'.heap.size ∧ TAt w' g' (once ps) byteV ∧ Below w.heap.size w w' := by
  have HP := hide hp
  have HN := hide hn
  have HA := hide hok
  obtain ⟨q0, q1, -, -⟩ := per_spec h1
  clear hp hn hok
  go_enter Try.func59, Try.ntmps59
  go_wp2_with fail
  refine (tenthsS g n c ps HN.out hm HA.out w HP.out hg).mono ?_
  rintro e w1 ⟨v, rfl, ho, hb1⟩
  obtain ⟨g1, c1, rfl, hc1, hc1', hg1, hl1, ht1⟩ := Owns.form' ho h1
  have HT := hide ht1
  clear ho ht1
  go_wp2_with fail
  refine (l06PeriodS g1 c1 (tn ps) h1 (by omega) w1 HT.out).mono ?_
  rintro e w2 ⟨rfl, hw2⟩
  have hB := below_next (w0 := w) (of_drewN hw2) hb1
  have hz : g1 < w2.heap.size := by obtain ⟨q, rfl⟩ := hw2; exact hl1
  have HT2 : Hid (TAt w2 g1 (tn ps) byteV) := by obtain ⟨q, rfl⟩ := hw2; exact HT
  clear hw2
  go_wp2_with fail
  go_ret
  exact ⟨g1, c1, rfl, hg1, hz, by unfold once; exact HT2.out.take _, hB⟩
end Go.Proofs.Ytklmoeolehdjeaa
