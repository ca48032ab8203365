--%!
/- The walk of the law on bearings that the seat has: it returns true. -/
import Derived.Test.YtnmihmjgmanllaaPlaces
import Derived.Deep.DeepCutAuto
namespace Go.Proofs.Ytnmihmjgmanllaa
open Go.ChangeShapes Go.WideShapes Go.ChangeAt Go.RowKit
set_option linter.unusedVariables false
set_option maxRecDepth 100000
set_option maxHeartbeats 4000000

theorem quiet_add_left {P : Program} {f : FuncId} {args : Array Value} {w : World} {a n : Nat} {v : Value}
    (h : Calls P f args (w.drewN (a + n)) fun e w' => e = .returned v ∧ w.drewN (a + n) = w') : Calls P f args (w.drewN (a + n)) fun e w'' => e = .returned v ∧ ∃ m, w'' = w.drewN (a + m) :=
  h.mono fun _ _ ⟨he, hm⟩ => ⟨he, n, hm.symm⟩
theorem quiet_left {P : Program} {f : FuncId} {args : Array Value} {w : World} {n : Nat} {v : Value}
    (h : Calls P f args (w.drewN n) fun e w' => e = .returned v ∧ w.drewN n = w') : Calls P f args (w.drewN n) fun e w'' => e = .returned v ∧ ∃ m, w'' = w.drewN m :=
  h.mono fun _ _ ⟨he, hm⟩ => ⟨he, n, hm.symm⟩
def along (a b c d : Int) (t : Int) : Int := (c - a) * sine t + (d - b) * cosine t
theorem along_parts {a b c d : Int} (h : okP a b = true) (k : okP c d = true) (t : Int) : (-200000 ≤ c - a ∧ c - a ≤ 200000) ∧ (-200000 ≤ d - b ∧ d - b ≤ 200000) ∧
    (-200000000000 ≤ (c - a) * sine t ∧ (c - a) * sine t ≤ 200000000000) ∧ -200000000000 ≤ (d - b) * cosine t ∧ (d - b) * cosine t ≤ 200000000000 := by
  have h1 := okP_bd h
  have h2 := okP_bd k
  have s := sine_bd t
  have e := cosine_bd t
  exact ⟨by omega, by omega, mul_abs (A := 200000) (B := 1000000) (by omega) (by omega) (by omega) (by omega) (by omega) (by omega), mul_abs (A := 200000) (B := 1000000) (by omega) (by omega) (by omega) (by omega) (by omega) (by omega)⟩
theorem along_bd {a b c d : Int} (h : okP a b = true) (k : okP c d = true) (t : Int) : -400000000000 ≤ along a b c d t ∧ along a b c d t ≤ 400000000000 := by
  have := along_parts h k t
  unfold along; omega
/-- the first greatest value among the first n -/
def brT (f : Nat → Int) : Nat → Int × Int
  | 0 => (0, f 0)
  | n + 1 => if (brT f n).2 < f n then ((n : Int), f n) else brT f n
theorem brT_one (f : Nat → Int) : brT f 1 = (0, f 0) := by simp [brT]
theorem brT_yes {f : Nat → Int} {n : Nat} (h : (brT f n).2 < f n) : brT f (n + 1) = ((n : Int), f n) := if_pos h
theorem brT_no {f : Nat → Int} {n : Nat} (h : ¬ (brT f n).2 < f n) : brT f (n + 1) = brT f n := if_neg h
def bearV (a b c d : Int) : Int := (brT (fun n => along a b c d (n : Int)) 360).1
theorem brT_bd {f : Nat → Int} {B : Int} (hf : ∀ n, -B ≤ f n ∧ f n ≤ B) : ∀ n, (-B ≤ (brT f n).2 ∧ (brT f n).2 ≤ B) ∧ 0 ≤ (brT f n).1 ∧ (brT f n).1 ≤ n := by
  intro n
  induction n with
  | zero => exact ⟨hf 0, by simp [brT]⟩
  | succ n ih =>
    unfold brT
    split
    · exact ⟨hf n, by simp; omega⟩
    · exact ⟨ih.1, ih.2.1, by omega⟩
theorem brT_zero {f : Nat → Int} (hf : ∀ n, f n = 0) : ∀ n, brT f n = (0, 0) := by
  intro n
  induction n with
  | zero => simp [brT, hf]
  | succ n ih => unfold brT; rw [ih, hf]; simp
theorem bear_same (a b : Int) : bearV a b a b = 0 := by
  unfold bearV
  rw [brT_zero (fun n => by unfold along; simp)]
theorem alongI (A B : Nat) (a b c d t : Int) (h : okP a b = true) (k : okP c d = true) (h0 : -9223372036854775808 ≤ t) (h1 : t ≤ 9223372036854775807) (w : World)
    (c0 : w.cell? ⟨A, 0, none⟩ = some (.int .i64 a)) (c1 : w.cell? ⟨A, 1, none⟩ = some (.int .i64 b)) (c2 : w.cell? ⟨B, 0, none⟩ = some (.int .i64 c)) (c3 : w.cell? ⟨B, 1, none⟩ = some (.int .i64 d)) :
    Calls Try.prog 54 #[.int .i64 t, .pointer (some ⟨B, 0, none⟩), .pointer (some ⟨A, 0, none⟩)] w fun e w' => e = .returned (.int .i64 (along a b c d t)) ∧ ∃ n, w.drewN n = w' := by
  obtain ⟨⟨p1, p2⟩, ⟨p3, p4⟩, ⟨p5, p6⟩, p7, p8⟩ := along_parts h k t
  have e1 : IntKind.i64.wrap (c - a) = c - a := IntWalk.i64_in _ (by omega)
  have e2 : IntKind.i64.wrap (d - b) = d - b := IntWalk.i64_in _ (by omega)
  have e3 : IntKind.i64.wrap ((c - a) * sine t) = (c - a) * sine t := IntWalk.i64_in _ (by omega)
  have e4 : IntKind.i64.wrap ((d - b) * cosine t) = (d - b) * cosine t := IntWalk.i64_in _ (by omega)
  have e5 : IntKind.i64.wrap ((c - a) * sine t + (d - b) * cosine t) = (c - a) * sine t + (d - b) * cosine t := IntWalk.i64_in _ (by omega)
  go_enter Try.func54, Try.ntmps54
  go_wp2_with fail
  go_quiet ((first | (go_at_call 14; first | exact quiet_left (sineI _ h0 h1 _) | exact quiet_add_left (sineI _ h0 h1 _)) | (go_at_call 16; first | exact quiet_left (cosineI _ h0 h1 _) | exact quiet_add_left (cosineI _ h0 h1 _))))
  go_wp2
  go_ret
  exact ⟨rfl, _, rfl⟩
/-- the boxes of the two points stand -/
def TwoAt (w wr : World) (a b c d : Int) : Prop := wr.cell? ⟨w.heap.size, 0, none⟩ = some (.int .i64 a) ∧ wr.cell? ⟨w.heap.size, 1, none⟩ = some (.int .i64 b) ∧ wr.cell? ⟨w.heap.size + 1, 0, none⟩ = some (.int .i64 c) ∧ wr.cell? ⟨w.heap.size + 1, 1, none⟩ = some (.int .i64 d)
theorem TwoAt.drewN {w wr : World} {a b c d : Int} (h : TwoAt w wr a b c d) (n : Nat) : TwoAt w (wr.drewN n) a b c d := h
theorem below_drewN {B : Nat} {a w : World} (h : Below B a w) (n : Nat) : Below B a (w.drewN n) := ⟨h.os, h.tape, h.output, h.size, h.block⟩
theorem cos_90 {t : Int} (h0 : 0 ≤ t) (h1 : t < 360) : cosine t = sine (t + 90) := by unfold cosine; rw [Int.emod_eq_of_lt h0 h1]
theorem bearI_ne (a b c d : Int) (h : okP a b = true) (k : okP c d = true) (hne : (a == c) = false ∨ (b == d) = false) (w : World) :
    Calls Try.prog 26 #[.agg #[.int .i64 a, .int .i64 b], .agg #[.int .i64 c, .int .i64 d]] w fun e w' => e = .returned (.int .i64 (bearV a b c d)) ∧ Below w.heap.size w w' := by
  have ha : allOk [(a, b), (c, d)] = true := by rw [all2, h, k]; rfl
  have hbd := fun n => along_bd h k n
  have HB := hide (brT_bd (f := fun n => along a b c d (n : Int)) (fun n => hbd n))
  clear hbd
  have hV : Hid (bearV a b c d = (brT (fun n => along a b c d (n : Int)) 360).1) := rfl
  rcases hne with hne | hne
  all_goals
    go_enter Try.func26, Try.ntmps26
    go_wp2_with (first | (go_at_call 44; refine (arePointsI _ 0 2 _ [(a, b), (c, d)] rfl (by omega) _ ?hp ?hg).mono ?_; (case hp => exact ptsAt_new2 (by simp)); (case hg => simp); rintro e w1 ⟨rfl, hb1⟩; have hB1 := below_next (w0 := w) hb1 (by go_grown); obtain ⟨hc1, hf1⟩ := bcell hb1; have hz1 := hb1.size; (repeat rw [World.size_alloc] at hz1); (try (have lt0 : w.heap.size < w1.heap.size := by omega)); (try (have lt1 : w.heap.size + 1 < w1.heap.size := by omega)); have hy1 := hB1.size; clear hb1) | (go_at_call 54; refine (alongI w.heap.size (w.heap.size + 1) a b c d _ h k (by omega) (by omega) _ ?c0 ?c1 ?c2 ?c3).mono ?_; (case c0 => first | assumption | (go_simp; done)); (case c1 => first | assumption | (go_simp; done)); (case c2 => first | assumption | (go_simp; done)); (case c3 => first | assumption | (go_simp; done)); rintro e w' ⟨rfl, n, rfl⟩))
    go_loopw [6, 7, 23] (fun vb vm vd wr => ∃ q : Nat, q ≤ 360 ∧ ∃ bb mm : Int, Hid (brT (fun n => along a b c d (n : Int)) q = (bb, mm)) ∧ TwoAt w wr a b c d ∧ Below w.heap.size w wr ∧ vd = .int .i64 q ∧ vb = .int .i64 bb ∧ vm = .int .i64 mm) (fun _ _ vd _ => 360 - (intOf vd).toNat)
    case atStart => exact ⟨0, by omega, 0, along a b c d 0, hide rfl, (show TwoAt w _ a b c d from ⟨by go_simp, by go_simp, by go_simp, by go_simp⟩), below_drewN (by go_grown) _, rfl, rfl, rfl⟩
    case round =>
      obtain ⟨q, hq, bb, mm, hbm, ht, hbw, rfl, rfl, rfl⟩ := hrel
      have hT := hide ht
      obtain ⟨t0, t1, t2, t3⟩ := ht
      have hbb := HB.out q
      rw [hbm.out] at hbb
      obtain ⟨⟨m1, m2⟩, m3, m4⟩ := hbb
      simp only at m1 m2 m3 m4
      by_cases hq3 : q < 360
      · by_cases hlt : mm < along a b c d (q : Int)
        · have H := hide (brT_yes (f := fun n => along a b c d (n : Int)) (n := q) (by rw [hbm.out]; exact hlt))
          go_wp2_with (go_at_call 54; refine (alongI w.heap.size (w.heap.size + 1) a b c d _ h k (by omega) (by omega) _ ?c0 ?c1 ?c2 ?c3).mono ?_; (case c0 => first | assumption | (go_simp; done)); (case c1 => first | assumption | (go_simp; done)); (case c2 => first | assumption | (go_simp; done)); (case c3 => first | assumption | (go_simp; done)); rintro e w' ⟨rfl, n, rfl⟩)
          go_roundw
          case rel => exact ⟨q + 1, by omega, _, _, H, hT.out.drewN _, below_drewN hbw _, by go_num, rfl, rfl⟩
          case measure => simp [intOf]; omega
        · have H := hide ((brT_no (f := fun n => along a b c d (n : Int)) (n := q) (by rw [hbm.out]; exact hlt)).trans hbm.out)
          go_wp2_with (go_at_call 54; refine (alongI w.heap.size (w.heap.size + 1) a b c d _ h k (by omega) (by omega) _ ?c0 ?c1 ?c2 ?c3).mono ?_; (case c0 => first | assumption | (go_simp; done)); (case c1 => first | assumption | (go_simp; done)); (case c2 => first | assumption | (go_simp; done)); (case c3 => first | assumption | (go_simp; done)); rintro e w' ⟨rfl, n, rfl⟩)
          go_roundw
          case rel => exact ⟨q + 1, by omega, _, _, H, hT.out.drewN _, below_drewN hbw _, by go_num, rfl, rfl⟩
          case measure => simp [intOf]; omega
      · obtain rfl : q = 360 := by omega
        go_wp2
        go_ret
        exact ⟨ret_int (by rw [hV.out, hbm.out]), hbw⟩
theorem bearI (a b c d : Int) (w : World) :
    Calls Try.prog 26 #[.agg #[.int .i64 a, .int .i64 b], .agg #[.int .i64 c, .int .i64 d]] w fun e w' => e = .returned (.int .i64 (if okP a b = true ∧ okP c d = true then bearV a b c d else 0)) ∧ Below w.heap.size w w' := by
  cases h : okP a b
  · have ha : allOk [(a, b), (c, d)] = false := by rw [all2, h]; rfl
    clear h
    rw [if_neg (by simp)]
    go_enter Try.func26, Try.ntmps26
    go_wp2_with (go_at_call 44; refine (arePointsI _ 0 2 _ [(a, b), (c, d)] rfl (by omega) _ ?hp ?hg).mono ?_; (case hp => exact ptsAt_new2 (by simp)); (case hg => simp); rintro e w1 ⟨rfl, hb1⟩; have hB1 := below_next (w0 := w) hb1 (by go_grown); obtain ⟨hc1, hf1⟩ := bcell hb1; have hz1 := hb1.size; (repeat rw [World.size_alloc] at hz1); (try (have lt0 : w.heap.size < w1.heap.size := by omega)); (try (have lt1 : w.heap.size + 1 < w1.heap.size := by omega)); have hy1 := hB1.size; clear hb1)
    all_goals
      go_ret
      exact ⟨rfl, by go_grown⟩
  · cases k : okP c d
    · have ha : allOk [(a, b), (c, d)] = false := by rw [all2, h, k]; rfl
      clear h k
      rw [if_neg (by simp)]
      go_enter Try.func26, Try.ntmps26
      go_wp2_with (go_at_call 44; refine (arePointsI _ 0 2 _ [(a, b), (c, d)] rfl (by omega) _ ?hp ?hg).mono ?_; (case hp => exact ptsAt_new2 (by simp)); (case hg => simp); rintro e w1 ⟨rfl, hb1⟩; have hB1 := below_next (w0 := w) hb1 (by go_grown); obtain ⟨hc1, hf1⟩ := bcell hb1; have hz1 := hb1.size; (repeat rw [World.size_alloc] at hz1); (try (have lt0 : w.heap.size < w1.heap.size := by omega)); (try (have lt1 : w.heap.size + 1 < w1.heap.size := by omega)); have hy1 := hB1.size; clear hb1)
      all_goals
        go_ret
        exact ⟨rfl, by go_grown⟩
    · simp only [true_and, if_true]
      by_cases e1 : a = c
      · by_cases e2 : b = d
        · subst e1 e2
          have ha : allOk [(a, b), (a, b)] = true := by rw [all2, h]; rfl
          have H := hide (bear_same a b)
          clear h k
          go_enter Try.func26, Try.ntmps26
          go_wp2_with (go_at_call 44; refine (arePointsI _ 0 2 _ [(a, b), (a, b)] rfl (by omega) _ ?hp ?hg).mono ?_; (case hp => exact ptsAt_new2 (by simp)); (case hg => simp); rintro e w1 ⟨rfl, hb1⟩; have hB1 := below_next (w0 := w) hb1 (by go_grown); obtain ⟨hc1, hf1⟩ := bcell hb1; have hz1 := hb1.size; (repeat rw [World.size_alloc] at hz1); (try (have lt0 : w.heap.size < w1.heap.size := by omega)); (try (have lt1 : w.heap.size + 1 < w1.heap.size := by omega)); have hy1 := hB1.size; clear hb1)
          all_goals
            go_ret
            exact ⟨ret_int H.out.symm, by go_grown⟩
        · exact bearI_ne a b c d h k (.inr (by simpa using e2)) w
      · exact bearI_ne a b c d h k (.inl (by simpa using e1)) w
theorem TableAt.drewN {w : World} {b : Nat} (h : TableAt w b) (n : Nat) : TableAt (w.drewN n) b := h
theorem TableAt.below {w w' : World} {b : Nat} (h : TableAt w b) (hb : Below w.heap.size w w') (hg : b < w.heap.size) : TableAt w' b := fun k hk => (hb.cell (p := ⟨b, k, none⟩) hg).trans (h k hk)
theorem bear_held {w1 W : World} {T A B : Nat} {x y z u : Value} (h : (∃ m, W = w1.drewN m) ∧ TableAt W T ∧ W.cell? ⟨A, 0, none⟩ = some x ∧ W.cell? ⟨A, 1, none⟩ = some y ∧ W.cell? ⟨B, 0, none⟩ = some z ∧ W.cell? ⟨B, 1, none⟩ = some u) : (∃ m, W.drew = w1.drewN m) ∧ TableAt W.drew T ∧ W.drew.cell? ⟨A, 0, none⟩ = some x ∧ W.drew.cell? ⟨A, 1, none⟩ = some y ∧ W.drew.cell? ⟨B, 0, none⟩ = some z ∧ W.drew.cell? ⟨B, 1, none⟩ = some u := by
  obtain ⟨⟨m, rfl⟩, ht, k⟩ := h
  exact ⟨⟨m + 1, rfl⟩, ht, k⟩
theorem bear_table {w1 W : World} {T A B : Nat} {x y z u : Value} (h : (∃ m, W = w1.drewN m) ∧ TableAt W T ∧ W.cell? ⟨A, 0, none⟩ = some x ∧ W.cell? ⟨A, 1, none⟩ = some y ∧ W.cell? ⟨B, 0, none⟩ = some z ∧ W.cell? ⟨B, 1, none⟩ = some u) : TableAt W T := h.2.1
theorem bearS (a b c d : Int) (h : okP a b = true) (k : okP c d = true) (w : World) :
    Calls Try.prog 53 #[.agg #[.int .i64 a, .int .i64 b], .agg #[.int .i64 c, .int .i64 d]] w fun e w' => e = .returned (.int .i64 (bearV a b c d)) ∧ Below w.heap.size w w' := by
  have hbd := fun n => along_bd h k n
  have HB := hide (brT_bd (f := fun n => along a b c d (n : Int)) (fun n => hbd n))
  have HP := hide (fun t => along_parts h k t)
  clear hbd
  have hV : Hid (bearV a b c d = (brT (fun n => along a b c d (n : Int)) 360).1) := rfl
  go_enter Try.func53, Try.ntmps53
  go_wp2_with fail
  refine (tableS _).mono ?_
  rintro e w1 ⟨rfl, ht, hz, hb⟩
  have hB := below_next (w0 := w) hb (by go_grown)
  obtain ⟨hc1, hf1⟩ := bcell hb
  have HT : Hid (TableAt w1 (w.heap.size + 1 + 1)) := hide (by simpa only [World.size_alloc] using ht)
  simp only [World.size_alloc] at hz
  have hz1 := hide hz
  have l0 : w.heap.size < w1.heap.size := by omega
  have l1 : w.heap.size + 1 < w1.heap.size := by omega
  have hTw : TwoAt w w1 a b c d := ⟨by go_simp, by go_simp, by go_simp, by go_simp⟩
  have HW := hide hTw
  clear ht hb hTw hc1 hf1 hz
  go_wp2_with fail
  go_loopw [5, 6, 8] (fun vb vm vd wr => ∃ q : Nat, q ≤ 360 ∧ ∃ bb mm : Int, Hid (q = 0 ∨ brT (fun n => along a b c d (n : Int)) q = (bb, mm)) ∧ (-400000000000 ≤ mm ∧ mm ≤ 400000000000) ∧ Hid (q = 0 → bb = 0) ∧ (∃ n, wr = w1.drewN n) ∧ vd = .int .i64 q ∧ vb = .int .i64 bb ∧ vm = .int .i64 mm) (fun _ _ vd _ => 360 - (intOf vd).toNat)
  case atStart => exact ⟨0, by omega, 0, 0, hide (.inl rfl), by omega, hide (fun _ => rfl), ⟨0, rfl⟩, rfl, rfl, rfl⟩
  case round =>
    obtain ⟨q, hq, bb, mm, hbm, ⟨m1, m2⟩, hb0, ⟨n, rfl⟩, rfl, rfl, rfl⟩ := hrel
    obtain ⟨t0, t1, t2, t3⟩ := HW.out.drewN n
    have HT' := hide (HT.out.drewN n)
    by_cases hq3 : q < 360
    · obtain ⟨⟨p1, p2⟩, ⟨p3, p4⟩, ⟨p5, p6⟩, p7, p8⟩ := HP.out (q : Int)
      have e1 : IntKind.i64.wrap (c - a) = c - a := IntWalk.i64_in _ (by omega)
      have e2 : IntKind.i64.wrap (d - b) = d - b := IntWalk.i64_in _ (by omega)
      have e3 : IntKind.i64.wrap ((c - a) * sine (q : Int)) = (c - a) * sine (q : Int) := IntWalk.i64_in _ (by omega)
      have e4 : IntKind.i64.wrap ((d - b) * cosine (q : Int)) = (d - b) * cosine (q : Int) := IntWalk.i64_in _ (by omega)
      have e5 : IntKind.i64.wrap ((c - a) * sine (q : Int) + (d - b) * cosine (q : Int)) = (c - a) * sine (q : Int) + (d - b) * cosine (q : Int) := IntWalk.i64_in _ (by omega)
      have e6 : IntKind.i64.wrap ((q : Int) + 90) = (q : Int) + 90 := IntWalk.i64_in _ (by omega)
      go_upto_region 7 with fail
      rw [cos_90 (t := (q : Int)) (by omega) (by omega)] at e4 e5 p7 p8
      go_cut [9] (fun v9 wx => v9 = .int .i64 (along a b c d (q : Int)) ∧ ∃ n', wx = w1.drewN n')
      case first =>
        have hS0 : (∃ m, (w1.drewN n).drew = w1.drewN m) ∧ TableAt (w1.drewN n).drew (w.heap.size + 1 + 1) ∧ (w1.drewN n).drew.cell? ⟨w.heap.size, 0, none⟩ = some (.int .i64 a) ∧ (w1.drewN n).drew.cell? ⟨w.heap.size, 1, none⟩ = some (.int .i64 b) ∧ (w1.drewN n).drew.cell? ⟨w.heap.size + 1, 0, none⟩ = some (.int .i64 c) ∧ (w1.drewN n).drew.cell? ⟨w.heap.size + 1, 1, none⟩ = some (.int .i64 d) := bear_held ⟨⟨n, rfl⟩, HT'.out, t0, t1, t2, t3⟩
        go_region_held3 (fun w' => (∃ m, w' = w1.drewN m) ∧ TableAt w' (w.heap.size + 1 + 1) ∧ w'.cell? ⟨w.heap.size, 0, none⟩ = some (.int .i64 a) ∧ w'.cell? ⟨w.heap.size, 1, none⟩ = some (.int .i64 b) ∧ w'.cell? ⟨w.heap.size + 1, 0, none⟩ = some (.int .i64 c) ∧ w'.cell? ⟨w.heap.size + 1, 1, none⟩ = some (.int .i64 d)) (first | exact hS0 | exact bear_held (by assumption) | go_keep) ((go_at_call 66; refine (sineInS _ _ (by omega) (by omega) _ (bear_table (by assumption))).mono ?_; rintro e w' ⟨rfl, rfl⟩))
        clear hS0
        go_wp2_with fail
        go_meet
        exact ⟨by unfold along; rw [cos_90 (t := (q : Int)) (by omega) (by omega)], _, rfl⟩
      case rest =>
        obtain ⟨rfl, n', rfl⟩ := hcut
        clear e1 e2 e3 e4 e5 e6 HT'
        obtain ⟨m3, m4⟩ : -400000000000 ≤ along a b c d (q : Int) ∧ along a b c d (q : Int) ≤ 400000000000 := along_bd h k _
        by_cases hq0 : q = 0
        · subst hq0
          go_wp2
          go_roundw
          case rel => exact ⟨1, by omega, 0, _, hide (.inr (brT_one _)), by omega, hide (fun _ => rfl), ⟨_, rfl⟩, by go_num, rfl, rfl⟩
          case measure => simp [intOf]
        · have hbm' : brT (fun n => along a b c d (n : Int)) q = (bb, mm) := hbm.out.resolve_left hq0
          have e0 : ((q : Int) == 0) = false := by simp; omega
          have HM := hide hbm'
          clear hbm'
          by_cases hlt : mm < along a b c d (q : Int)
          · have H := hide (brT_yes (f := fun n => along a b c d (n : Int)) (n := q) (by rw [HM.out]; exact hlt))
            have d1 : decide (mm < along a b c d (q : Int)) = true := by simp; omega
            go_wp2
            go_roundw
            case rel => exact ⟨q + 1, by omega, _, _, hide (.inr H.out), by omega, hide (fun h => absurd h (by omega)), ⟨_, rfl⟩, by go_num, rfl, rfl⟩
            case measure => simp [intOf]; omega
          · have H := hide ((brT_no (f := fun n => along a b c d (n : Int)) (n := q) (by rw [HM.out]; exact hlt)).trans HM.out)
            have d1 : decide (mm < along a b c d (q : Int)) = false := by simp; omega
            go_wp2
            go_roundw
            case rel => exact ⟨q + 1, by omega, _, _, hide (.inr H.out), by omega, hide (fun h => absurd h (by omega)), ⟨_, rfl⟩, by go_num, rfl, rfl⟩
            case measure => simp [intOf]; omega
    · obtain rfl : q = 360 := by omega
      go_wp2
      go_ret
      exact ⟨ret_int (by rw [hV.out, hbm.out.resolve_left (by omega)]), below_drewN hB _⟩
def bearOf (a b c d : Int) : Int := if okP a b = true ∧ okP c d = true then bearV a b c d else 0
theorem bearingI (a b c d : Int) (w : World) :
    Calls Try.prog 26 #[.agg #[.int .i64 a, .int .i64 b], .agg #[.int .i64 c, .int .i64 d]] w fun e w' => e = .returned (.int .i64 (bearOf a b c d)) ∧ Below w.heap.size w w' := bearI a b c d w
theorem bearingS (a b c d : Int) (w : World) :
    Calls Try.prog 25 #[.agg #[.int .i64 a, .int .i64 b], .agg #[.int .i64 c, .int .i64 d]] w fun e w' => e = .returned (.int .i64 (bearOf a b c d)) ∧ Below w.heap.size w w' := by
  cases k0 : okP a b
  · have H := hide (show bearOf a b c d = 0 from if_neg (fun h => by have h' := h.1; rw [k0] at h'; cases h'))
    go_enter Try.func25, Try.ntmps25
    go_wp2_with (first | (go_at_call 42; refine (okS _ _ _).mono ?_; rintro e w1 ⟨rfl, hb1⟩; have hB1 := below_next (w0 := w) hb1 (by go_grown); obtain ⟨hc1, hf1⟩ := bcell hb1; have hz1 := hb1.size; (repeat rw [World.size_alloc] at hz1); (try (have lt0 : w.heap.size < w1.heap.size := by omega)); (try (have lt1 : w.heap.size + 1 < w1.heap.size := by omega)); (try (have lt2 : w.heap.size + 2 < w1.heap.size := by omega)); (try (have lt4 := Nat.lt_of_lt_of_le lt4 hz1)); (try (have lt4 := Nat.lt_of_lt_of_le lt3 hz1)); (try (have lt3 := Nat.lt_of_succ_le hz1)); have hy1 := hB1.size; clear hb1))
    go_ret
    exact ⟨ret_int H.out.symm, by go_grown⟩
  · cases k1 : okP c d
    · have H := hide (show bearOf a b c d = 0 from if_neg (fun h => by have h' := h.2; rw [k1] at h'; cases h'))
      go_enter Try.func25, Try.ntmps25
      go_wp2_with (first | (go_at_call 42; refine (okS _ _ _).mono ?_; rintro e w1 ⟨rfl, hb1⟩; have hB1 := below_next (w0 := w) hb1 (by go_grown); obtain ⟨hc1, hf1⟩ := bcell hb1; have hz1 := hb1.size; (repeat rw [World.size_alloc] at hz1); (try (have lt0 : w.heap.size < w1.heap.size := by omega)); (try (have lt1 : w.heap.size + 1 < w1.heap.size := by omega)); (try (have lt2 : w.heap.size + 2 < w1.heap.size := by omega)); (try (have lt4 := Nat.lt_of_lt_of_le lt4 hz1)); (try (have lt4 := Nat.lt_of_lt_of_le lt3 hz1)); (try (have lt3 := Nat.lt_of_succ_le hz1)); have hy1 := hB1.size; clear hb1))
      go_ret
      exact ⟨ret_int H.out.symm, by go_grown⟩
    · have H := hide (show bearOf a b c d = bearV a b c d from if_pos ⟨k0, k1⟩)
      go_enter Try.func25, Try.ntmps25
      go_wp2_with (first | (go_at_call 42; refine (okS _ _ _).mono ?_; rintro e w1 ⟨rfl, hb1⟩; have hB1 := below_next (w0 := w) hb1 (by go_grown); obtain ⟨hc1, hf1⟩ := bcell hb1; have hz1 := hb1.size; (repeat rw [World.size_alloc] at hz1); (try (have lt0 : w.heap.size < w1.heap.size := by omega)); (try (have lt1 : w.heap.size + 1 < w1.heap.size := by omega)); (try (have lt2 : w.heap.size + 2 < w1.heap.size := by omega)); (try (have lt4 := Nat.lt_of_lt_of_le lt4 hz1)); (try (have lt4 := Nat.lt_of_lt_of_le lt3 hz1)); (try (have lt3 := Nat.lt_of_succ_le hz1)); have hy1 := hB1.size; clear hb1) | (go_at_call 53; refine (bearS _ _ _ _ k0 k1 _).mono ?_; rintro e w1 ⟨rfl, hb1⟩; have hB1 := below_next (w0 := w) hb1 (by go_grown); obtain ⟨hc1, hf1⟩ := bcell hb1; have hz1 := hb1.size; (repeat rw [World.size_alloc] at hz1); (try (have lt0 : w.heap.size < w1.heap.size := by omega)); (try (have lt1 : w.heap.size + 1 < w1.heap.size := by omega)); (try (have lt2 : w.heap.size + 2 < w1.heap.size := by omega)); (try (have lt4 := Nat.lt_of_lt_of_le lt4 hz1)); (try (have lt4 := Nat.lt_of_lt_of_le lt3 hz1)); (try (have lt3 := Nat.lt_of_succ_le hz1)); have hy1 := hB1.size; clear hb1))
      all_goals
        go_ret
        exact ⟨ret_int (by first | exact H.out.symm | (rw [H.out]; unfold sgn; (repeat' split) <;> omega)), by go_grown⟩
theorem fnExactBearing_walk (a b : Int) (_ : -9223372036854775808 ≤ a) (_ : a ≤ 9223372036854775807) (_ : -9223372036854775808 ≤ b) (_ : b ≤ 9223372036854775807) (c d : Int) (_ : -9223372036854775808 ≤ c) (_ : c ≤ 9223372036854775807) (_ : -9223372036854775808 ≤ d) (_ : d ≤ 9223372036854775807) (w : World) :
    Calls Try.prog 8 #[.agg #[.int .i64 a, .int .i64 b], .agg #[.int .i64 c, .int .i64 d]] w fun e w' => e = .returned (.bool true) ∧ Below w.heap.size w w' := by
  go_enter Try.func8, Try.ntmps8
  go_wp2_with fail
  go_region_held3 (fun w' => Below w.heap.size w w' ∧ w.heap.size + 1 < w'.heap.size ∧ w'.cell? ⟨w.heap.size, 0, none⟩ = some (.int .i64 a) ∧ w'.cell? ⟨w.heap.size, 1, none⟩ = some (.int .i64 b) ∧ w'.cell? ⟨w.heap.size + 1, 0, none⟩ = some (.int .i64 c) ∧ w'.cell? ⟨w.heap.size + 1, 1, none⟩ = some (.int .i64 d)) (first | exact heldD2 (by assumption) | exact held2 (by assumption) (by assumption) | (refine ⟨?_, ?_, ?_, ?_, ?_, ?_⟩ <;> first | (go_simp; done) | (simp; done) | (go_grown; done)) | go_keep) (first | (go_at_call 18; refine (toPt _ _ _).mono ?_; rintro e w1 ⟨rfl, hb1⟩) | (go_at_call 25; refine (bearingS _ _ _ _ _).mono ?_; rintro e w1 ⟨rfl, hb1⟩))
  go_wp2_with fail
  go_region_held3 (fun w' => Below w.heap.size w w' ∧ w.heap.size + 1 < w'.heap.size ∧ w'.cell? ⟨w.heap.size, 0, none⟩ = some (.int .i64 a) ∧ w'.cell? ⟨w.heap.size, 1, none⟩ = some (.int .i64 b) ∧ w'.cell? ⟨w.heap.size + 1, 0, none⟩ = some (.int .i64 c) ∧ w'.cell? ⟨w.heap.size + 1, 1, none⟩ = some (.int .i64 d)) (first | exact heldD2 (by assumption) | exact held2 (by assumption) (by assumption) | (refine ⟨?_, ?_, ?_, ?_, ?_, ?_⟩ <;> first | (go_simp; done) | (simp; done) | (go_grown; done)) | go_keep) (first | (go_at_call 18; refine (toPt _ _ _).mono ?_; rintro e w1 ⟨rfl, hb1⟩) | (go_at_call 26; refine (bearingI _ _ _ _ _).mono ?_; rintro e w1 ⟨rfl, hb1⟩))
  go_wp2
  all_goals
    go_ret
    exact ⟨rfl, And.left (by assumption)⟩
end Go.Proofs.Ytnmihmjgmanllaa
