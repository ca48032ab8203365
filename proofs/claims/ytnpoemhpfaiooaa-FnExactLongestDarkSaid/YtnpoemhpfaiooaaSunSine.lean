--%!
/- The walks on the sun's height that the seat has. Own work. -/
import Derived.Test.YtnpoemhpfaiooaaSunHt
namespace Go.Proofs.Ytnpoemhpfaiooaa
open Go.ChangeShapes Go.WideShapes Go.ChangeAt Go.RowKit
set_option linter.unusedVariables false
set_option maxRecDepth 100000
set_option maxHeartbeats 4000000

theorem quietAL {P : Program} {f : FuncId} {args : Array Value} {w : World} {a n : Nat} {v : Value}
    (h : Calls P f args (w.drewN (a + n)) fun e w' => e = .returned v ∧ w.drewN (a + n) = w') : Calls P f args (w.drewN (a + n)) fun e w'' => e = .returned v ∧ ∃ m, w'' = w.drewN (a + m) :=
  h.mono fun _ _ ⟨he, hm⟩ => ⟨he, n, hm.symm⟩
theorem quietL {P : Program} {f : FuncId} {args : Array Value} {w : World} {n : Nat} {v : Value}
    (h : Calls P f args (w.drewN n) fun e w' => e = .returned v ∧ w.drewN n = w') : Calls P f args (w.drewN n) fun e w'' => e = .returned v ∧ ∃ m, w'' = w.drewN m :=
  h.mono fun _ _ ⟨he, hm⟩ => ⟨he, n, hm.symm⟩
theorem belowDN {B : Nat} {a w : World} (h : Below B a w) (n : Nat) : Below B a (w.drewN n) := ⟨h.os, h.tape, h.output, h.size, h.block⟩
theorem sunRow_size (lat n : Int) : (sunRow lat n).size = 1440 := fillV_size _ _
theorem sunRow_get (lat n : Int) (k : Nat) (h : k < 1440) : (sunRow lat n)[k]? = some (.int .i64 (sunV lat n (k : Int))) := by
  unfold sunRow; rw [fillV_get _ _ _ h, if_pos h]
theorem infoI64 : (Try.prog.info? 2).map (fun i => (i.zero, i.size, i.bytes)) = some (some (.int .i64 0), 1, 8) := by kernel_rfl
theorem run_index_row (r : Array Value) (hr : r.size = 1440) (k : Nat) (x : Int) (h : k < 1440) (h2 : r[k]? = some (.int .i64 x)) (w : World) : (Instr.index 35 (.agg r) (.int .i64 (k : Int))).run Try.prog w = .ok (.int .i64 x) w := by
  obtain ⟨i0, hi, hz0, hz1, hz2⟩ := info_parts infoI64
  have h3 : k < r.size := by omega
  have h4 : r[k] = .int .i64 x := by rw [Array.getElem?_eq_getElem h3] at h2; exact Option.some.inj h2
  simp [Instr.index, run_underlying Try.underlying35, asIntOf, h, hr, h4, sizeOf, typeInfo, hi, hz1, part, go_sem]
theorem run_index_sun (lat n : Int) (k : Nat) (h : k < 1440) (w : World) : (Instr.index 35 (.agg (sunRow lat n)) (.int .i64 (k : Int))).run Try.prog w = .ok (.int .i64 (sunV lat n (k : Int))) w :=
  run_index_row _ (sunRow_size lat n) k _ h (sunRow_get lat n k h) w
theorem maxS (a b : Int) (w : World) : Calls Try.prog 55 #[.int .i64 a, .int .i64 b] w fun e w' => e = .returned (.int .i64 (if a < b then b else a)) ∧ w = w' := by
  by_cases h : a < b
  · rw [if_pos h]
    go_enter Try.func55, Try.ntmps55
    go_wp2
    all_goals
      go_ret
      exact ⟨ret_int (by omega), rfl⟩
  · rw [if_neg h]
    go_enter Try.func55, Try.ntmps55
    go_wp2
    all_goals
      go_ret
      exact ⟨ret_int (by omega), rfl⟩
theorem ofS (lat n : Int) (l0 : -66 ≤ lat) (l1 : lat ≤ 66) (h0 : 0 ≤ n) (h1 : n ≤ 99999) (w : World) :
    Calls Try.prog 33 #[.int .i64 lat, .int .i64 n] w fun e w' => e = .returned (.agg #[.int .i64 (stillV lat n), .int .i64 (moveV lat n)]) ∧ Below w.heap.size w w' := by
  have hd := decl_bd n h0 h1
  obtain ⟨⟨s1, s2⟩, s3, s4⟩ := still_parts lat n
  obtain ⟨⟨m1, m2⟩, m3, m4⟩ := move_parts lat n
  have ha := decA_bd n h0 h1
  have HA : Hid ((if decl n < -decl n then -decl n else decl n) = decA n) := rfl
  go_enter Try.func33, Try.ntmps33
  go_wp2_with (first | (go_at_call 28; refine (declS _ (by omega) (by omega) _).mono ?_; rintro e w1 ⟨rfl, hb1⟩; have hB1 := below_next (w0 := w) hb1 (by go_grown); obtain ⟨hc1, hf1⟩ := bcell hb1; have hz1 := hb1.size; (repeat rw [World.size_alloc] at hz1); (have lt0 : w.heap.size < w1.heap.size := by omega); have hy1 := hB1.size; clear hb1) | (go_at_call 53; refine (sineS _ (by omega) (by omega) _).mono ?_; rintro e w1 ⟨rfl, hb1⟩; have hB1 := below_next (w0 := w) hb1 (by go_grown); obtain ⟨hc1, hf1⟩ := bcell hb1; have hz1 := hb1.size; (repeat rw [World.size_alloc] at hz1); (have lt0 : w.heap.size < w1.heap.size := by omega); have hy1 := hB1.size; clear hb1) | (go_at_call 48; refine (cosineS _ (by omega) (by omega) _).mono ?_; rintro e w1 ⟨rfl, hb1⟩; have hB1 := below_next (w0 := w) hb1 (by go_grown); obtain ⟨hc1, hf1⟩ := bcell hb1; have hz1 := hb1.size; (repeat rw [World.size_alloc] at hz1); (have lt0 : w.heap.size < w1.heap.size := by omega); have hy1 := hB1.size; clear hb1) | (go_at_call 54; refine (tenS _ (by omega) (by omega) _).mono ?_; rintro e w1 ⟨rfl, hb1⟩; have hB1 := below_next (w0 := w) hb1 (by go_grown); obtain ⟨hc1, hf1⟩ := bcell hb1; have hz1 := hb1.size; (repeat rw [World.size_alloc] at hz1); (have lt0 : w.heap.size < w1.heap.size := by omega); have hy1 := hB1.size; clear hb1) | (go_at_call 55; refine (maxS _ _ _).mono ?_; (try rw [HA.out]); rintro e w' ⟨rfl, rfl⟩) | (go_at_call 47; refine (divS _ _ (by omega) (by omega) (by omega) (by omega) (by omega) _).mono ?_; rintro e w' ⟨rfl, rfl⟩))
  refine bodyPost_ret (v := .agg #[.int .i64 (stillV lat n), .int .i64 (moveV lat n)]) (by simp [results, Try.results33, go_sem, *, stillV, moveV]) rfl ⟨rfl, by go_grown⟩
theorem atS (lat n : Int) (B : Nat) (m : Int) (h0 : 0 ≤ m) (h1 : m < 1440) (w : World) (hB : B < w.heap.size)
    (c0 : w.cell? ⟨B, 0, none⟩ = some (.int .i64 (stillV lat n))) (c1 : w.cell? ⟨B, 1, none⟩ = some (.int .i64 (moveV lat n))) :
    Calls Try.prog 34 #[.pointer (some ⟨B, 0, none⟩), .int .i64 m] w fun e w' => e = .returned (.int .i64 (sunV lat n m)) ∧ Below w.heap.size w w' := by
  obtain ⟨-, s3, s4⟩ := still_parts lat n
  obtain ⟨-, m3, m4⟩ := move_parts lat n
  obtain ⟨k0, k1⟩ := away_bd (m := m) (by omega) (by omega)
  obtain ⟨⟨p1, p2⟩, ⟨p3, p4⟩, p5, p6⟩ := hq_parts (awayV m)
  obtain ⟨⟨r1, r2⟩, r3, r4⟩ := sun_parts lat n (awayV m)
  obtain ⟨c3, c4⟩ := cosine_bd (awayV m / 4)
  obtain ⟨c5, c6⟩ := cosine_bd (awayV m / 4 + 1)
  simp only [hq] at p5 p6 r1 r2 r3 r4
  have HA : Hid ((if m - 720 < 720 - m then 720 - m else m - 720) = awayV m) := hide (by unfold awayV; (repeat' split) <;> omega)
  have HV : Hid (sunV lat n m = stillV lat n + dr (moveV lat n * (cosine (awayV m / 4) + dr ((cosine (awayV m / 4 + 1) - cosine (awayV m / 4)) * (awayV m % 4)) 4)) 1000000) := rfl
  go_enter Try.func34, Try.ntmps34
  go_wp2_with (first | (go_at_call 55; refine (maxS _ _ _).mono ?_; (try rw [HA.out]); rintro e w' ⟨rfl, rfl⟩) | (go_at_call 48; (refine (cosineS _ (by omega) (by omega) _).mono ?_; rintro e w1 ⟨rfl, hb1⟩; have hB1 := below_next (w0 := w) hb1 (by go_grown); obtain ⟨hc1, hf1⟩ := bcell hb1; have hy1 := hb1.size; (have lt0 : B < w1.heap.size := by omega); clear hb1)) | (go_at_call 47; refine (divS _ _ (by omega) (by omega) (by omega) (by omega) (by omega) _).mono ?_; rintro e w' ⟨rfl, rfl⟩))
  have e1 : IntKind.i64.wrap (moveV lat n * (cosine (awayV m / 4) + dr ((cosine (awayV m / 4 + 1) - cosine (awayV m / 4)) * (awayV m % 4)) 4)) = moveV lat n * (cosine (awayV m / 4) + dr ((cosine (awayV m / 4 + 1) - cosine (awayV m / 4)) * (awayV m % 4)) 4) := IntWalk.i64_in _ (by omega)
  have e2 : IntKind.i64.wrap (stillV lat n + dr (moveV lat n * (cosine (awayV m / 4) + dr ((cosine (awayV m / 4 + 1) - cosine (awayV m / 4)) * (awayV m % 4)) 4)) 1000000) = stillV lat n + dr (moveV lat n * (cosine (awayV m / 4) + dr ((cosine (awayV m / 4 + 1) - cosine (awayV m / 4)) * (awayV m % 4)) 4)) 1000000 := IntWalk.i64_in _ (by omega)
  go_quiet ((go_at_call 47; first | exact quietL (divS _ _ (by omega) (by omega) (by omega) (by omega) (by omega) _) | exact quietAL (divS _ _ (by omega) (by omega) (by omega) (by omega) (by omega) _)))
  go_wp2
  go_ret
  exact ⟨ret_int HV.out.symm, belowDN (by assumption) _⟩
theorem fnExactSunSine_walk (lat : Int) (_ : -9223372036854775808 ≤ lat) (_ : lat ≤ 9223372036854775807) (n : Int) (_ : -9223372036854775808 ≤ n) (_ : n ≤ 9223372036854775807) (m : Int) (_ : -9223372036854775808 ≤ m) (_ : m ≤ 9223372036854775807) (w : World) :
    Calls Try.prog 4 #[.int .i64 lat, .int .i64 n, .int .i64 m] w fun e w' => e = .returned (.bool true) ∧ Below w.heap.size w w' := by
  cases hl : inB lat (-66) 66
  · go_enter Try.func4, Try.ntmps4
    go_wp2_with (first | (go_at_call 32; refine (inS _ _ _ _).mono ?_; rintro e w' ⟨rfl, rfl⟩) | (go_at_call 49; refine (inI _ _ _ _).mono ?_; rintro e w' ⟨rfl, rfl⟩) | go_in)
    go_ret
    exact ⟨rfl, Below.refl _ _⟩
  · cases hn : inB n 0 99999
    · go_enter Try.func4, Try.ntmps4
      go_wp2_with (first | (go_at_call 32; refine (inS _ _ _ _).mono ?_; rintro e w' ⟨rfl, rfl⟩) | (go_at_call 49; refine (inI _ _ _ _).mono ?_; rintro e w' ⟨rfl, rfl⟩) | go_in)
      go_ret
      exact ⟨rfl, Below.refl _ _⟩
    · cases hm : inB m 0 1439
      · go_enter Try.func4, Try.ntmps4
        go_wp2_with (first | (go_at_call 32; refine (inS _ _ _ _).mono ?_; rintro e w' ⟨rfl, rfl⟩) | (go_at_call 49; refine (inI _ _ _ _).mono ?_; rintro e w' ⟨rfl, rfl⟩) | go_in)
        go_ret
        exact ⟨rfl, Below.refl _ _⟩
      · obtain ⟨n1, n2⟩ := (inB_iff _ _ _).1 hn
        obtain ⟨a1, a2⟩ := (inB_iff _ _ _).1 hl
        obtain ⟨b1, b2⟩ := (inB_iff _ _ _).1 hm
        obtain ⟨k, rfl⟩ := Int.eq_ofNat_of_zero_le b1
        have ix := fun w => run_index_sun lat n k (by omega) w
        go_enter Try.func4, Try.ntmps4
        go_wp2_with (first | (go_at_call 32; refine (inS _ _ _ _).mono ?_; rintro e w' ⟨rfl, rfl⟩) | (go_at_call 49; refine (inI _ _ _ _).mono ?_; rintro e w' ⟨rfl, rfl⟩) | (go_at_call 33; refine (ofS lat n (by omega) (by omega) (by omega) (by omega) _).mono ?_; rintro e w1 ⟨rfl, hb1⟩; have hB1 := below_next (w0 := w) hb1 (by go_grown); obtain ⟨hc1, hf1⟩ := bcell hb1; have hz1 := hb1.size; (repeat rw [World.size_alloc] at hz1); (try (have lt0 : w.heap.size < w1.heap.size := by omega)); have hy1 := hB1.size; clear hb1) | (go_at_call 34; refine (atS lat n _ _ (by omega) (by omega) _ ?hB ?c0 ?c1).mono ?_; (case hB => first | (simp; done) | (simp; omega)); (case c0 => first | assumption | (go_simp; done)); (case c1 => first | assumption | (go_simp; done)); rintro e w1 ⟨rfl, hb1⟩; have hB1 := below_next (w0 := w) hb1 (by go_grown); obtain ⟨hc1, hf1⟩ := bcell hb1; have hz1 := hb1.size; (repeat rw [World.size_alloc] at hz1); (try (have lt0 : w.heap.size < w1.heap.size := by omega)); have hy1 := hB1.size; clear hb1) | (go_at_call 37; refine (heightsI lat n (by omega) (by omega) (by omega) (by omega) _).mono ?_; rintro e w1 ⟨rfl, hb1⟩; have hB1 := below_next (w0 := w) hb1 (by go_grown); obtain ⟨hc1, hf1⟩ := bcell hb1; have hz1 := hb1.size; (repeat rw [World.size_alloc] at hz1); (try (have lt0 : w.heap.size < w1.heap.size := by omega)); have hy1 := hB1.size; clear hb1) | go_in)
        go_ret
        exact ⟨rfl, by go_grown⟩
end Go.Proofs.Ytnpoemhpfaiooaa
