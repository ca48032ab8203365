--%!
/- The walks on the light of the sun that the seat has. Own work. -/
import Derived.Test.YtnpoemhpfaiooaaSunSine
namespace Go.Proofs.Ytnpoemhpfaiooaa
open Go.ChangeShapes Go.WideShapes Go.ChangeAt Go.RowKit
set_option linter.unusedVariables false
set_option maxRecDepth 100000
set_option maxHeartbeats 4000000

theorem fnExactLightKind_walk (lat : Int) (_ : -9223372036854775808 ≤ lat) (_ : lat ≤ 9223372036854775807) (n : Int) (_ : -9223372036854775808 ≤ n) (_ : n ≤ 9223372036854775807) (m : Int) (_ : -9223372036854775808 ≤ m) (_ : m ≤ 9223372036854775807) (w : World) :
    Calls Try.prog 5 #[.int .i64 lat, .int .i64 n, .int .i64 m] w fun e w' => e = .returned (.bool true) ∧ Below w.heap.size w w' := by
  cases hl : inB lat (-66) 66
  · go_enter Try.func5, Try.ntmps5
    go_wp2_with (first | (go_at_call 32; refine (inS _ _ _ _).mono ?_; rintro e w' ⟨rfl, rfl⟩) | (go_at_call 49; refine (inI _ _ _ _).mono ?_; rintro e w' ⟨rfl, rfl⟩) | go_in)
    go_ret
    exact ⟨rfl, Below.refl _ _⟩
  · cases hn : inB n 0 99999
    · go_enter Try.func5, Try.ntmps5
      go_wp2_with (first | (go_at_call 32; refine (inS _ _ _ _).mono ?_; rintro e w' ⟨rfl, rfl⟩) | (go_at_call 49; refine (inI _ _ _ _).mono ?_; rintro e w' ⟨rfl, rfl⟩) | go_in)
      go_ret
      exact ⟨rfl, Below.refl _ _⟩
    · cases hm : inB m 0 1439
      · go_enter Try.func5, Try.ntmps5
        go_wp2_with (first | (go_at_call 32; refine (inS _ _ _ _).mono ?_; rintro e w' ⟨rfl, rfl⟩) | (go_at_call 49; refine (inI _ _ _ _).mono ?_; rintro e w' ⟨rfl, rfl⟩) | go_in)
        go_ret
        exact ⟨rfl, Below.refl _ _⟩
      · obtain ⟨n1, n2⟩ := (inB_iff _ _ _).1 hn
        obtain ⟨a1, a2⟩ := (inB_iff _ _ _).1 hl
        obtain ⟨b1, b2⟩ := (inB_iff _ _ _).1 hm
        obtain ⟨k, rfl⟩ := Int.eq_ofNat_of_zero_le b1
        have ix := fun w => run_index_sun lat n k (by omega) w
        by_cases e1 : -14000 ≤ sunV lat n (k : Int)
        · go_enter Try.func5, Try.ntmps5
          go_wp2_with (first | (go_at_call 32; refine (inS _ _ _ _).mono ?_; rintro e w' ⟨rfl, rfl⟩) | (go_at_call 49; refine (inI _ _ _ _).mono ?_; rintro e w' ⟨rfl, rfl⟩) | (go_at_call 33; refine (ofS lat n (by omega) (by omega) (by omega) (by omega) _).mono ?_; rintro e w1 ⟨rfl, hb1⟩; have hB1 := below_next (w0 := w) hb1 (by go_grown); obtain ⟨hc1, hf1⟩ := bcell hb1; have hz1 := hb1.size; (repeat rw [World.size_alloc] at hz1); (try (have lt0 : w.heap.size < w1.heap.size := by omega)); have hy1 := hB1.size; clear hb1) | (go_at_call 34; refine (atS lat n _ _ (by omega) (by omega) _ ?hB ?c0 ?c1).mono ?_; (case hB => first | (simp; done) | (simp; omega)); (case c0 => first | assumption | (go_simp; done)); (case c1 => first | assumption | (go_simp; done)); rintro e w1 ⟨rfl, hb1⟩; have hB1 := below_next (w0 := w) hb1 (by go_grown); obtain ⟨hc1, hf1⟩ := bcell hb1; have hz1 := hb1.size; (repeat rw [World.size_alloc] at hz1); (try (have lt0 : w.heap.size < w1.heap.size := by omega)); have hy1 := hB1.size; clear hb1) | (go_at_call 37; refine (heightsI lat n (by omega) (by omega) (by omega) (by omega) _).mono ?_; rintro e w1 ⟨rfl, hb1⟩; have hB1 := below_next (w0 := w) hb1 (by go_grown); obtain ⟨hc1, hf1⟩ := bcell hb1; have hz1 := hb1.size; (repeat rw [World.size_alloc] at hz1); (try (have lt0 : w.heap.size < w1.heap.size := by omega)); have hy1 := hB1.size; clear hb1) | go_in)
          go_ret
          exact ⟨rfl, by go_grown⟩
        · by_cases e2 : -104528 ≤ sunV lat n (k : Int)
          · go_enter Try.func5, Try.ntmps5
            go_wp2_with (first | (go_at_call 32; refine (inS _ _ _ _).mono ?_; rintro e w' ⟨rfl, rfl⟩) | (go_at_call 49; refine (inI _ _ _ _).mono ?_; rintro e w' ⟨rfl, rfl⟩) | (go_at_call 33; refine (ofS lat n (by omega) (by omega) (by omega) (by omega) _).mono ?_; rintro e w1 ⟨rfl, hb1⟩; have hB1 := below_next (w0 := w) hb1 (by go_grown); obtain ⟨hc1, hf1⟩ := bcell hb1; have hz1 := hb1.size; (repeat rw [World.size_alloc] at hz1); (try (have lt0 : w.heap.size < w1.heap.size := by omega)); have hy1 := hB1.size; clear hb1) | (go_at_call 34; refine (atS lat n _ _ (by omega) (by omega) _ ?hB ?c0 ?c1).mono ?_; (case hB => first | (simp; done) | (simp; omega)); (case c0 => first | assumption | (go_simp; done)); (case c1 => first | assumption | (go_simp; done)); rintro e w1 ⟨rfl, hb1⟩; have hB1 := below_next (w0 := w) hb1 (by go_grown); obtain ⟨hc1, hf1⟩ := bcell hb1; have hz1 := hb1.size; (repeat rw [World.size_alloc] at hz1); (try (have lt0 : w.heap.size < w1.heap.size := by omega)); have hy1 := hB1.size; clear hb1) | (go_at_call 37; refine (heightsI lat n (by omega) (by omega) (by omega) (by omega) _).mono ?_; rintro e w1 ⟨rfl, hb1⟩; have hB1 := below_next (w0 := w) hb1 (by go_grown); obtain ⟨hc1, hf1⟩ := bcell hb1; have hz1 := hb1.size; (repeat rw [World.size_alloc] at hz1); (try (have lt0 : w.heap.size < w1.heap.size := by omega)); have hy1 := hB1.size; clear hb1) | go_in)
            go_ret
            exact ⟨rfl, by go_grown⟩
          · go_enter Try.func5, Try.ntmps5
            go_wp2_with (first | (go_at_call 32; refine (inS _ _ _ _).mono ?_; rintro e w' ⟨rfl, rfl⟩) | (go_at_call 49; refine (inI _ _ _ _).mono ?_; rintro e w' ⟨rfl, rfl⟩) | (go_at_call 33; refine (ofS lat n (by omega) (by omega) (by omega) (by omega) _).mono ?_; rintro e w1 ⟨rfl, hb1⟩; have hB1 := below_next (w0 := w) hb1 (by go_grown); obtain ⟨hc1, hf1⟩ := bcell hb1; have hz1 := hb1.size; (repeat rw [World.size_alloc] at hz1); (try (have lt0 : w.heap.size < w1.heap.size := by omega)); have hy1 := hB1.size; clear hb1) | (go_at_call 34; refine (atS lat n _ _ (by omega) (by omega) _ ?hB ?c0 ?c1).mono ?_; (case hB => first | (simp; done) | (simp; omega)); (case c0 => first | assumption | (go_simp; done)); (case c1 => first | assumption | (go_simp; done)); rintro e w1 ⟨rfl, hb1⟩; have hB1 := below_next (w0 := w) hb1 (by go_grown); obtain ⟨hc1, hf1⟩ := bcell hb1; have hz1 := hb1.size; (repeat rw [World.size_alloc] at hz1); (try (have lt0 : w.heap.size < w1.heap.size := by omega)); have hy1 := hB1.size; clear hb1) | (go_at_call 37; refine (heightsI lat n (by omega) (by omega) (by omega) (by omega) _).mono ?_; rintro e w1 ⟨rfl, hb1⟩; have hB1 := below_next (w0 := w) hb1 (by go_grown); obtain ⟨hc1, hf1⟩ := bcell hb1; have hz1 := hb1.size; (repeat rw [World.size_alloc] at hz1); (try (have lt0 : w.heap.size < w1.heap.size := by omega)); have hy1 := hB1.size; clear hb1) | go_in)
            go_ret
            exact ⟨rfl, by go_grown⟩
end Go.Proofs.Ytnpoemhpfaiooaa
