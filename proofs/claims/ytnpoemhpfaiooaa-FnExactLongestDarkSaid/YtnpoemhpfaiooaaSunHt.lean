--%!
/- The sun's height, in numbers. Own work. -/
import Derived.Test.YtnpoemhpfaiooaaSun
import Derived.Deep.DeepCutAuto
import Derived.Laws.CopyOwn
import Derived.Laws.Tables
import Derived.Laws.Rows
namespace Go.Proofs.Ytnpoemhpfaiooaa
open Go.ChangeShapes Go.WideShapes Go.ChangeAt Go.RowKit
set_option linter.unusedVariables false
set_option maxRecDepth 100000
set_option maxHeartbeats 4000000

/-- the sun's share of a quarter of a degree: k = 4 q + r -/
def hq (k : Int) : Int := cosine (k / 4) + dr ((cosine (k / 4 + 1) - cosine (k / 4)) * (k % 4)) 4
noncomputable def stillV (lat n : Int) : Int := dr (sine lat * tenths (decl n)) 1000000
noncomputable def decA (n : Int) : Int := if decl n < -decl n then -decl n else decl n
noncomputable def moveV (lat n : Int) : Int := dr (cosine lat * tenths (900 - decA n)) 1000000
def awayV (m : Int) : Int := if m < 720 then 720 - m else m - 720
noncomputable def sunV (lat n m : Int) : Int := stillV lat n + dr (moveV lat n * hq (awayV m)) 1000000
theorem decA_bd (n : Int) (h0 : 0 ≤ n) (h1 : n ≤ 99999) : 0 ≤ decA n ∧ decA n ≤ 234 := by
  have := decl_bd n h0 h1
  unfold decA; split <;> omega
theorem still_parts (lat n : Int) : (-3000000000000 ≤ sine lat * tenths (decl n) ∧ sine lat * tenths (decl n) ≤ 3000000000000) ∧ -3000000 ≤ stillV lat n ∧ stillV lat n ≤ 3000000 := by
  have h := mul_abs (a := sine lat) (b := tenths (decl n)) (A := 1000000) (B := 3000000) (by omega) (by omega) (sine_bd lat).1 (sine_bd lat).2 (tenths_bd _).1 (tenths_bd _).2
  exact ⟨by omega, dr_bd _ _ _ (by decide) (by omega) (by omega)⟩
theorem move_parts (lat n : Int) : (-3000000000000 ≤ cosine lat * tenths (900 - decA n) ∧ cosine lat * tenths (900 - decA n) ≤ 3000000000000) ∧ -3000000 ≤ moveV lat n ∧ moveV lat n ≤ 3000000 := by
  have h := mul_abs (a := cosine lat) (b := tenths (900 - decA n)) (A := 1000000) (B := 3000000) (by omega) (by omega) (cosine_bd lat).1 (cosine_bd lat).2 (tenths_bd _).1 (tenths_bd _).2
  exact ⟨by omega, dr_bd _ _ _ (by decide) (by omega) (by omega)⟩
theorem hq_parts (k : Int) : (-6000000 ≤ (cosine (k / 4 + 1) - cosine (k / 4)) * (k % 4) ∧ (cosine (k / 4 + 1) - cosine (k / 4)) * (k % 4) ≤ 6000000) ∧
    (-1500000 ≤ dr ((cosine (k / 4 + 1) - cosine (k / 4)) * (k % 4)) 4 ∧ dr ((cosine (k / 4 + 1) - cosine (k / 4)) * (k % 4)) 4 ≤ 1500000) ∧ -2500000 ≤ hq k ∧ hq k ≤ 2500000 := by
  have h := step_bd (r := k % 4) (R := 3) (cosine_bd (k / 4)) (cosine_bd (k / 4 + 1)) (by omega) (by omega) (by omega)
  have g := dr_bd ((cosine (k / 4 + 1) - cosine (k / 4)) * (k % 4)) 4 1500000 (by decide) (by omega) (by omega)
  have := cosine_bd (k / 4)
  refine ⟨by omega, g, ?_⟩
  unfold hq; omega
theorem sun_parts (lat n k : Int) : (-7500000000000 ≤ moveV lat n * hq k ∧ moveV lat n * hq k ≤ 7500000000000) ∧ -7500000 ≤ dr (moveV lat n * hq k) 1000000 ∧ dr (moveV lat n * hq k) 1000000 ≤ 7500000 := by
  have h := mul_abs (a := moveV lat n) (b := hq k) (A := 3000000) (B := 2500000) (by omega) (by omega) (move_parts lat n).2.1 (move_parts lat n).2.2 (hq_parts k).2.2.1 (hq_parts k).2.2.2
  exact ⟨by omega, dr_bd _ _ _ (by decide) (by omega) (by omega)⟩
theorem away_bd {m : Int} (h0 : 0 ≤ m) (h1 : m ≤ 1440) : 0 ≤ awayV m ∧ awayV m ≤ 720 := by unfold awayV; split <;> omega
/-- the heights of the first q minutes, and zeros -/
def fillV (f : Int → Int) (q : Nat) : Array Value := Array.ofFn (n := 1440) fun i => .int .i64 (if i.val < q then f (i.val : Int) else 0)
theorem fillV_size (f : Int → Int) (q : Nat) : (fillV f q).size = 1440 := by unfold fillV; exact Array.size_ofFn
theorem fillV_get (f : Int → Int) (q k : Nat) (h : k < 1440) : (fillV f q)[k]? = some (.int .i64 (if k < q then f (k : Int) else 0)) := by
  unfold fillV
  rw [Array.getElem?_ofFn, dif_pos h]
theorem fillV_set (f : Int → Int) (q : Nat) (h : q < 1440) : (fillV f q).setIfInBounds q (.int .i64 (f (q : Int))) = fillV f (q + 1) := by
  apply Array.ext_getElem?
  intro k
  by_cases hk : k < 1440
  · rw [Array.getElem?_setIfInBounds, fillV_get f (q + 1) k hk, fillV_get f q k hk, fillV_size]
    by_cases e : q = k
    · subst e; simp [h]
    · rw [if_neg e]
      by_cases hl : k < q
      · rw [if_pos hl, if_pos (by omega)]
      · rw [if_neg hl, if_neg (by omega)]
  · rw [Array.getElem?_eq_none (by rw [Array.size_setIfInBounds, fillV_size]; omega), Array.getElem?_eq_none (by rw [fillV_size]; omega)]
theorem fillV_one (f : Int → Int) (q : Nat) : (fillV f q).all (·.oneCell') = true := by
  rw [Array.all_eq_true]
  intro i hi
  simp only [fillV, Array.getElem_ofFn]
  rfl
theorem zeroCells_rep : Try.zeroCells35 = Array.replicate 1440 (.int .i64 0) := by kernel_rfl
theorem zeroCells_fill (f : Int → Int) : Try.zeroCells35 = fillV f 0 := by
  rw [zeroCells_rep]
  apply Array.ext_getElem?
  intro k
  by_cases hk : k < 1440
  · rw [fillV_get f 0 k hk, Array.getElem?_replicate, if_pos hk, if_neg (by omega)]
  · rw [Array.getElem?_eq_none (by simp; omega), Array.getElem?_eq_none (by rw [fillV_size]; omega)]
theorem size1440 : (Try.prog.info? 35).map (·.size) = some 1440 := by kernel_rfl
noncomputable def sunRow (lat n : Int) : Array Value := fillV (sunV lat n) 1440
theorem floorI4 (k : Int) (h0 : 0 ≤ k) (h1 : k ≤ 720) (w : World) :
    Calls Try.prog 58 #[.int .i64 k, .int .i64 4] w fun e w' => e = .returned (.tuple #[.int .i64 (k / 4), .int .i64 (k % 4)]) ∧ w = w' := floorI k 4 (by omega) (by omega) (by omega) (by omega) w
theorem awayI (m : Int) (h0 : 0 ≤ m) (h1 : m ≤ 1440) (w : World) : Calls Try.prog 59 #[.int .i64 m, .int .i64 720] w fun e w' => e = .returned (.int .i64 (awayV m)) ∧ w = w' := by
  unfold awayV
  by_cases h : m < 720
  · rw [if_pos h]
    go_enter Try.func59, Try.ntmps59
    go_wp2
    go_ret
    exact ⟨ret_int (by omega), rfl⟩
  · rw [if_neg h]
    go_enter Try.func59, Try.ntmps59
    go_wp2
    go_ret
    exact ⟨ret_int (by omega), rfl⟩
theorem heightsI (lat n : Int) (l0 : -66 ≤ lat) (l1 : lat ≤ 66) (h0 : 0 ≤ n) (h1 : n ≤ 99999) (w : World) :
    Calls Try.prog 37 #[.int .i64 lat, .int .i64 n] w fun e w' => e = .returned (.agg (sunRow lat n)) ∧ Below w.heap.size w w' := by
  have hd := decl_bd n h0 h1
  obtain ⟨⟨s1, s2⟩, s3, s4⟩ := still_parts lat n
  obtain ⟨⟨m1, m2⟩, m3, m4⟩ := move_parts lat n
  have ha := decA_bd n h0 h1
  have HA : Hid ((if decl n < -decl n then -decl n else decl n) = decA n) := rfl
  have HS : Hid (dr (sine lat * tenths (decl n)) 1000000 = stillV lat n) := rfl
  have HM : Hid (dr (cosine lat * tenths (900 - decA n)) 1000000 = moveV lat n) := rfl
  have hz : (Try.zeroCells35).size = 1440 := by rw [zeroCells_fill (fun _ => 0), fillV_size]
  go_enter Try.func37, Try.ntmps37
  go_upto_region 2 with (go_at_call 30; refine (declI _ (by omega) (by omega) _).mono ?_; rintro e w' ⟨rfl, rfl⟩)
  go_upto_region 3 with (go_at_call 56; (try rw [HA.out]); refine (tenI _ (by omega) (by omega) _).mono ?_; rintro e w' ⟨rfl, rfl⟩)
  go_upto_region 5 with (first | (go_at_call 57; refine (sineI _ (by omega) (by omega) _).mono ?_; rintro e w' ⟨rfl, rfl⟩) | (go_at_call 51; refine (cosineI _ (by omega) (by omega) _).mono ?_; rintro e w' ⟨rfl, rfl⟩) | (go_at_call 50; refine (divI _ _ (by omega) (by omega) (by omega) (by omega) (by omega) _).mono ?_; rintro e w' ⟨rfl, rfl⟩))
  rw [HS.out, HM.out]
  clear s1 s2 m1 m2
  go_upto_region 6 with (refine wpList_store_row rfl 35 _ _ rfl (w.heap.size + 1) Try.zeroCells35 rfl rfl 35 Try.zeroCells35 (by simpa using heap_alloc2_new w _ _) (by rw [hz]; exact size1440) rfl (by rw [zeroCells_fill (fun _ => 0)]; exact fillV_one _ _) ?_)
  have hh0 : (((w.alloc (.cells Try.zeroCells35 35)).alloc (.cells Try.zeroCells35 35)).setRow (w.heap.size + 1) Try.zeroCells35).heap[w.heap.size + 1]? = some (.cells (fillV (sunV lat n) 0) 35 (0, 0)) := by
    rw [← zeroCells_fill]
    exact setRow_heap _ _ Try.zeroCells35 _ _ _ (by simpa using heap_alloc2_new w _ _)
  have hh1 : (((w.alloc (.cells Try.zeroCells35 35)).alloc (.cells Try.zeroCells35 35)).setRow (w.heap.size + 1) Try.zeroCells35).heap[w.heap.size]? = some (.cells Try.zeroCells35 35 (0, 0)) := by
    rw [setRow_other _ _ _ _ (by omega)]
    exact heap_alloc2_old w _ _
  have hb : Below w.heap.size w (((w.alloc (.cells Try.zeroCells35 35)).alloc (.cells Try.zeroCells35 35)).setRow (w.heap.size + 1) Try.zeroCells35) := below_setRow (by go_grown) (by omega) _
  generalize (((w.alloc (.cells Try.zeroCells35 35)).alloc (.cells Try.zeroCells35 35)).setRow (w.heap.size + 1) Try.zeroCells35) = W at hh0 hh1 hb ⊢
  dsimp only [Act.put]
  have HH0 := hide hh0
  have HH1 := hide hh1
  clear hh0 hh1 HA HS HM
  go_wp2
  go_loopw [36] (fun v wr => ∃ q : Nat, q ≤ 1440 ∧ v = .int .i64 q ∧ Below w.heap.size w wr ∧ Hid (wr.heap[w.heap.size + 1]? = some (.cells (fillV (sunV lat n) q) 35 (0, 0))) ∧ Hid (wr.heap[w.heap.size]? = some (.cells Try.zeroCells35 35 (0, 0)))) (fun v _ => 1440 - (intOf v).toNat)
  case atStart => exact ⟨0, by omega, rfl, hb, HH0, HH1⟩
  case round =>
    obtain ⟨q, hqb, rfl, hbw, H0, H1⟩ := hrel
    by_cases hq3 : q < 1440
    · obtain ⟨k0, k1⟩ := away_bd (m := (q : Int)) (by omega) (by omega)
      obtain ⟨⟨p1, p2⟩, ⟨p3, p4⟩, p5, p6⟩ := hq_parts (awayV (q : Int))
      obtain ⟨⟨r1, r2⟩, r3, r4⟩ := sun_parts lat n (awayV (q : Int))
      obtain ⟨c1, c2⟩ := cosine_bd (awayV (q : Int) / 4)
      obtain ⟨c3, c4⟩ := cosine_bd (awayV (q : Int) / 4 + 1)
      simp only [hq] at p5 p6 r1 r2 r3 r4
      have HV : Hid (sunV lat n (q : Int) = stillV lat n + dr (moveV lat n * (cosine (awayV (q : Int) / 4) + dr ((cosine (awayV (q : Int) / 4 + 1) - cosine (awayV (q : Int) / 4)) * (awayV (q : Int) % 4)) 4)) 1000000) := rfl
      have hc : wr.cell? ⟨w.heap.size + 1, q, none⟩ = some (.int .i64 0) := by rw [cell_of_row _ _ _ _ _ _ H0.out, fillV_get _ _ _ hq3, if_neg (by omega)]
      have hf : wr.frozen? ⟨w.heap.size + 1, q, none⟩ = false := frozen_of_row _ _ _ _ _ H0.out
      go_wp2_with (first | (go_at_call 59; refine (awayI _ (by omega) (by omega) _).mono ?_; rintro e w' ⟨rfl, rfl⟩) | (go_at_call 58; refine (floorI4 _ (by omega) (by omega) _).mono ?_; rintro e w' ⟨rfl, rfl⟩) | (go_at_call 51; refine (cosineI _ (by omega) (by omega) _).mono ?_; rintro e w' ⟨rfl, rfl⟩) | (go_at_call 50; refine (divI _ _ (by omega) (by omega) (by omega) (by omega) (by omega) _).mono ?_; rintro e w' ⟨rfl, rfl⟩))
      go_roundw
      case rel => exact ⟨q + 1, by omega, by go_num, hbw.setCell (by simp) _, hide (by rw [← HV.out, setCell_eq_setRow _ _ _ _ _ _ _ H0.out, setRow_heap _ _ _ _ _ _ H0.out, fillV_set _ _ hq3]), hide (by rw [setCell_eq_setRow _ _ _ _ _ _ _ H0.out, setRow_other _ _ _ _ (by omega)]; exact H1.out)⟩
      case measure => simp [intOf]; omega
    · obtain rfl : q = 1440 := by omega
      go_wp2_with (first | (refine wpList_load_row rfl 35 _ rfl (w.heap.size + 1) rfl 35 _ (0, 0) _ H0.out Try.underlying35 rfl (by rw [fillV_size]; exact size1440) ?_; dsimp only [Act.put]) | (refine wpList_store_row rfl 35 _ _ rfl w.heap.size (fillV (sunV lat n) 1440) rfl rfl 35 Try.zeroCells35 H1.out (by rw [fillV_size]; exact size1440) (by rw [hz, fillV_size]) (fillV_one _ _) ?_; dsimp only [Act.put]))
      refine bodyPost_ret (v := .agg (fillV (sunV lat n) 1440)) (results_cell_row Try.results37 _ _ w.heap.size 35 _ (0, 0) _ rfl (setRow_heap _ _ _ _ _ _ H1.out) Try.underlying35 rfl (by rw [fillV_size]; exact size1440)) rfl ⟨rfl, below_setRow hbw (by omega) _⟩
end Go.Proofs.Ytnpoemhpfaiooaa
