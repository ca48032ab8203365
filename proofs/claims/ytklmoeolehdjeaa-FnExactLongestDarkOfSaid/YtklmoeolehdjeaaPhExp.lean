--%!
/- Contracts of the exported functions on a period of phases: its length, its flashes, the part of it that is lit. Own work. -/
import Derived.Test.YtklmoeolehdjeaaPhCnt
namespace Go.Proofs.Ytklmoeolehdjeaa
open Go.ChangeShapes Go.WideShapes Go.ChangeAt Go.RowKit
set_option linter.unusedVariables false
set_option maxRecDepth 100000
set_option maxHeartbeats 2000000

noncomputable def valV (f : List (ByteArray × Int) → Int) (ps : List (ByteArray × Int)) : Int := if okPh ps = true then f ps else 0
theorem valV_t {f : List (ByteArray × Int) → Int} {ps : List (ByteArray × Int)} (h : okPh ps = true) : valV f ps = f ps := if_pos h
theorem valV_f {f : List (ByteArray × Int) → Int} {ps : List (ByteArray × Int)} (h : okPh ps = false) : valV f ps = 0 := if_neg (by rw [h]; decide)
noncomputable def perF (ps : List (ByteArray × Int)) : Int := ((once ps).length : Int)
noncomputable def flashN (ps : List (ByteArray × Int)) : Int := cnt (flashF (once ps)) (once ps).length
noncomputable def dutyN (ps : List (ByteArray × Int)) : Int := cnt (litF (once ps)) (once ps).length * 1000000 / ((once ps).length : Int)
theorem onePerI' {ps : List (ByteArray × Int)} (h1 : 1 ≤ (tn ps).length) (h2 : (tn ps).length ≤ 600) (g n c : Nat) (qs : List (ByteArray × Int)) (hn : ps.length = n) (hm : n ≤ 40) (hok : ps.all elOk = true) (w : World) (hp : PhAt w g 0 ps) (hg : g < w.heap.size) :
    Calls Try.prog 60 #[.slice (some ⟨g, 0, none⟩) n c] w fun e w' => ∃ g' c', e = .returned (.slice (some ⟨g', 0, none⟩) (once ps).length c') ∧ w.heap.size ≤ g' ∧ g' < w'.heap.size ∧ TAt w' g' (once ps) strV ∧ Below w.heap.size w w' := by
  rw [once_len h1]
  exact onePerI g n c ps hn hm hok h1 h2 w hp hg
theorem onceS' {ps : List (ByteArray × Int)} (h1 : 1 ≤ (tn ps).length) (h2 : (tn ps).length ≤ 600) (g n c : Nat) (qs : List (ByteArray × Int)) (hn : ps.length = n) (hm : n ≤ 40) (hok : ps.all elOk = true) (w : World) (hp : PhAt w g 0 ps) (hg : g < w.heap.size) :
    Calls Try.prog 59 #[.slice (some ⟨g, 0, none⟩) n c] w fun e w' => ∃ g' c', e = .returned (.slice (some ⟨g', 0, none⟩) (once ps).length c') ∧ w.heap.size ≤ g' ∧ g' < w'.heap.size ∧ TAt w' g' (once ps) byteV ∧ Below w.heap.size w w' := by
  rw [once_len h1]
  exact onceS g n c ps hn hm hok h1 h2 w hp hg
theorem patPerI_b (w : World) (g n c : Nat) (ps : List (ByteArray × Int)) (hn : ps.length = n) (hm : n ≤ 1048576) (hf : PhFit ps) (hp : PhAt w g 0 ps) (hg : g < w.heap.size) :
    Calls Try.prog 30 #[.slice (some ⟨g, 0, none⟩) n c] w fun e w' => e = .returned (.tuple #[.int .i64 (valV perF ps), .int .i64 (okV ps)]) ∧ Below w.heap.size w w' := by
  have C := hide (validI g n c ps hn hm hf w hp hg)
  have HP := hide hp
  have HN := hide hn
  have HF := hide hf
  cases h : okPh ps
  · have E0 := hide (int_eq (k := .i64) (valV_f (f := perF) h))
    have E1 := hide (int_eq (k := .i64) (okV_f h))
    clear hp hf hn
    go_enter Try.func30, Try.ntmps30
    go_wp2_with fail
    refine C.out.mono ?_
    rw [h]
    rintro e w1 ⟨rfl, hb1⟩
    clear C h
    go_wp2_with fail
    go_returns
    exact ⟨ret_two E0.out.symm E1.out.symm, hb1⟩
  · have E0 := hide (int_eq (k := .i64) (valV_t (f := perF) h))
    have E1 := hide (int_eq (k := .i64) (okV_t h))
    have HV := hide h
    obtain ⟨p1, p2, p3, p4⟩ := okPh_parts h
    have HA := hide p1
    have hn40 : n ≤ 40 := by omega
    have p5 := tn_le p1 p4
    have p6 := tn_pos p1 p2
    clear hp hf hn p1
    go_enter Try.func30, Try.ntmps30
    go_wp2_with fail
    refine C.out.mono ?_
    rw [h]
    rintro e w1 ⟨rfl, hb1⟩
    have hg1 := Nat.lt_of_lt_of_le hg hb1.size
    have HP1 := hide (HP.out.below hb1 hg)
    clear C h
    go_wp2_with fail
    refine (onePerI' p6 p5 g n c ps HN.out hn40 HA.out w1 HP1.out hg1).mono ?_
    rintro e w2 ⟨g2, c2, rfl, -, hl2, ht2, hb2⟩
    have hB2 := below_next (w0 := w) hb2 hb1
    have HT2 := hide ht2
    have l1 : 1 ≤ (once ps).length := by rw [once_len p6]; exact (per_spec p6).pos
    have l2 : (once ps).length ≤ 600 := by rw [once_len p6]; exact Nat.le_trans (per_spec p6).le p5
    clear hb1 hb2 ht2
    go_wp2_with fail
    go_returns
    exact ⟨ret_two E0.out.symm E1.out.symm, hB2⟩
theorem patPerS_b (w : World) (g n c : Nat) (ps : List (ByteArray × Int)) (hn : ps.length = n) (hm : n ≤ 1048576) (hf : PhFit ps) (hp : PhAt w g 0 ps) (hg : g < w.heap.size) :
    Calls Try.prog 29 #[.slice (some ⟨g, 0, none⟩) n c] w fun e w' => e = .returned (.tuple #[.int .i64 (valV perF ps), .int .i64 (okV ps)]) ∧ Below w.heap.size w w' := by
  have C := hide (l06OkS_b w g n c ps hn hm hf hp hg)
  have HP := hide hp
  have HN := hide hn
  have HF := hide hf
  cases h : okPh ps
  · have E0 := hide (int_eq (k := .i64) (valV_f (f := perF) h))
    have E1 := hide (int_eq (k := .i64) (okV_f h))
    clear hp hf hn
    go_enter Try.func29, Try.ntmps29
    go_wp2_with fail
    refine C.out.mono ?_
    rw [h]
    rintro e w1 ⟨rfl, hb1⟩
    clear C h
    go_wp2_with fail
    go_returns
    exact ⟨ret_two E0.out.symm E1.out.symm, hb1⟩
  · have E0 := hide (int_eq (k := .i64) (valV_t (f := perF) h))
    have E1 := hide (int_eq (k := .i64) (okV_t h))
    have HV := hide h
    obtain ⟨p1, p2, p3, p4⟩ := okPh_parts h
    have HA := hide p1
    have hn40 : n ≤ 40 := by omega
    have p5 := tn_le p1 p4
    have p6 := tn_pos p1 p2
    clear hp hf hn p1
    go_enter Try.func29, Try.ntmps29
    go_wp2_with fail
    refine C.out.mono ?_
    rw [h]
    rintro e w1 ⟨rfl, hb1⟩
    have hg1 := Nat.lt_of_lt_of_le hg hb1.size
    have HP1 := hide (HP.out.below hb1 hg)
    clear C h
    go_wp2_with fail
    refine (onceS' p6 p5 g n c ps HN.out hn40 HA.out w1 HP1.out hg1).mono ?_
    rintro e w2 ⟨g2, c2, rfl, -, hl2, ht2, hb2⟩
    have hB2 := below_next (w0 := w) hb2 hb1
    have HT2 := hide ht2
    have l1 : 1 ≤ (once ps).length := by rw [once_len p6]; exact (per_spec p6).pos
    have l2 : (once ps).length ≤ 600 := by rw [once_len p6]; exact Nat.le_trans (per_spec p6).le p5
    clear hb1 hb2 ht2
    go_wp2_with fail
    go_returns
    exact ⟨ret_two E0.out.symm E1.out.symm, hB2⟩
theorem flashesInI_b (w : World) (g n c : Nat) (ps : List (ByteArray × Int)) (hn : ps.length = n) (hm : n ≤ 1048576) (hf : PhFit ps) (hp : PhAt w g 0 ps) (hg : g < w.heap.size) :
    Calls Try.prog 32 #[.slice (some ⟨g, 0, none⟩) n c] w fun e w' => e = .returned (.tuple #[.int .i64 (valV flashN ps), .int .i64 (okV ps)]) ∧ Below w.heap.size w w' := by
  have C := hide (validI g n c ps hn hm hf w hp hg)
  have HP := hide hp
  have HN := hide hn
  have HF := hide hf
  cases h : okPh ps
  · have E0 := hide (int_eq (k := .i64) (valV_f (f := flashN) h))
    have E1 := hide (int_eq (k := .i64) (okV_f h))
    clear hp hf hn
    go_enter Try.func32, Try.ntmps32
    go_wp2_with fail
    refine C.out.mono ?_
    rw [h]
    rintro e w1 ⟨rfl, hb1⟩
    clear C h
    go_wp2_with fail
    go_returns
    exact ⟨ret_two E0.out.symm E1.out.symm, hb1⟩
  · have E0 := hide (int_eq (k := .i64) (valV_t (f := flashN) h))
    have E1 := hide (int_eq (k := .i64) (okV_t h))
    have HV := hide h
    obtain ⟨p1, p2, p3, p4⟩ := okPh_parts h
    have HA := hide p1
    have hn40 : n ≤ 40 := by omega
    have p5 := tn_le p1 p4
    have p6 := tn_pos p1 p2
    clear hp hf hn p1
    go_enter Try.func32, Try.ntmps32
    go_wp2_with fail
    refine C.out.mono ?_
    rw [h]
    rintro e w1 ⟨rfl, hb1⟩
    have hg1 := Nat.lt_of_lt_of_le hg hb1.size
    have HP1 := hide (HP.out.below hb1 hg)
    clear C h
    go_wp2_with fail
    refine (onePerI' p6 p5 g n c ps HN.out hn40 HA.out w1 HP1.out hg1).mono ?_
    rintro e w2 ⟨g2, c2, rfl, -, hl2, ht2, hb2⟩
    have hB2 := below_next (w0 := w) hb2 hb1
    have HT2 := hide ht2
    have l1 : 1 ≤ (once ps).length := by rw [once_len p6]; exact (per_spec p6).pos
    have l2 : (once ps).length ≤ 600 := by rw [once_len p6]; exact Nat.le_trans (per_spec p6).le p5
    clear hb1 hb2 ht2
    go_wp2_with fail
    refine (flashI g2 c2 (once ps) l1 (by omega) _ HT2.out).mono ?_
    rintro e w' ⟨rfl, rfl⟩
    go_wp2_with fail
    go_returns
    exact ⟨ret_two E0.out.symm E1.out.symm, hB2⟩
theorem flashesInS_b (w : World) (g n c : Nat) (ps : List (ByteArray × Int)) (hn : ps.length = n) (hm : n ≤ 1048576) (hf : PhFit ps) (hp : PhAt w g 0 ps) (hg : g < w.heap.size) :
    Calls Try.prog 31 #[.slice (some ⟨g, 0, none⟩) n c] w fun e w' => e = .returned (.tuple #[.int .i64 (valV flashN ps), .int .i64 (okV ps)]) ∧ Below w.heap.size w w' := by
  have C := hide (l06OkS_b w g n c ps hn hm hf hp hg)
  have HP := hide hp
  have HN := hide hn
  have HF := hide hf
  cases h : okPh ps
  · have E0 := hide (int_eq (k := .i64) (valV_f (f := flashN) h))
    have E1 := hide (int_eq (k := .i64) (okV_f h))
    clear hp hf hn
    go_enter Try.func31, Try.ntmps31
    go_wp2_with fail
    refine C.out.mono ?_
    rw [h]
    rintro e w1 ⟨rfl, hb1⟩
    clear C h
    go_wp2_with fail
    go_returns
    exact ⟨ret_two E0.out.symm E1.out.symm, hb1⟩
  · have E0 := hide (int_eq (k := .i64) (valV_t (f := flashN) h))
    have E1 := hide (int_eq (k := .i64) (okV_t h))
    have HV := hide h
    obtain ⟨p1, p2, p3, p4⟩ := okPh_parts h
    have HA := hide p1
    have hn40 : n ≤ 40 := by omega
    have p5 := tn_le p1 p4
    have p6 := tn_pos p1 p2
    clear hp hf hn p1
    go_enter Try.func31, Try.ntmps31
    go_wp2_with fail
    refine C.out.mono ?_
    rw [h]
    rintro e w1 ⟨rfl, hb1⟩
    have hg1 := Nat.lt_of_lt_of_le hg hb1.size
    have HP1 := hide (HP.out.below hb1 hg)
    clear C h
    go_wp2_with fail
    refine (onceS' p6 p5 g n c ps HN.out hn40 HA.out w1 HP1.out hg1).mono ?_
    rintro e w2 ⟨g2, c2, rfl, -, hl2, ht2, hb2⟩
    have hB2 := below_next (w0 := w) hb2 hb1
    have HT2 := hide ht2
    have l1 : 1 ≤ (once ps).length := by rw [once_len p6]; exact (per_spec p6).pos
    have l2 : (once ps).length ≤ 600 := by rw [once_len p6]; exact Nat.le_trans (per_spec p6).le p5
    clear hb1 hb2 ht2
    go_wp2_with fail
    refine (flashS g2 c2 (once ps) l1 (by omega) _ HT2.out).mono ?_
    rintro e w' ⟨rfl, rfl⟩
    go_wp2_with fail
    go_returns
    exact ⟨ret_two E0.out.symm E1.out.symm, hB2⟩
theorem dutyI_b (w : World) (g n c : Nat) (ps : List (ByteArray × Int)) (hn : ps.length = n) (hm : n ≤ 1048576) (hf : PhFit ps) (hp : PhAt w g 0 ps) (hg : g < w.heap.size) :
    Calls Try.prog 34 #[.slice (some ⟨g, 0, none⟩) n c] w fun e w' => e = .returned (.tuple #[.int .i64 (valV dutyN ps), .int .i64 (okV ps)]) ∧ Below w.heap.size w w' := by
  have C := hide (validI g n c ps hn hm hf w hp hg)
  have HP := hide hp
  have HN := hide hn
  have HF := hide hf
  cases h : okPh ps
  · have E0 := hide (int_eq (k := .i64) (valV_f (f := dutyN) h))
    have E1 := hide (int_eq (k := .i64) (okV_f h))
    clear hp hf hn
    go_enter Try.func34, Try.ntmps34
    go_wp2_with fail
    refine C.out.mono ?_
    rw [h]
    rintro e w1 ⟨rfl, hb1⟩
    clear C h
    go_wp2_with fail
    go_returns
    exact ⟨ret_two E0.out.symm E1.out.symm, hb1⟩
  · have E0 := hide (int_eq (k := .i64) (valV_t (f := dutyN) h))
    have E1 := hide (int_eq (k := .i64) (okV_t h))
    have HV := hide h
    obtain ⟨p1, p2, p3, p4⟩ := okPh_parts h
    have HA := hide p1
    have hn40 : n ≤ 40 := by omega
    have p5 := tn_le p1 p4
    have p6 := tn_pos p1 p2
    clear hp hf hn p1
    go_enter Try.func34, Try.ntmps34
    go_wp2_with fail
    refine C.out.mono ?_
    rw [h]
    rintro e w1 ⟨rfl, hb1⟩
    have hg1 := Nat.lt_of_lt_of_le hg hb1.size
    have HP1 := hide (HP.out.below hb1 hg)
    clear C h
    go_wp2_with fail
    refine (onePerI' p6 p5 g n c ps HN.out hn40 HA.out w1 HP1.out hg1).mono ?_
    rintro e w2 ⟨g2, c2, rfl, -, hl2, ht2, hb2⟩
    have hB2 := below_next (w0 := w) hb2 hb1
    have HT2 := hide ht2
    have l1 : 1 ≤ (once ps).length := by rw [once_len p6]; exact (per_spec p6).pos
    have l2 : (once ps).length ≤ 600 := by rw [once_len p6]; exact Nat.le_trans (per_spec p6).le p5
    clear hb1 hb2 ht2
    have cb := cnt_bd (litF (once ps)) (once ps).length
    go_wp2_with fail
    refine (litI g2 c2 (once ps) l1 (by omega) _ HT2.out).mono ?_
    rintro e w' ⟨rfl, rfl⟩
    go_wp2_with fail
    go_returns
    exact ⟨ret_two E0.out.symm E1.out.symm, hB2⟩
theorem dutyS_b (w : World) (g n c : Nat) (ps : List (ByteArray × Int)) (hn : ps.length = n) (hm : n ≤ 1048576) (hf : PhFit ps) (hp : PhAt w g 0 ps) (hg : g < w.heap.size) :
    Calls Try.prog 33 #[.slice (some ⟨g, 0, none⟩) n c] w fun e w' => e = .returned (.tuple #[.int .i64 (valV dutyN ps), .int .i64 (okV ps)]) ∧ Below w.heap.size w w' := by
  have C := hide (l06OkS_b w g n c ps hn hm hf hp hg)
  have HP := hide hp
  have HN := hide hn
  have HF := hide hf
  cases h : okPh ps
  · have E0 := hide (int_eq (k := .i64) (valV_f (f := dutyN) h))
    have E1 := hide (int_eq (k := .i64) (okV_f h))
    clear hp hf hn
    go_enter Try.func33, Try.ntmps33
    go_wp2_with fail
    refine C.out.mono ?_
    rw [h]
    rintro e w1 ⟨rfl, hb1⟩
    clear C h
    go_wp2_with fail
    go_returns
    exact ⟨ret_two E0.out.symm E1.out.symm, hb1⟩
  · have E0 := hide (int_eq (k := .i64) (valV_t (f := dutyN) h))
    have E1 := hide (int_eq (k := .i64) (okV_t h))
    have HV := hide h
    obtain ⟨p1, p2, p3, p4⟩ := okPh_parts h
    have HA := hide p1
    have hn40 : n ≤ 40 := by omega
    have p5 := tn_le p1 p4
    have p6 := tn_pos p1 p2
    clear hp hf hn p1
    go_enter Try.func33, Try.ntmps33
    go_wp2_with fail
    refine C.out.mono ?_
    rw [h]
    rintro e w1 ⟨rfl, hb1⟩
    have hg1 := Nat.lt_of_lt_of_le hg hb1.size
    have HP1 := hide (HP.out.below hb1 hg)
    clear C h
    go_wp2_with fail
    refine (onceS' p6 p5 g n c ps HN.out hn40 HA.out w1 HP1.out hg1).mono ?_
    rintro e w2 ⟨g2, c2, rfl, -, hl2, ht2, hb2⟩
    have hB2 := below_next (w0 := w) hb2 hb1
    have HT2 := hide ht2
    have l1 : 1 ≤ (once ps).length := by rw [once_len p6]; exact (per_spec p6).pos
    have l2 : (once ps).length ≤ 600 := by rw [once_len p6]; exact Nat.le_trans (per_spec p6).le p5
    clear hb1 hb2 ht2
    have cb := cnt_bd (litF (once ps)) (once ps).length
    go_wp2_with fail
    refine (litS g2 c2 (once ps) l1 (by omega) _ HT2.out).mono ?_
    rintro e w' ⟨rfl, rfl⟩
    go_wp2_with fail
    go_returns
    exact ⟨ret_two E0.out.symm E1.out.symm, hB2⟩
end Go.Proofs.Ytklmoeolehdjeaa
