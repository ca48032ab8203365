--%!
/- Contracts: a day as text, reference and program alike; the walk of the law on it. Own work. -/
import Derived.Test.YtphlbpailmdndaaDoorTwo
import Derived.Test.YtphlbpailmdndaaDoorCal
namespace Go.Proofs.YtphlbpailmdndaaDoor
open Go.ChangeShapes Go.WideShapes Go.ChangeAt Go.RowKit
set_option linter.unusedVariables false
set_option maxRecDepth 100000
set_option maxHeartbeats 2000000

noncomputable def itoaT (n : Int) : ByteArray := ⟨(Lib.itoa n).toArray⟩
noncomputable def padS (n : Int) : ByteArray := ⟨(padV n).toArray⟩
theorem itoaT_le {n : Int} (h0 : -9223372036854775808 ≤ n) (h1 : n ≤ 9223372036854775807) : (itoaT n).size ≤ 20 := by unfold itoaT; rw [size_lst]; exact itoa_le h0 h1
theorem padS_le {n : Int} (h0 : 0 ≤ n) (h1 : n ≤ 99) : (padS n).size ≤ 2 := by unfold padS; rw [size_lst, padV_len h0 h1]; omega
noncomputable def dtx (y m d : Int) : ByteArray := itoaT y ++ ⟨#[45]⟩ ++ padS m ++ ⟨#[45]⟩ ++ padS d
def DTextIs (n : Int) (t : ByteArray) : Prop := (inB n 0 99999 = false ∧ t = ByteArray.empty) ∨ (inB n 0 99999 = true ∧ ∃ y m d, IsDate n y m d ∧ t = dtx y m d)
theorem dtextIs_unique {n : Int} {t u : ByteArray} (h : DTextIs n t) (k : DTextIs n u) : t = u := by
  rcases h with ⟨h0, rfl⟩ | ⟨h0, y, m, d, hd, rfl⟩
  · rcases k with ⟨k0, rfl⟩ | ⟨k0, y, m, d, hd, rfl⟩
    · rfl
    · rw [h0] at k0; cases k0
  · rcases k with ⟨k0, rfl⟩ | ⟨k0, y', m', d', hd', rfl⟩
    · rw [h0] at k0; cases k0
    · obtain ⟨rfl, rfl, rfl⟩ := isDate_unique hd hd'
      rfl
def DTextBack (n : Int) (w : World) (e : Ending) (w' : World) : Prop := ∃ t : ByteArray, DTextIs n t ∧ e = .returned (.string t) ∧ Below w.heap.size w w'
theorem dtx_bd {n y m d : Int} (h : IsDate n y m d) : (itoaT y).size ≤ 20 ∧ (padS m).size ≤ 2 ∧ (padS d).size ≤ 2 ∧ (itoaT y ++ ⟨#[45]⟩ : ByteArray).size ≤ 21 ∧ (itoaT y ++ ⟨#[45]⟩ ++ padS m : ByteArray).size ≤ 23 ∧ (itoaT y ++ ⟨#[45]⟩ ++ padS m ++ ⟨#[45]⟩ : ByteArray).size ≤ 24 := by
  obtain ⟨y0, y1, m0, m1, d0, d1, -⟩ := h
  have hd := dim_bd y m
  have a := itoaT_le (n := y) (by omega) (by omega)
  have b := padS_le (n := m) (by omega) (by omega)
  have c := padS_le (n := d) (by omega) (by omega)
  have e1 : (itoaT y ++ ⟨#[45]⟩ : ByteArray).size = (itoaT y).size + 1 := by rw [ByteArray.size_append]; rfl
  have e2 : (itoaT y ++ ⟨#[45]⟩ ++ padS m : ByteArray).size = (itoaT y).size + 1 + (padS m).size := by rw [ByteArray.size_append, e1]
  have e3 : (itoaT y ++ ⟨#[45]⟩ ++ padS m ++ ⟨#[45]⟩ : ByteArray).size = (itoaT y).size + 1 + (padS m).size + 1 := by rw [ByteArray.size_append, e2]; rfl
  exact ⟨a, b, c, by omega, by omega, by omega⟩
theorem dayS (n : Int) (w : World) : Calls Tryd.prog 71 #[.int .i64 n] w fun e w' => e = .returned (.bool (inB n 0 99999)) ∧ w = w' := by
  go_enter Tryd.func71, Tryd.ntmps71
  go_wp2_with fail
  refine (inS _ _ _ _).mono ?_
  rintro e w' ⟨rfl, rfl⟩
  go_wp2_with fail
  go_ret
  exact ⟨rfl, rfl⟩
theorem dayI (n : Int) (w : World) : Calls Tryd.prog 73 #[.int .i64 n] w fun e w' => e = .returned (.bool (inB n 0 99999)) ∧ w = w' := by
  go_enter Tryd.func73, Tryd.ntmps73
  go_wp2_with fail
  refine (inI _ _ _ _).mono ?_
  rintro e w' ⟨rfl, rfl⟩
  go_wp2_with fail
  go_ret
  exact ⟨rfl, rfl⟩
theorem decTS (n : Int) (h0 : -9223372036854775808 ≤ n) (h1 : n ≤ 9223372036854775807) (w : World) :
    Calls Tryd.prog 55 #[.int .i64 n] w fun e w' => e = .returned (.string (itoaT n)) ∧ Below w.heap.size w w' := l01DecS n h0 h1 w
theorem twoTS (n : Int) (h0 : 0 ≤ n) (h1 : n ≤ 99) (w : World) :
    Calls Tryd.prog 66 #[.int .i64 n] w fun e w' => e = .returned (.string (padS n)) ∧ Below w.heap.size w w' := twoS n h0 h1 w
theorem decTI (n : Int) (h0 : -9223372036854775808 ≤ n) (h1 : n ≤ 9223372036854775807) (w : World) (hp : Pow w) :
    Calls Tryd.prog 16 #[.int .i64 n] w fun e w' => e = .returned (.string (itoaT n)) ∧ Below w.heap.size w w' := decI n h0 h1 w hp
theorem twoTI (n : Int) (h0 : 0 ≤ n) (h1 : n ≤ 99) (w : World) (hp : Pow w) :
    Calls Tryd.prog 68 #[.int .i64 n, .int .i64 2] w fun e w' => e = .returned (.string (padS n)) ∧ Below w.heap.size w w' := paddedI n h0 h1 w hp
theorem l03TextS (n : Int) (h0 : 0 ≤ n) (h1 : n ≤ 99999) (w : World) :
    Calls Tryd.prog 72 #[.int .i64 n] w fun e w' => ∃ y m d, IsDate n y m d ∧ e = .returned (.string (dtx y m d)) ∧ Below w.heap.size w w' := by
  go_enter Tryd.func72, Tryd.ntmps72
  go_wp2_with fail
  refine (dateS n h0 h1 w).mono ?_
  rintro e w' ⟨y, m, d, hd, rfl, rfl⟩
  obtain ⟨sa, sb, sc, s1, s2, s3⟩ := dtx_bd hd
  have hD := hide hd
  obtain ⟨y0, y1, m0, m1, d0, d1, -⟩ := hd
  have hdm := dim_bd y m
  go_wp2_with fail
  refine (decTS y (by omega) (by omega) w).mono ?_
  rintro e w1 ⟨rfl, hb1⟩
  go_wp2_with fail
  refine (twoTS m (by omega) (by omega) w1).mono ?_
  rintro e w2 ⟨rfl, hb2⟩
  have hB2 := below_next (w0 := w) hb2 hb1
  clear hb1 hb2
  go_wp2_with fail
  refine (twoTS d (by omega) (by omega) w2).mono ?_
  rintro e w3 ⟨rfl, hb3⟩
  have hB3 := below_next (w0 := w) hb3 hB2
  clear hb3 hB2
  go_wp2_with fail
  go_ret
  exact ⟨y, m, d, hD.out, rfl, hB3⟩
theorem dtextS (n : Int) (w : World) : Calls Tryd.prog 29 #[.int .i64 n] w (DTextBack n w) := by
  cases h : inB n 0 99999
  · have HB := hide h
    clear h
    go_enter Tryd.func29, Tryd.ntmps29
    go_wp2_with fail
    refine (dayS _ _).mono ?_
    rw [HB.out]
    rintro e w1 ⟨rfl, rfl⟩
    go_wp2_with fail
    go_ret
    exact ⟨_, Or.inl ⟨HB.out, rfl⟩, rfl, Below.refl _ _⟩
  · have HB := hide h
    obtain ⟨b0, b1⟩ := (inB_iff _ _ _).1 h
    clear h
    go_enter Tryd.func29, Tryd.ntmps29
    go_wp2_with fail
    refine (dayS _ _).mono ?_
    rw [HB.out]
    rintro e w1 ⟨rfl, rfl⟩
    go_wp2_with fail
    refine (l03TextS n b0 b1 _).mono ?_
    rintro e w2 ⟨y, m, d, hd, rfl, hb2⟩
    have hD := hide hd
    clear hd
    go_wp2_with fail
    go_ret
    exact ⟨_, Or.inr ⟨HB.out, y, m, d, hD.out, rfl⟩, rfl, hb2⟩
theorem dtextI (n : Int) (w : World) (hp : Pow w) : Calls Tryd.prog 30 #[.int .i64 n] w (DTextBack n w) := by
  have HP := hide hp
  clear hp
  cases h : inB n 0 99999
  · have HB := hide h
    clear h
    go_enter Tryd.func30, Tryd.ntmps30
    go_wp2_with fail
    refine (dayI _ _).mono ?_
    rw [HB.out]
    rintro e w1 ⟨rfl, rfl⟩
    go_wp2_with fail
    go_ret
    exact ⟨_, Or.inl ⟨HB.out, rfl⟩, rfl, Below.refl _ _⟩
  · have HB := hide h
    obtain ⟨b0, b1⟩ := (inB_iff _ _ _).1 h
    clear h
    go_enter Tryd.func30, Tryd.ntmps30
    go_wp2_with fail
    refine (dayI _ _).mono ?_
    rw [HB.out]
    rintro e w1 ⟨rfl, rfl⟩
    go_wp2_with fail
    refine (dateI n b0 b1 w).mono ?_
    rintro e w' ⟨y, m, d, hd, rfl, rfl⟩
    obtain ⟨sa, sb, sc, s1, s2, s3⟩ := dtx_bd hd
    have hD := hide hd
    obtain ⟨y0, y1, m0, m1, d0, d1, -⟩ := hd
    have hdm := dim_bd y m
    go_wp2_with fail
    refine (decTI y (by omega) (by omega) w HP.out).mono ?_
    rintro e w1 ⟨rfl, hb1⟩
    have HP1 := hide (HP.out.below hb1)
    go_wp2_with fail
    refine (twoTI m (by omega) (by omega) w1 HP1.out).mono ?_
    rintro e w2 ⟨rfl, hb2⟩
    have HP2 := hide (HP1.out.below hb2)
    have hB2 := below_next (w0 := w) hb2 hb1
    clear hb1 hb2
    go_wp2_with fail
    refine (twoTI d (by omega) (by omega) w2 HP2.out).mono ?_
    rintro e w3 ⟨rfl, hb3⟩
    have hB3 := below_next (w0 := w) hb3 hB2
    clear hb3 hB2
    go_wp2_with fail
    go_ret
    exact ⟨_, Or.inr ⟨HB.out, y, m, d, hD.out, rfl⟩, rfl, hB3⟩
theorem fnExactDateText_walk (n : Int) (h0 : -9223372036854775808 ≤ n) (h1 : n ≤ 9223372036854775807) (w : World) (hp : Pow w) :
    Calls Tryd.prog 9 #[.int .i64 n] w fun e w' => e = .returned (.bool true) ∧ Below w.heap.size w w' := by
  have HP := hide hp
  clear hp
  go_enter Tryd.func9, Tryd.ntmps9
  go_wp2_with fail
  refine (dtextS n w).mono ?_
  rintro e w1 ⟨t, ht, rfl, hb1⟩
  have HP1 := hide (HP.out.below hb1)
  have HT := hide ht
  clear ht
  go_wp2_with fail
  refine (dtextI n w1 HP1.out).mono ?_
  rintro e w2 ⟨u, hu, rfl, hb2⟩
  obtain rfl := dtextIs_unique HT.out hu
  have hB2 := below_next (w0 := w) hb2 hb1
  clear hb1 hb2 hu
  go_wp2_with fail
  go_ret
  exact ⟨rfl, hB2⟩
end Go.Proofs.YtphlbpailmdndaaDoor
