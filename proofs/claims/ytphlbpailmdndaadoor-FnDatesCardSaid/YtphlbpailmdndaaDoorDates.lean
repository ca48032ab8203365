--%!
/- The walk of the law on dates: dates are days and days dates, the next day is the next weekday, twelve months are a year. Own work. -/
import Derived.Test.YtphlbpailmdndaaDoorRDate
import Derived.Test.YtphlbpailmdndaaDoorNmArg
namespace Go.Proofs.YtphlbpailmdndaaDoor
open Go.ChangeShapes Go.WideShapes Go.ChangeAt Go.RowKit
set_option linter.unusedVariables false
set_option maxRecDepth 100000
set_option maxHeartbeats 2000000

/-- the days of the year go on by one, or begin anew -/
theorem next_day {n y m d y2 m2 d2 : Int} (h : IsDate n y m d) (k : IsDate (n + 1) y2 m2 d2) : (n + 1 - fd y2 + 1 = n - fd y + 1 + 1) ∨ (n + 1 - fd y2 + 1 = 1 ∧ 365 ≤ n - fd y + 1) := by
  obtain ⟨a1, a2, a3, a4, a5, a6, a7⟩ := h
  obtain ⟨b1, b2, b3, b4, b5, b6, b7⟩ := k
  have A := num_year (y := y) a3 a4 a5 a6
  have B := num_year (y := y2) b3 b4 b5 b6
  rw [a7] at A
  rw [b7] at B
  have hl := lp_bd y
  have hs := fd_succ y
  rcases Int.lt_trichotomy y y2 with e | e | e
  · have := fd_mono (a := y + 1) (b := y2) (by omega)
    right; omega
  · subst e; left; omega
  · have := fd_mono (a := y2 + 1) (b := y) (by omega)
    omega
theorem cum_next (y m : Int) : cum (y + 1) m ≤ cum y m + 1 := by
  have a := lp_bd y
  have b := lp_bd (y + 1)
  unfold cum
  repeat' split
  all_goals omega
/-- twelve months on -/
theorem year_on {n y m d : Int} (h : IsDate n y m d) (hn : n ≤ 99534) : ∃ d', d' = min d (dim (y + 1) m) ∧ IsDate (num (y + 1) m d') (y + 1) m d' ∧ 0 ≤ num (y + 1) m d' ∧ num (y + 1) m d' ≤ 99999 ∧ addRes y m d 12 = .tuple #[.int .i64 (num (y + 1) m d'), .int .i64 0] ∧ (d' = d ∨ (m = 2 ∧ d = 29 ∧ d' = 28)) := by
  obtain ⟨a1, a2, a3, a4, a5, a6, a7⟩ := h
  have hd1 := dim_bd (y + 1) m
  have hd0 := dim_bd y m
  have hs := fd_succ y
  have hl := lp_bd y
  have hl1 := lp_bd (y + 1)
  have hc := cum_next y m
  obtain ⟨d', hd'⟩ : ∃ d', d' = min d (dim (y + 1) m) := ⟨_, rfl⟩
  have hle : d' ≤ d ∧ d' ≤ dim (y + 1) m ∧ 1 ≤ d' := by omega
  have hnum : num (y + 1) m d' ≤ 99999 := by unfold num at a7 ⊢; omega
  have hcb := cum_bd (y + 1) m a3 (by omega)
  have hy : y + 1 ≤ 2273 := fd_year (by omega) (by unfold num at hnum; omega)
  have hI : IsDate (num (y + 1) m d') (y + 1) m d' := ⟨by omega, hy, a3, a4, hle.2.2, hle.2.1, rfl⟩
  refine ⟨d', hd', hI, (num_bd (y := y + 1) (by omega) hy a3 a4 hle.2.2 hle.2.1).1, hnum, ?_, ?_⟩
  · have e1 : (12 * y + m - 1 + 12) / 12 = y + 1 := by omega
    have e2 : (12 * y + m - 1 + 12) % 12 + 1 = m := by omega
    have := addRes_yes (y := y) (m := m) (d := d) (k := 12) (d' := d') (by rw [e1, e2]; exact hd'.symm) (by rw [e1]; exact hy) (by rw [e1, e2]; exact hnum)
    rw [e1, e2] at this
    exact this
  · by_cases hm : m = 2
    · subst hm
      have e0 : dim y 2 = 28 + lp y := rfl
      have e1 : dim (y + 1) 2 = 28 + lp (y + 1) := rfl
      omega
    · have e : dim y m = dim (y + 1) m := by unfold dim; rw [if_neg hm, if_neg hm]
      left; omega
/-- bytes lie in a block from a place on -/
def BtAt (w : World) (g off : Nat) (l : List Int) : Prop := ∀ (k : Nat) (hk : k < l.length), w.cell? ⟨g, off + k, none⟩ = some (.int .u8 l[k])
def BtRd (w : World) (B : Nat) (A : Option Addr) (l : List Int) : Prop := 0 < l.length → ∃ g off, A = some ⟨g, off, none⟩ ∧ g < B ∧ BtAt w g off l
theorem BtRd.below {w w' : World} {B : Nat} {A : Option Addr} {l : List Int} (h : BtRd w B A l) (hb : Below B w w') : BtRd w' B A l := fun h0 => by
  obtain ⟨g, off, e, hg, hp⟩ := h h0
  exact ⟨g, off, e, hg, fun k hk => (hb.cell (p := ⟨g, off + k, none⟩) hg).trans (hp k hk)⟩
def BtFit (l : List Int) : Prop := ∀ x ∈ l, 0 ≤ x ∧ x ≤ 255
theorem cellsU8 : Tryd.prog.cellsOf 5 = 1 := by kernel_rfl
theorem open_bytes {H : Type} {enc : TypeId × Value → H} {W : World} {base b0 : Nat} {r : Reach} {v : Value} {d : DataW H} {p : List MemPlace}
    (hv : Value.okWide Tryd.prog W r b0 48 v) (h : DataW.Trod enc Tryd.prog W base (fun _ => true) true 48 v d p) :
    ∃ (A : Option Addr) (n c : Nat) (l : List Int), v = .slice A n c ∧ l.length = n ∧ n ≤ maxLen ∧ BtFit l ∧ BtRd W W.heap.size A l := by
  obtain ⟨A, n, c, rfl⟩ := okWide_slice Tryd.underlying48 hv
  obtain ⟨fuel, hf⟩ := h
  rcases open_ints Tryd.underlying48 Tryd.underlying5 cellsU8 hf with ⟨hcs, _⟩ | ⟨a, len, cap, zs, hcs, _, hl, hm, hz, _, hx, hwf⟩
  · simp [Value.cells] at hcs
    obtain ⟨rfl, rfl, rfl⟩ := hcs
    exact ⟨none, 0, 0, [], rfl, rfl, Nat.zero_le _, (fun x hx => by cases hx), fun h => absurd h (by simp)⟩
  · simp [Value.cells] at hcs
    obtain ⟨rfl, rfl, rfl⟩ := hcs
    simp only [if_true] at hz
    have hlen : (zs.take n).length = n := by rw [List.length_take]; omega
    refine ⟨_, _, _, zs.take n, rfl, hlen, by omega, fun x hx => ?_, fun h0 => ?_⟩
    · have := hwf x (List.mem_of_mem_take hx)
      simpa [Lit.wf, IntKind.min, IntKind.max, IntKind.signed, IntKind.bits] using this
    have c0 := hx 0 (by omega)
    obtain ⟨g, off, rfl⟩ := no_spot (show W.cell? a = some _ by simpa [Addr.add] using c0)
    refine ⟨g, off, rfl, ?_, fun k hk => ?_⟩
    · have := World.block_lt_of_cell? W _ c0
      rw [add_off] at this
      exact this
    · have hk' : k < zs.length := by omega
      have := hx k hk'
      rw [add_off, List.getD_eq_getElem?_getD, List.getElem?_eq_getElem hk', Option.getD_some] at this
      rw [List.getElem_take]
      exact this
theorem r8At1 (A : Option Addr) (n c : Nat) (l : List Int) (hn : l.length = n) (hm : n ≤ maxLen) (hf : BtFit l) (k : Nat) (hk : k ≤ 100) (w : World) {B : Nat} (hp : BtRd w B A l) :
    Calls Tryd.prog 84 #[.slice A n c, .int .i64 k, .int .i64 256] w fun e w' => ∃ v : Int, e = .returned (.int .i64 v) ∧ (0 ≤ v ∧ v ≤ 255) ∧ w = w' := by
  subst hn
  unfold maxLen at hm
  by_cases hlt : k < l.length
  · obtain ⟨g, off, rfl, hg, hx⟩ := hp (by omega)
    have c1 := hx k hlt
    obtain ⟨x, ex⟩ : ∃ x, l[k] = x := ⟨_, rfl⟩
    have hb : 0 ≤ x ∧ x ≤ 255 := by rw [← ex]; exact hf _ (List.getElem_mem hlt)
    rw [ex] at c1
    have g1 : decide ((l.length : Int) ≤ (k : Int)) = false := by simp; omega
    have ht : x.tmod 256 = x := by rw [Int.tmod_eq_emod_of_nonneg hb.1]; omega
    clear hp hx hf ex
    go_enter Tryd.func84, Tryd.ntmps84
    go_wp2
    go_ret
    exact ⟨_, rfl, by omega, rfl⟩
  · have g1 : decide ((l.length : Int) ≤ (k : Int)) = true := by simp; omega
    clear hp hf
    go_enter Tryd.func84, Tryd.ntmps84
    go_wp2
    go_ret
    exact ⟨0, rfl, by omega, rfl⟩
theorem r8At2 (A : Option Addr) (n c : Nat) (l : List Int) (hn : l.length = n) (hm : n ≤ maxLen) (hf : BtFit l) (k : Int) (hk0 : 0 ≤ k) (hk : k ≤ 100) (w : World) {B : Nat} (hp : BtRd w B A l) :
    Calls Tryd.prog 84 #[.slice A n c, .int .i64 k, .int .i64 256] w fun e w' => ∃ v : Int, e = .returned (.int .i64 v) ∧ (0 ≤ v ∧ v ≤ 255) ∧ w = w' := by
  obtain ⟨u, rfl⟩ := Int.eq_ofNat_of_zero_le hk0
  exact r8At1 A n c l hn hm hf u (by omega) w hp
theorem r8Wide1 (A : Option Addr) (n c : Nat) (l : List Int) (hn : l.length = n) (hm : n ≤ maxLen) (hf : BtFit l) (k : Int) (hk0 : 0 ≤ k) (hk : k ≤ 90) (q : Int) (hq : 1 ≤ q) (hq1 : q ≤ 65536) (w : World) {B : Nat} (hp : BtRd w B A l) :
    Calls Tryd.prog 46 #[.slice A n c, .int .i64 k, .int .i64 q] w fun e w' => ∃ v : Int, e = .returned (.int .i64 v) ∧ (0 ≤ v ∧ v ≤ q - 1) ∧ w = w' := by
  have HF := hide hf
  have HP := hide hp
  clear hf hp
  go_enter Tryd.func46, Tryd.ntmps46
  go_wp2_with fail
  refine (r8At2 A n c l hn hm HF.out k hk0 (by omega) w HP.out).mono ?_
  rintro e w' ⟨a, rfl, ha, rfl⟩
  go_wp2_with fail
  refine (r8At2 A n c l hn hm HF.out (k + 1) (by omega) (by omega) w HP.out).mono ?_
  rintro e w' ⟨b, rfl, hb, rfl⟩
  have ht : 0 ≤ (256 * a + b) % q ∧ (256 * a + b) % q ≤ q - 1 := by
    have := Int.emod_nonneg (256 * a + b) (show q ≠ 0 by omega)
    have := Int.emod_lt_of_pos (256 * a + b) (show 0 < q by omega)
    omega
  go_wp2_with fail
  go_ret
  exact ⟨_, rfl, ht, rfl⟩
theorem r8LeapS (y : Int) (h0 : 0 ≤ y) (h1 : y ≤ 1000000) (w : World) : Calls Tryd.prog 54 #[.int .i64 y] w fun e w' => e = .returned (.bool (leapB y)) ∧ w = w' := by
  rcases leap_cases y with ⟨a, b, H⟩ | ⟨a, b, H⟩ | ⟨a, b, c, H⟩ | ⟨a, b, c, H⟩
  all_goals
    rw [H]
    have ta : y.tmod 4 = y % 4 := Int.tmod_eq_emod_of_nonneg h0
    have tb : y.tmod 100 = y % 100 := Int.tmod_eq_emod_of_nonneg h0
    have tc : y.tmod 400 = y % 400 := Int.tmod_eq_emod_of_nonneg h0
    go_enter Tryd.func54, Tryd.ntmps54
    go_wp2
    all_goals
      go_ret
      exact ⟨ret_bool (by simp [*] <;> omega), rfl⟩
theorem dateOfI (n : Int) (h0 : 0 ≤ n) (h1 : n ≤ 99999) (w : World) : Calls Tryd.prog 47 #[.int .i64 n] w fun e w' => ∃ y m d : Int, IsDate n y m d ∧ e = .returned (.tuple #[.int .i64 y, .int .i64 m, .int .i64 d, .int .i64 0]) ∧ w = w' := by
  have HB := hide (inB_true h0 h1)
  go_enter Tryd.func47, Tryd.ntmps47
  go_wp2_with fail
  refine (dayI _ _).mono ?_
  rw [HB.out]
  rintro e w' ⟨rfl, rfl⟩
  go_wp2_with fail
  refine (dateI n h0 h1 w).mono ?_
  rintro e w' ⟨y, m, d, hd, rfl, rfl⟩
  have HD := hide hd
  clear hd
  go_wp2_with fail
  refine bodyPost_ret (by simp [results, Tryd.results47, go_sem]; try rfl) rfl ?_
  exact ⟨y, m, d, HD.out, rfl, rfl⟩
theorem monthDaysI (y m : Int) (h0 : 2000 ≤ y) (h1 : y ≤ 2273) (h2 : 1 ≤ m) (h3 : m ≤ 12) (w : World) : Calls Tryd.prog 49 #[.int .i64 y, .int .i64 m] w fun e w' => e = .returned (.tuple #[.int .i64 (dim y m), .int .i64 0]) ∧ w = w' := by
  have hy := inB_true h0 h1
  have hm := inB_true h2 h3
  go_enter Tryd.func49, Tryd.ntmps49
  go_wp2_with (first | (go_at_call 80; refine (inI _ _ _ _).mono ?_; rintro e w' ⟨rfl, rfl⟩) | (go_at_call 87; refine (monthI _ _ (by omega) (by omega) (by omega) (by omega) _).mono ?_; rintro e w' ⟨rfl, rfl⟩) | go_in)
  go_ret2
  exact ⟨rfl, rfl⟩
theorem weekdayI (n : Int) (h0 : 0 ≤ n) (h1 : n ≤ 99999) (w : World) : Calls Tryd.prog 50 #[.int .i64 n] w fun e w' => e = .returned (.tuple #[.int .i64 ((n + 5) % 7), .int .i64 0]) ∧ w = w' := by
  have HB := hide (inB_true h0 h1)
  have ht : (n + 5).tmod 7 = (n + 5) % 7 := Int.tmod_eq_emod_of_nonneg (by omega)
  go_enter Tryd.func50, Tryd.ntmps50
  go_wp2_with fail
  refine (dayI _ _).mono ?_
  rw [HB.out]
  rintro e w' ⟨rfl, rfl⟩
  go_wp2_with fail
  go_ret2
  exact ⟨rfl, rfl⟩
theorem dayYearI (n : Int) (h0 : 0 ≤ n) (h1 : n ≤ 99999) (w : World) : Calls Tryd.prog 51 #[.int .i64 n] w fun e w' => ∃ y m d : Int, IsDate n y m d ∧ e = .returned (.tuple #[.int .i64 (n - fd y + 1), .int .i64 0]) ∧ w = w' := by
  have HB := hide (inB_true h0 h1)
  go_enter Tryd.func51, Tryd.ntmps51
  go_wp2_with fail
  refine (dayI _ _).mono ?_
  rw [HB.out]
  rintro e w' ⟨rfl, rfl⟩
  go_wp2_with fail
  refine (doyI n h0 h1 w).mono ?_
  rintro e w' ⟨y, m, d, hd, rfl, rfl⟩
  have HD := hide hd
  clear hd
  go_wp2_with fail
  go_ret2
  exact ⟨y, m, d, HD.out, rfl, rfl⟩
end Go.Proofs.YtphlbpailmdndaaDoor
