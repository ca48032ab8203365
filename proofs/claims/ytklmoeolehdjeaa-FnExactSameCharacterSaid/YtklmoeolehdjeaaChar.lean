--%!
/- Characters of lights: what an argument of that type gives; the laws' sizes, copies and comparison of them; the comparison of two, reference and program alike. Own work. -/
import Derived.Test.YtklmoeolehdjeaaNmArg
import Derived.Test.YtklmoeolehdjeaaPh
namespace Go.Proofs.Ytklmoeolehdjeaa
open Go.ChangeShapes Go.WideShapes Go.ChangeAt Go.RowKit Go.Joins Go.Deep
set_option linter.unusedVariables false
set_option maxRecDepth 100000
set_option maxHeartbeats 1000000

theorem array5 {α : Type} {cs : Array α} (h : cs.size = 5) : ∃ c0 c1 c2 c3 c4, cs = #[c0, c1, c2, c3, c4] := by
  obtain ⟨l⟩ := cs
  match l, h with
  | [c0, c1, c2, c3, c4], _ => exact ⟨c0, c1, c2, c3, c4, rfl⟩
section
variable {H : Type} {enc : TypeId × Value → H} {P : Program} {w : World} {base : Nat} {spare : Nat → Bool} {held : Bool}
theorem trod_struct5 {t : TypeId} {f0 f1 f2 f3 f4 : Field} {fuel : Nat} {cs : List Value} {x : DataW H × List MemPlace} (ht : P.underlying t = some (.struct #[f0, f1, f2, f3, f4])) (h : DataW.trod enc P w base spare held fuel t cs = some x) :
    ∃ y0 y1 y2 y3 y4 n, DataW.trod enc P w base spare held n f0.type ((cs.drop f0.offset).take (P.cellsOf f0.type)) = some y0 ∧
      DataW.trod enc P w base spare held n f1.type ((cs.drop f1.offset).take (P.cellsOf f1.type)) = some y1 ∧ DataW.trod enc P w base spare held n f2.type ((cs.drop f2.offset).take (P.cellsOf f2.type)) = some y2 ∧
      DataW.trod enc P w base spare held n f3.type ((cs.drop f3.offset).take (P.cellsOf f3.type)) = some y3 ∧ DataW.trod enc P w base spare held n f4.type ((cs.drop f4.offset).take (P.cellsOf f4.type)) = some y4 := by
  obtain ⟨xs, n, _, rfl, hl, hlen, hf⟩ := DataW.trod_struct ht h
  match xs, hlen with
  | [y0, y1, y2, y3, y4], _ => exact ⟨y0, y1, y2, y3, y4, n, by simpa using hf 0 f0 rfl, by simpa using hf 1 f1 rfl, by simpa using hf 2 f2 rfl, by simpa using hf 3 f3 rfl, by simpa using hf 4 f4 rfl⟩
theorem open_agg5 {r : Reach} {b0 : Nat} {t : TypeId} {f0 f1 f2 f3 f4 : Field} {v : Value} {d : DataW H} {p : List MemPlace} (hs : P.underlying t = some (.struct #[f0, f1, f2, f3, f4])) (hone : oneCellFields P #[f0, f1, f2, f3, f4] = true) (hC : P.cellsOf t = 5)
    (hv : Value.okWide P w r b0 t v) (h : DataW.Trod enc P w base spare held t v d p) :
    ∃ (v0 v1 v2 v3 v4 : Value) (y0 y1 y2 y3 y4 : DataW H × List MemPlace) (n : Nat), v = .agg #[v0, v1, v2, v3, v4] ∧
      DataW.trod enc P w base spare held n f0.type [v0] = some y0 ∧ DataW.trod enc P w base spare held n f1.type [v1] = some y1 ∧ DataW.trod enc P w base spare held n f2.type [v2] = some y2 ∧ DataW.trod enc P w base spare held n f3.type [v3] = some y3 ∧ DataW.trod enc P w base spare held n f4.type [v4] = some y4 := by
  obtain ⟨cs, rfl, hsz⟩ := okWide_struct hs hv
  obtain ⟨c0, c1, c2, c3, c4, rfl⟩ := array5 (hsz.trans hC)
  obtain ⟨fuel, hf⟩ := h
  obtain ⟨y0, y1, y2, y3, y4, n, h0, h1, h2, h3, h4⟩ := trod_struct5 hs hf
  obtain ⟨o0, k0⟩ := hone_of hone 0 f0 rfl
  obtain ⟨o1, k1⟩ := hone_of hone 1 f1 rfl
  obtain ⟨o2, k2⟩ := hone_of hone 2 f2 rfl
  obtain ⟨o3, k3⟩ := hone_of hone 3 f3 rfl
  obtain ⟨o4, k4⟩ := hone_of hone 4 f4 rfl
  exact ⟨c0, c1, c2, c3, c4, y0, y1, y2, y3, y4, n, rfl, by simpa [Value.cells, o0, k0] using h0, by simpa [Value.cells, o1, k1] using h1, by simpa [Value.cells, o2, k2] using h2, by simpa [Value.cells, o3, k3] using h3, by simpa [Value.cells, o4, k4] using h4⟩
end
theorem NmAt.other {w : World} {g off b o : Nat} {l : List Int} (h : NmAt w g off l) (ne : b ≠ g) (v : Value) : NmAt (w.setCell ⟨b, o, none⟩ v) g off l := fun k hk => by
  rw [World.cell?_setCell_other _ _ _ _ (fun e => ne (by injection e))]
  exact h k hk
theorem open_char {H : Type} {enc : TypeId × Value → H} {W : World} {base b0 : Nat} {r : Reach} {v : Value} {d : DataW H} {p : List MemPlace}
    (hv : Value.okWide Try.prog W r b0 30 v) (h : DataW.Trod enc Try.prog W base (fun _ => true) true 30 v d p) :
    ∃ (k : Int) (A : Option Addr) (n c : Nat) (l : List Int) (L C : ByteArray) (q : Int), v = .agg #[.int .i64 k, .slice A n c, .string L, .string C, .int .i64 q] ∧ l.length = n ∧ n ≤ maxLen ∧ L.size ≤ maxLen ∧ C.size ≤ maxLen ∧ NmRd W W.heap.size A l := by
  have hC : Try.prog.cellsOf 30 = 5 := by kernel_rfl
  obtain ⟨v0, v1, v2, v3, v4, y0, y1, y2, y3, y4, m, rfl, h0, h1, h2, h3, h4⟩ := open_agg5 Try.underlying30 (by kernel_rfl) hC hv h
  obtain ⟨k, e0, -, -⟩ := DataW.trod_int Try.underlying2 h0
  obtain ⟨L, e2, -, wL⟩ := DataW.trod_string Try.underlying9 h2
  obtain ⟨C, e3, -, wC⟩ := DataW.trod_string Try.underlying9 h3
  obtain ⟨q, e4, -, -⟩ := DataW.trod_int Try.underlying2 h4
  simp at e0 e2 e3 e4
  subst e0 e2 e3 e4
  rcases open_ints Try.underlying28 Try.underlying2 cellsI64 h1 with ⟨hcs, _⟩ | ⟨a, len, cap, zs, hcs, _, hl, hm, hz, _, hx, hwf⟩
  · simp at hcs
    subst hcs
    exact ⟨k, none, 0, 0, [], L, C, q, rfl, rfl, Nat.zero_le _, wL, wC, fun h => absurd h (by simp)⟩
  · simp at hcs
    subst hcs
    simp only [if_true] at hz
    have hlen : (zs.take len).length = len := by rw [List.length_take]; omega
    refine ⟨k, some a, len, cap, zs.take len, L, C, q, rfl, hlen, by omega, wL, wC, fun h0 => ?_⟩
    have c0 := hx 0 (by omega)
    obtain ⟨g, off, rfl⟩ := no_spot (show W.cell? a = some _ by simpa [Addr.add] using c0)
    refine ⟨g, off, rfl, ?_, fun k hk => ?_⟩
    · have := World.block_lt_of_cell? W _ c0
      rw [add_off] at this
      exact this
    · have hk' : k < zs.length := by omega
      have := hx k hk'
      rw [add_off, List.getD_eq_getElem?_getD, List.getElem?_eq_getElem hk', Option.getD_some] at this
      rw [List.getElem_take]
      exact this
theorem szNums (A : Option Addr) (n c : Nat) (hm : n ≤ maxLen) (left : Int) (h0 : 0 ≤ left) (h1 : left ≤ 1048576) (w : World) :
    Calls Try.prog 46 #[.slice A n c, .int .i64 left] w fun e w' => e = .returned (.int .i64 (if left < (n : Int) then -1 else left - (n : Int))) ∧ w = w' := by
  unfold maxLen at hm
  by_cases hl : left < (n : Int)
  · rw [if_pos hl]
    go_enter Try.func46, Try.ntmps46
    go_wp2
    go_ret
    exact ⟨rfl, rfl⟩
  · rw [if_neg hl]
    go_enter Try.func46, Try.ntmps46
    go_wp2
    go_ret
    exact ⟨rfl, rfl⟩
theorem szChar (k q : Int) (A : Option Addr) (n c : Nat) (L C : ByteArray) (hm : n ≤ maxLen) (hL : L.size ≤ maxLen) (hC : C.size ≤ maxLen) (left : Int) (h0 : 0 ≤ left) (h1 : left ≤ 1048576) (w : World) :
    Calls Try.prog 18 #[.agg #[.int .i64 k, .slice A n c, .string L, .string C, .int .i64 q], .int .i64 left] w fun e w' => ∃ r : Int, e = .returned (.int .i64 r) ∧ (-1 ≤ r ∧ r ≤ left ∧ (0 ≤ r → (n : Int) ≤ left)) ∧ Below w.heap.size w w' := by
  have hm' := hm
  unfold maxLen at hm hL hC
  by_cases hl : left < (n : Int)
  · go_enter Try.func18, Try.ntmps18
    go_wp2_with (go_at_call 46; refine (szNums _ _ _ hm' _ h0 h1 _).mono ?_; rw [if_pos hl]; rintro e w1 ⟨rfl, rfl⟩)
    go_ret
    exact ⟨_, rfl, by omega, by go_grown⟩
  · go_enter Try.func18, Try.ntmps18
    go_wp2_with (go_at_call 46; refine (szNums _ _ _ hm' _ h0 h1 _).mono ?_; rw [if_neg hl]; rintro e w1 ⟨rfl, rfl⟩)
    all_goals
      go_ret
      exact ⟨_, rfl, by omega, by go_grown⟩
theorem toChar (k q : Int) (A : Option Addr) (n c : Nat) (l : List Int) (L C : ByteArray) (hn : l.length = n) (hm : n ≤ 1048576) (w : World) (hp : NmRd w w.heap.size A l) :
    Calls Try.prog 20 #[.agg #[.int .i64 k, .slice A n c, .string L, .string C, .int .i64 q]] w fun e w' => ∃ g, e = .returned (.agg #[.int .i64 k, .slice (some ⟨g, 0, none⟩) n n, .string L, .string C, .int .i64 q]) ∧ w.heap.size ≤ g ∧ g < w'.heap.size ∧ NmAt w' g 0 l ∧ Below w.heap.size w w' := by
  have HP := hide hp
  clear hp
  go_enter Try.func20, Try.ntmps20
  go_wp2_with fail
  refine (toNums A n c l hn hm _ ((HP.out.below (by go_grown)).more (by simp; omega))).mono ?_
  rintro e w1 ⟨g, rfl, hg1, hg2, hp1, hb1⟩
  have hB1 := below_next (w0 := w) hb1 (by go_grown)
  obtain ⟨hc1, hf1⟩ := bcell hb1
  have hz1 := hb1.size
  (repeat rw [World.size_alloc] at hz1)
  (repeat rw [World.size_alloc] at hg1)
  have lt0 : w.heap.size < w1.heap.size := by omega
  have lt1 : w.heap.size + 1 < w1.heap.size := by omega
  have lt2 : w.heap.size + 1 + 1 < w1.heap.size := by omega
  have HN := hide hp1
  clear hb1 hp1
  go_wp2_with fail
  refine bodyPost_ret (by simp [results, Try.results20, go_sem, *]; try rfl) rfl ⟨g, rfl, by omega, by simp; omega, ?_, ?_⟩
  · repeat refine NmAt.other ?_ (by omega) _
    exact HN.out
  · repeat refine Below.setCell ?_ (by simp; try omega) _
    exact hB1
end Go.Proofs.Ytklmoeolehdjeaa
