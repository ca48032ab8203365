--%!
/- An argument that is a list of phases, opened: its elements lie in memory, in range. Own work. -/
import Derived.Test.YtklmoeolehdjeaaPh
import Derived.Deep.SlicePairs
namespace Go.Proofs.Ytklmoeolehdjeaa
open Go.ChangeShapes Go.WideShapes Go.ChangeAt Go.RowKit Go.Deep
set_option linter.unusedVariables false

theorem add_at (g off n : Nat) : (⟨g, off, none⟩ : Addr).add n = ⟨g, off + n, none⟩ := by
  unfold Addr.add
  split
  · rename_i h; subst h; rfl
  · rfl
theorem spot_none {w : World} {a : Addr} {v : Value} (h : w.cell? a = some v) : ∃ g off, a = ⟨g, off, none⟩ := by
  obtain ⟨g, off, sp⟩ := a
  cases sp with
  | none => exact ⟨g, off, rfl⟩
  | some x =>
    exfalso
    unfold World.cell? at h
    split at h
    · simp at h
    · cases h
theorem cellsP : Try.prog.cellsOf 48 = 2 := by kernel_rfl
theorem cellsS : Try.prog.cellsOf 9 = 1 := by kernel_rfl
theorem cellsI : Try.prog.cellsOf 2 = 1 := by kernel_rfl
theorem open_phases {H : Type} {enc : TypeId × Value → H} {W : World} {base b0 : Nat} {r : Reach} {v : Value} {d : DataW H} {p : List MemPlace}
    (hv : Value.okWide Try.prog W r b0 22 v) (h : DataW.Trod enc Try.prog W base (fun _ => true) true 22 v d p) :
    ∃ (A : Option Addr) (n c : Nat) (ps : List (ByteArray × Int)), v = .slice A n c ∧ ps.length = n ∧ n ≤ maxLen ∧ PhFit ps ∧ PhRd W W.heap.size A ps := by
  obtain ⟨A, n, c, rfl⟩ := okWide_slice Try.underlying22 hv
  obtain ⟨fuel, hf⟩ := h
  rcases open_slice_pairs Try.underlying22 Try.underlying48 cellsP rfl rfl cellsS cellsI hf with ⟨hcs, _⟩ | ⟨a, len, cap, m, q, V0, V1, D0, D1, P0, P1, hcs, _, hl, hm, hmm, _, hx⟩
  · simp [Value.cells] at hcs
    obtain ⟨rfl, rfl, rfl⟩ := hcs
    exact ⟨none, 0, 0, [], rfl, rfl, Nat.zero_le _, (fun x hx => by cases hx), fun h => absurd h (by simp)⟩
  · simp [Value.cells] at hcs
    obtain ⟨rfl, rfl, rfl⟩ := hcs
    rw [if_pos rfl] at hmm
    subst hmm
    have each : ∀ i, i < n → ∃ x : ByteArray × Int, W.cell? (a.add (i * 2)) = some (.string x.1) ∧ W.cell? (a.add (i * 2 + 1)) = some (.int .i64 x.2) ∧ x.1.size ≤ maxLen ∧ (Lit.int .i64 x.2).wf = true := by
      intro i hi
      obtain ⟨h0, h1, t0, t1⟩ := hx i (by omega)
      obtain ⟨s, e0, _, ws⟩ := DataW.trod_string Try.underlying9 t0
      obtain ⟨z, e1, _, wz⟩ := DataW.trod_int Try.underlying2 t1
      simp at e0 e1
      rw [e0] at h0
      rw [e1] at h1
      exact ⟨(s, z), h0, h1, ws, wz⟩
    obtain ⟨f, hfn⟩ := choose_lt each
    refine ⟨_, _, _, (List.range n).map f, rfl, by simp, by omega, ?_, ?_⟩
    · intro x hx
      obtain ⟨i, hi, rfl⟩ := List.mem_map.1 hx
      obtain ⟨_, _, h1, h2⟩ := hfn i (List.mem_range.1 hi)
      exact ⟨h1, (bounds_i64 h2).1, (bounds_i64 h2).2⟩
    · intro h0
      rw [List.length_map, List.length_range] at h0
      obtain ⟨c0, _, _, _⟩ := hfn 0 h0
      obtain ⟨g, off, rfl⟩ := spot_none (show W.cell? a = some _ by simpa [Addr.add] using c0)
      refine ⟨g, off, rfl, ?_, ?_⟩
      · have := World.block_lt_of_cell? W _ c0
        rw [add_at] at this
        exact this
      · intro k hk
        rw [List.length_map, List.length_range] at hk
        obtain ⟨h1, h2, _, _⟩ := hfn k hk
        rw [add_at] at h1 h2
        simp only [List.getElem_map, List.getElem_range]
        exact ⟨h1, by rw [Nat.add_assoc]; exact h2⟩
end Go.Proofs.Ytklmoeolehdjeaa
