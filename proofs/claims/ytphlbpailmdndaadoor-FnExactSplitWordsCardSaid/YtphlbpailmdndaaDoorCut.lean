--%!
/- The library's cut and split of a text, said of any world in which the library's own variable is a number. Own work. -/
import Derived.Test.YtphlbpailmdndaaDoorCard
import Derived.Test.YtphlbpailmdndaaDoorShelf2
import Derived.Shelf.Vars
namespace Go.Proofs.YtphlbpailmdndaaDoor
open Go.ChangeShapes Go.WideShapes Go.ChangeAt Go.RowKit
set_option linter.unusedVariables false
set_option maxRecDepth 100000

/-- the library's variable is a number -/
def Mx (w : World) : Prop := ∃ m : Int, w.cell? ⟨3, 0, none⟩ = some (.int .i64 m)
theorem mx_of_shaped {w : World} (h : w.ShapedOpen Tryd.prog) : Mx w :=
  cell_of_shapedOpen_int (t := 3) (zero := #[.int .i64 0]) h (by decide +kernel) (by kernel_rfl) rfl (by kernel_rfl) (by kernel_rfl) (by kernel_rfl)
theorem Mx.below {w w' : World} (h : Mx w) (hb : Below w.heap.size w w') : Mx w' := by
  obtain ⟨m, hm⟩ := h
  refine ⟨m, ?_⟩
  have hlt : 3 < w.heap.size := by
    rcases Nat.lt_or_ge 3 w.heap.size with k | k
    · exact k
    · rw [World.cell?, Array.getElem?_eq_none k] at hm; cases hm
  rw [hb.cell (p := ⟨3, 0, none⟩) hlt]
  exact hm
theorem cutI (s sep : ByteArray) (hs : s.size ≤ 2097152) (w : World) (h : Mx w) :
    Calls Tryd.prog 64 #[.string s, .string sep] w fun e w' => e = .returned (.tuple #[.string ⟨(Lib.cut s.data.toList sep.data.toList).1.toArray⟩, .string ⟨(Lib.cut s.data.toList sep.data.toList).2.1.toArray⟩, .bool (Lib.cut s.data.toList sep.data.toList).2.2]) ∧ Below w.heap.size w w' := by
  obtain ⟨m, hm⟩ := h
  exact (Tryd.strings_Cut s sep m w (by omega) hm).mono fun e w' ⟨he, n, hn⟩ => ⟨he, by subst hn; exact ⟨rfl, rfl, rfl, Nat.le_refl _, fun _ _ => rfl⟩⟩
theorem splitI (s sep : ByteArray) (hs : s.size ≤ 2097152) (h1 : 1 ≤ sep.size) (w : World) (h : Mx w) :
    Calls Tryd.prog 76 #[.string s, .string sep] w fun e w' => e = .returned (.slice (some ⟨w.heap.size, 0, none⟩) (Lib.countB s sep + 1) (Lib.countB s sep + 1)) ∧ w' = w.alloc (.cells ((Lib.splitB sep 0 (Lib.countB s sep) s).map Value.string).toArray 9) := by
  obtain ⟨m, hm⟩ := h
  exact Tryd.strings_Split s sep m w (by omega) hm h1
end Go.Proofs.YtphlbpailmdndaaDoor
