/- The statement FnExactNearestOf: called with any arguments that can be read as data, the law returns true, and every argument reads afterwards as before. No conditions. -/
import Derived.Test.YtnmihmjgmanllaaNearL
namespace Go.Proofs.Ytnmihmjgmanllaa.fnExactNearestOf
open Go.ChangeShapes Go.WideShapes Go.ChangeAt Go.RowKit Go.WideElems Go.Joins
open Go.ChangeMaps (open_string)
theorem cells25 : Try.prog.cellsOf 25 = 2 := by kernel_rfl
set_option maxRecDepth 100000 in
theorem lifted (os : Os) (started : os.Started) (H : Type) (enc : TypeId × Value → H) :
    ReturnsInHanded {} Try.checked os 9 .any (Rows.fnExactNearestOfSpec.pre6 enc Try.prog Try.f9 Rows.fnExactNearestOfRow.domain false) (Rows.fnExactNearestOfSpec.post enc Try.prog Try.f9 false true false false) := by
  refine returnsInHanded_of_change (C := Try.checked) own started (by kernel_rfl) Try.func9
    (ChangeSpec.witness6 (enc := enc) (C := Try.checked) false ⟨#[], #[.slice none 0 0, .agg #[.int .i64 0, .int .i64 0]], []⟩ 8 (by kernel_rfl) (by kernel_rfl) (by kernel_rfl) (by kernel_rfl)) ?_
  intro W base args ds gs before hval0 hW _ _
  have hval : ∀ (j : Nat) t v, Try.f9.params[j]? = some t → args[j]? = some v → Value.okWide Try.prog W .any base t v := hval0
  have hW' := hW
  obtain ⟨p, q, hA0, hV, rfl, _, _⟩ := hW
  have hA : DataW.TrodAll enc Try.prog W 0 (fun _ => true) true Try.f9.params.toList args.toList ds p := hA0
  rw [Try.params9] at hA hval
  obtain ⟨v0, vs0, d0, ds0, p0, q0, hargs, rfl, rfl, h0, r0⟩ := trodAll_cons hA
  obtain ⟨v1, vs1, d1, ds1, p1, q1, rfl, rfl, rfl, h1, r1⟩ := trodAll_cons r0
  obtain ⟨rfl, rfl, rfl⟩ := trodAll_nil r1
  obtain rfl : args = #[v0, v1] := by cases args; simp_all
  obtain ⟨A0, n0, c0, l0, rfl, hn0, hm0, hf0, hp0⟩ := open_points (hval 0 36 v0 rfl rfl) h0
  obtain ⟨c1, k1, y1, z1, m1, rfl, -, -, hy1, hz1⟩ := open_agg2 Try.underlying25 (by kernel_rfl) cells25 (hval 1 25 v1 rfl rfl) h1
  obtain ⟨a1, e1, -, w1⟩ := DataW.trod_int Try.underlying2 hy1
  obtain ⟨b1, g1, -, x1⟩ := DataW.trod_int Try.underlying2 hz1
  simp at e1 g1
  subst e1 g1
  refine (fnExactNearestOf_walk A0 n0 c0 l0 hn0 hm0 hf0 a1 b1 (bounds_i64 w1).1 (bounds_i64 w1).2 (bounds_i64 x1).1 (bounds_i64 x1).2 W hp0).mono fun e W' ⟨he, hb⟩ => ?_
  subst he
  exact ⟨_, rfl, law_post laidOut (by kernel_rfl) hW' rfl rfl (by kernel_rfl) Try.underlying4 hb⟩

theorem proved : Rows.FnExactNearestOfSaid :=
  OpenClaim.holds_of_wide 9 Try.f9 rfl rfl rfl rfl rfl rfl rfl ⟨rfl, rfl, rfl, rfl, rfl⟩ rfl rfl rfl rfl rfl (by kernel_rfl) Try.func9 (by kernel_rfl)
    (of_decide_eq_true (by kernel_rfl)) (by unfold Func.isWrapper; first | (rw [if_pos (by decide +kernel)]; kernel_rfl) | (rw [if_neg (by decide +kernel)]; exact ⟨rfl, rfl⟩))
    (fun os started H enc _ => lifted os started H enc)
#print axioms proved
end Go.Proofs.Ytnmihmjgmanllaa.fnExactNearestOf
