--%!
/- Contract of the library's slices.Concat at two lists of texts. Own work. -/
import Derived.Test.YtklmoeolehdjeaaPhTen
import Derived.Test.YtklmoeolehdjeaaShelfG
namespace Go.Proofs.Ytklmoeolehdjeaa
open Go.ChangeShapes Go.WideShapes Go.ChangeAt Go.RowKit
set_option linter.unusedVariables false
set_option maxRecDepth 100000
set_option maxHeartbeats 2000000

/-- a list lies in a block from an offset on -/
def TAtO (w : World) (g o : Nat) (l : List UInt8) (f : UInt8 → Value) : Prop := ∀ (k : Nat) (hk : k < l.length), w.cell? ⟨g, o + k, none⟩ = some (f l[k])
theorem TAtO.below {w w' : World} {g o B : Nat} {l : List UInt8} {f : UInt8 → Value} (h : TAtO w g o l f) (hb : Below B w w') (hg : g < B) : TAtO w' g o l f := fun k hk => (hb.cell (p := ⟨g, o + k, none⟩) hg).trans (h k hk)
theorem TAtO.news {w : World} {g o : Nat} {l : List UInt8} {f : UInt8 → Value} (h : TAtO w g o l f) : ∀ j u, (l.map f)[j]? = some u → w.cell? ((⟨g, o, none⟩ : Addr).add j) = some u := by
  intro j u hj
  obtain ⟨hk, e⟩ := List.getElem?_eq_some_iff.1 hj
  rw [List.length_map] at hk
  rw [List.getElem_map] at e
  have : (⟨g, o, none⟩ : Addr).add j = ⟨g, o + j, none⟩ := by
    unfold Addr.add
    split
    · rename_i h; subst h; rfl
    · rfl
  rw [this, h j hk, e]
theorem str_one {l : List UInt8} : ∀ u ∈ l.map strV, u.oneCell' = true := by
  intro u hu
  obtain ⟨b, _, rfl⟩ := List.mem_map.1 hu
  rfl
theorem growN (n : Nat) (h0 : 1 ≤ n) (h1 : n ≤ 1000000) (w : World) :
    Calls Try.prog 79 #[.slice none 0 0, .int .i64 n] w fun e w' => ∃ v, e = .returned v ∧ Owns w' w.heap.size 9 v strV [] ∧ Below w.heap.size w w' := by
  obtain ⟨i0, hi, hz0, hz1, hz2⟩ := info_parts str_info
  refine (Any8.slices_Grow_grow Try.growS i0 _ hi hz0 (by rw [hz1]; decide) none 0 0 n [] w (Nat.le_refl _) (by omega) (by rw [hz2]; omega) (by omega) (by simp) (fun _ => rfl) (fun a h => by cases h)).mono ?_
  rintro e w' ⟨rfl, rfl⟩
  refine ⟨_, rfl, ?_, by go_grown⟩
  have hr : Try.growS_ren.t 25 = 9 := rfl
  rw [hr]
  refine World.ownsRow_made w.drew _ _ (Nat.le_refl _) (grownCap_le_maxLen w (0 + n) 0 _ (by unfold maxLen; omega)) ?_
  have hge := grownCap_ge w (0 + n) 0 9
  rw [Array.size_append, Array.size_append, size_zeroCells, size_zeroCells]
  show 0 + (0 + n - 0) * 1 + (grownCap w (0 + n) 0 9 - (0 + n)) * 1 = _
  omega
theorem concatI (h ga oa ca gb ob cb hc : Nat) (la lb : List UInt8) (w : World) (hh : h < w.heap.size) (hga : ga < w.heap.size) (hgb : gb < w.heap.size) (h1 : 1 ≤ la.length) (h2 : la.length ≤ 100000) (h3 : lb.length ≤ 100000)
    (c0 : w.cell? ⟨h, 0, none⟩ = some (.slice (some ⟨ga, oa, none⟩) la.length ca)) (c1 : w.cell? ⟨h, 1, none⟩ = some (.slice (some ⟨gb, ob, none⟩) lb.length cb)) (ta : TAtO w ga oa la strV) (tb : TAtO w gb ob lb strV) :
    Calls Try.prog 67 #[.slice (some ⟨h, 0, none⟩) 2 hc] w fun e w' => ∃ v, e = .returned v ∧ Owns w' w.heap.size 9 v strV (la ++ lb) ∧ Below w.heap.size w w' := by
  have TA := hide ta
  have TB := hide tb
  obtain ⟨i0, hi, hz0, hz1, hz2⟩ := info_parts str_info
  clear ta tb
  go_enter Try.func67, Try.ntmps67
  go_wp2_with fail
  refine wp_loop_rounds 3 ?_
  rw [rounds_succ]
  go_wp2_with fail
  rw [rounds_succ]
  go_wp2_with fail
  rw [rounds_succ]
  go_wp2_with fail
  have G := growN (la.length + lb.length) (by omega) (by omega) w
  rw [Int.natCast_add] at G
  refine G.mono ?_
  clear G
  rintro e w1 ⟨v1, rfl, ho1, hb1⟩
  have O1 := hide ho1
  have c0' : w1.cell? ⟨h, 0, none⟩ = some (.slice (some ⟨ga, oa, none⟩) la.length ca) := (hb1.cell (p := ⟨h, 0, none⟩) hh).trans c0
  have c1' : w1.cell? ⟨h, 1, none⟩ = some (.slice (some ⟨gb, ob, none⟩) lb.length cb) := (hb1.cell (p := ⟨h, 1, none⟩) hh).trans c1
  have T1 := hide (TA.out.below hb1 hga)
  have hz1' := hb1.size
  clear ho1 c0 c1
  go_wp2_with fail
  refine wp_loop_rounds 3 ?_
  rw [rounds_succ]
  go_wp2_with (at_builtin; refine wpList_append_own _ rfl _ _ 61 rfl w.heap.size 9 i0 (.string ByteArray.empty) 1 16 Try.underlying61 hi hz0 hz1 hz2 rfl (by decide) _ _ _ rfl O1.out ⟨ga, oa, none⟩ la.length ca (la.map strV) rfl (by simp) T1.out.news str_one ?c3 ?c4 ?c5 ?_)
  case c3 => unfold maxLen; simp; omega
  case c4 => simp; omega
  case c5 => exact hz1'
  intro v2 w2 ho2 hg2 _
  have O2 : Hid (Owns w2 w.heap.size 9 v2 strV la) := hide (by unfold Owns; simpa using ho2)
  have hb2 : Below w.heap.size w w2 := hb1.grown hg2 hz1' fun k hk => (World.ownsRow.lt O1.out k hk).1
  have c1'' : w2.cell? ⟨h, 1, none⟩ = some (.slice (some ⟨gb, ob, none⟩) lb.length cb) := by
    have e1 := hb2.cell (p := ⟨h, 1, none⟩) hh
    have e2 := hb1.cell (p := ⟨h, 1, none⟩) hh
    rw [e1, ← e2]
    exact c1'
  have T2 := hide (TB.out.below hb2 hgb)
  have hz2' := hb2.size
  clear ho2 hg2 hb1 c0' c1' O1 T1
  go_wp2_with fail
  rw [rounds_succ]
  go_wp2_with (at_builtin; refine wpList_append_own _ rfl _ _ 61 rfl w.heap.size 9 i0 (.string ByteArray.empty) 1 16 Try.underlying61 hi hz0 hz1 hz2 rfl (by decide) _ _ _ rfl O2.out ⟨gb, ob, none⟩ lb.length cb (lb.map strV) rfl (by simp) T2.out.news str_one ?d3 ?d4 ?d5 ?_)
  case d3 => unfold maxLen; omega
  case d4 => omega
  case d5 => exact hz2'
  intro v3 w3 ho3 hg3 _
  have O3 : Hid (Owns w3 w.heap.size 9 v3 strV (la ++ lb)) := hide (by unfold Owns; simpa using ho3)
  have hb3 : Below w.heap.size w w3 := hb2.grown hg3 hz2' fun k hk => (World.ownsRow.lt O2.out k hk).1
  clear ho3 hg3 hb2 c1'' O2 T2
  go_wp2_with fail
  rw [rounds_succ]
  go_wp2_with fail
  go_ret
  exact ⟨_, rfl, O3.out, hb3⟩
end Go.Proofs.Ytklmoeolehdjeaa
