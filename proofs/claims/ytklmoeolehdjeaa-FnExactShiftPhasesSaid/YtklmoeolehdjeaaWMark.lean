--%!
/- Contract: the text of a mark of the laws. Own work. -/
import Derived.Test.YtklmoeolehdjeaaDecMath
import Derived.Test.YtklmoeolehdjeaaOwn
import Derived.Test.YtklmoeolehdjeaaNums
import Derived.Deep.RegionHeld3
import Derived.StillTailTactics
namespace Go.Proofs.Ytklmoeolehdjeaa
open Go.ChangeShapes Go.WideShapes Go.ChangeAt Go.RowKit
set_option linter.unusedVariables false
set_option maxRecDepth 100000
set_option maxHeartbeats 1000000

theorem size_lstM (l : List UInt8) : (⟨l.toArray⟩ : ByteArray).size = l.length := by show l.toArray.size = _; simp
theorem app_listM (a b : List UInt8) : (⟨a.toArray⟩ : ByteArray) ++ ⟨b.toArray⟩ = ⟨(a ++ b).toArray⟩ := by
  have : ((⟨a.toArray⟩ : ByteArray) ++ ⟨b.toArray⟩).data = (a ++ b).toArray := by rw [ByteArray.data_append]; simp
  cases h : (⟨a.toArray⟩ : ByteArray) ++ ⟨b.toArray⟩ with
  | mk d => rw [h] at this; simp only at this; rw [this]
theorem keep_cellM {W w1 : World} {g o : Nat} {v : Value} (h : W.cell? ⟨g, o, none⟩ = some v) (hb : Below W.heap.size W w1) : w1.cell? ⟨g, o, none⟩ = some v := (hb.cell (p := ⟨g, o, none⟩) (World.block_lt_of_cell? W _ h)).trans h
theorem held1 {w W w1 : World} {g o : Nat} {v : Value} (h : Below w.heap.size w W ∧ W.cell? ⟨g, o, none⟩ = some v) (hb : Below W.heap.size W w1) : Below w.heap.size w w1 ∧ w1.cell? ⟨g, o, none⟩ = some v := ⟨below_next hb h.1, keep_cellM h.2 hb⟩
theorem held1D {w W : World} {g o : Nat} {v : Value} (h : Below w.heap.size w W ∧ W.cell? ⟨g, o, none⟩ = some v) : Below w.heap.size w W.drew ∧ W.drew.cell? ⟨g, o, none⟩ = some v := ⟨h.1.drew, h.2⟩
theorem ret_strM {a b : ByteArray} (h : a = b) : Ending.returned (.string a) = .returned (.string b) := by rw [h]
/-- the text of a mark -/
def mkT (k : Nat) : ByteArray := ⟨(109 :: (rd k).reverse).toArray⟩
theorem mkT_size (k : Nat) (h : k ≤ 9999999) : (mkT k).size ≤ 8 := by
  unfold mkT
  rw [size_lstM, List.length_cons, List.length_reverse]
  have := rd_len_pow 7 k (by omega)
  omega
theorem markTextS (k : Nat) (h1 : 1 ≤ k) (h2 : k ≤ 9999999) (w : World) :
    Calls Try.prog 72 #[.int .i64 k] w fun e w' => e = .returned (.string (mkT k)) ∧ Below w.heap.size w w' := by
  have hcv := fun (W : World) (b : UInt8) => run_convert_bytes_back (P := Try.prog) (W.alloc (.cells #[.int .u8 (b.toNat : Int)] 5)) 59 9 5 ⟨W.heap.size, 0, none⟩ 1 [b] Try.underlying59 Try.underlying5 Try.underlying9 (fun j hj => by
    have h0 : j = 0 := by simpa using hj
    subst h0
    exact new_cell (w := W) (t := 5) (u := .int .u8 (b.toNat : Int)) 0 _ rfl)
  have HCV := hide hcv
  have hk7 := rd_len_pow 7 k (by omega)
  have HK := hide hk7
  clear hcv hk7
  go_enter Try.func72, Try.ntmps72
  go_wp2_with fail
  go_loopw [0, 3] (fun x o wr => ∃ (u : Nat) (out : List UInt8), u ≤ k ∧ Hid ((rd u).reverse ++ out = (rd k).reverse) ∧ Below w.heap.size w wr ∧ x = .int .i64 u ∧ o = .string ⟨out.toArray⟩) (fun x _ _ => (intOf x).toNat)
  case atStart => exact ⟨k, [], Nat.le_refl _, hide (by simp), by go_grown, rfl, rfl⟩
  case round =>
    obtain ⟨u, out, hu, hout, hbw, rfl, rfl⟩ := hrel
    have hol : out.length ≤ 7 := by
      have e := congrArg List.length hout.out
      have := HK.out
      rw [List.length_append, List.length_reverse, List.length_reverse] at e
      omega
    have hos : (⟨out.toArray⟩ : ByteArray).size ≤ 7 := by rw [size_lstM]; exact hol
    by_cases h0 : u = 0
    · have H : Hid (⟨#[109]⟩ ++ (⟨out.toArray⟩ : ByteArray) = mkT k) := hide (by
        have e := hout.out
        rw [h0, rd_zero] at e
        unfold mkT
        rw [← e, show (⟨#[109]⟩ : ByteArray) = ⟨[(109 : UInt8)].toArray⟩ from rfl, app_listM]
        rfl)
      obtain ⟨o, ho⟩ : ∃ o : ByteArray, (⟨out.toArray⟩ : ByteArray) = o := ⟨_, rfl⟩
      rw [ho] at H hos ⊢
      have hu0 : (u : Int) = 0 := by omega
      clear ho h0 hout hol
      go_wp2
      go_ret
      exact ⟨ret_strM H.out, hbw⟩
    · have g1 : decide ((0 : Int) < (u : Int)) = true := by simp; omega
      obtain ⟨b, hb⟩ : ∃ b, UInt8.ofNat (48 + u % 10) = b := ⟨_, rfl⟩
      have hb2 : (b.toNat : Int) = 48 + (u : Int) % 10 := by rw [← hb, UInt8.toNat_ofNat']; omega
      have HN : Hid ((rd (u / 10)).reverse ++ (b :: out) = (rd k).reverse) := hide (by
        have e := hout.out
        rw [rd_step h0, hb, List.reverse_cons, List.append_assoc] at e
        exact e)
      have HA : Hid (⟨[b].toArray⟩ ++ (⟨out.toArray⟩ : ByteArray) = ⟨(b :: out).toArray⟩) := hide (app_listM [b] out)
      have C := HCV.out wr b
      rw [hb2, show [b].length = 1 from rfl] at C
      have hw0 : IntKind.u8.wrap (48 + (u : Int) % 10) = 48 + (u : Int) % 10 := IntWalk.u8_in _ (by omega)
      obtain ⟨o, ho⟩ : ∃ o : ByteArray, (⟨out.toArray⟩ : ByteArray) = o := ⟨_, rfl⟩
      rw [ho] at HA hos ⊢
      obtain ⟨q, hq⟩ : ∃ q : ByteArray, (⟨[b].toArray⟩ : ByteArray) = q := ⟨_, rfl⟩
      have hqs : q.size ≤ 1 := by rw [← hq, size_lstM]; simp
      rw [hq] at HA C
      clear hb hb2 ho hq hout
      go_wp2
      go_roundw
      case rel => exact ⟨u / 10, b :: out, by omega, HN, (hbw.alloc hbw.size _), by go_num, by rw [HA.out]⟩
      case measure => simp [intOf]; omega
end Go.Proofs.Ytklmoeolehdjeaa
