--%!
/- Plain laws on the table of sines. No program in sight. -/
import Derived.Test.YtnmihmjgmanllaaMath
namespace Go.Proofs.Ytnmihmjgmanllaa
open Go.RowKit
set_option linter.unusedVariables false

def sinTab : List Int := [
  0, 17452, 34899, 52336, 69756, 87156, 104528, 121869, 139173, 156434,
  173648, 190809, 207912, 224951, 241922, 258819, 275637, 292372, 309017, 325568,
  342020, 358368, 374607, 390731, 406737, 422618, 438371, 453990, 469472, 484810,
  500000, 515038, 529919, 544639, 559193, 573576, 587785, 601815, 615661, 629320,
  642788, 656059, 669131, 681998, 694658, 707107, 719340, 731354, 743145, 754710,
  766044, 777146, 788011, 798636, 809017, 819152, 829038, 838671, 848048, 857167,
  866025, 874620, 882948, 891007, 898794, 906308, 913545, 920505, 927184, 933580,
  939693, 945519, 951057, 956305, 961262, 965926, 970296, 974370, 978148, 981627,
  984808, 987688, 990268, 992546, 994522, 996195, 997564, 998630, 999391, 999848,
  1000000]
def sinQ (d : Int) : Int := sinTab.getD d.toNat 0
theorem sinQ_nat (k : Nat) : sinQ (k : Int) = sinTab.getD k 0 := rfl
def sine (d : Int) : Int := if 180 ≤ d % 360 then -(if 90 < d % 360 - 180 then sinQ (180 - (d % 360 - 180)) else sinQ (d % 360 - 180)) else if 90 < d % 360 then sinQ (180 - d % 360) else sinQ (d % 360)
def cosine (d : Int) : Int := sine (d % 360 + 90)
theorem sinTab_all : ∀ x ∈ sinTab, 0 ≤ x ∧ x ≤ 1000000 := by
  have h : sinTab.all (fun x => decide (0 ≤ x ∧ x ≤ 1000000)) = true := by decide +kernel
  intro x hx
  exact of_decide_eq_true (List.all_eq_true.1 h x hx)
theorem sinQ_bd (d : Int) : 0 ≤ sinQ d ∧ sinQ d ≤ 1000000 := by
  unfold sinQ
  rw [List.getD_eq_getElem?_getD]
  cases h : sinTab[d.toNat]? with
  | none => simp
  | some x => exact sinTab_all x (List.mem_of_getElem? h)
theorem sine_bd (d : Int) : -1000000 ≤ sine d ∧ sine d ≤ 1000000 := by
  unfold sine
  have h1 := sinQ_bd (180 - (d % 360 - 180))
  have h2 := sinQ_bd (d % 360 - 180)
  have h3 := sinQ_bd (180 - d % 360)
  have h4 := sinQ_bd (d % 360)
  split <;> split <;> omega
theorem cosine_bd (d : Int) : -1000000 ≤ cosine d ∧ cosine d ≤ 1000000 := sine_bd _
theorem sine_1 {d a : Int} (h : d % 360 = a) (h2 : a ≤ 90) : sine d = sinQ a := by
  unfold sine; rw [h, if_neg (by omega), if_neg (by omega)]
theorem sine_2 {d a : Int} (h : d % 360 = a) (h1 : 90 < a) (h2 : a < 180) : sine d = sinQ (180 - a) := by
  unfold sine; rw [h, if_neg (by omega), if_pos (by omega)]
theorem sine_3 {d a : Int} (h : d % 360 = a) (h1 : 180 ≤ a) (h2 : a ≤ 270) : sine d = -sinQ (a - 180) := by
  unfold sine; rw [h, if_pos (by omega), if_neg (by omega)]
theorem sine_4 {d a : Int} (h : d % 360 = a) (h1 : 270 < a) : sine d = -sinQ (180 - (a - 180)) := by
  unfold sine; rw [h, if_pos (by omega), if_pos (by omega)]
theorem sine_low {a : Int} (h0 : 0 ≤ a) (h1 : a < 180) : sine a = if 90 < a then sinQ (180 - a) else sinQ a := by
  have e : a % 360 = a := Int.emod_eq_of_lt h0 (by omega)
  split
  · exact sine_2 e (by assumption) h1
  · exact sine_1 e (by omega)
theorem sine_high {d a : Int} (h : d % 360 = a) (h1 : 180 ≤ a) (h2 : a < 360) : sine d = -sine (a - 180) := by
  rw [sine_low (a := a - 180) (by omega) (by omega)]
  split
  · exact sine_4 h (by omega)
  · exact sine_3 h h1 (by omega)
theorem sine_mod (d : Int) : sine (d % 360) = sine d := by unfold sine; rw [Int.emod_emod]
end Go.Proofs.Ytnmihmjgmanllaa
