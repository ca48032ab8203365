--%!
/- Contracts: a decimal number read out of a text, reference and program alike. Own work. -/
import Derived.Test.YtphlbpailmdndaaDoorDecLaw
import Derived.Test.YtphlbpailmdndaaDoorNumMath
import Derived.Test.YtphlbpailmdndaaDoorCardErr
namespace Go.Proofs.YtphlbpailmdndaaDoor
open Go.ChangeShapes Go.WideShapes Go.ChangeAt Go.RowKit
set_option linter.unusedVariables false
set_option maxRecDepth 100000
set_option maxHeartbeats 2000000

theorem ret_two {a b c d : Value} (h : a = c) (k : b = d) : Ending.returned (.tuple #[a, b]) = .returned (.tuple #[c, d]) := by rw [h, k]
theorem int_eq {k : IntKind} {a b : Int} (h : a = b) : Value.int k a = .int k b := by rw [h]
theorem bool_eq {a b : Bool} (h : a = b) : Value.bool a = .bool b := by rw [h]
theorem size_list (l : List UInt8) : (⟨l.toArray⟩ : ByteArray).size = l.length := by show l.toArray.size = _; simp
theorem toList_ne' {s t : ByteArray} (h : s ≠ t) : (!s.toList == t.toList) = true := by
  have : s.toList ≠ t.toList := fun e => h (by
    rw [Lib.toList_data, Lib.toList_data] at e
    cases s; cases t
    simp only at e
    congr 1
    exact Array.toList_inj.1 e)
  simpa using this
theorem toList_eq' {s t : ByteArray} (h : s = t) : (!s.toList == t.toList) = false := by subst h; simp
theorem list_of (s : ByteArray) : s = ⟨s.data.toList.toArray⟩ := by cases s; simp
theorem below_parse {w w' : World} (h : w' = w ∨ ∃ t, w' = Lib.bytesWorld w 5 t) : Below w.heap.size w w' := by
  rcases h with rfl | ⟨t, rfl⟩
  · exact Below.refl _ _
  · exact Go.Joins.below_bytesWorld _ w _ t (Nat.le_refl _)
theorem parse_range {l : List UInt8} (hb : (bodyOf l).length ≤ 18) {v : Int} (h : Lib.parseIntB 64 l = .ok v) : -9223372036854775808 ≤ v ∧ v ≤ 9223372036854775807 := by
  cases l with
  | nil => cases h
  | cons c r =>
    simp only [Lib.parseIntB] at h
    split at h
    · cases h
    · cases h
    · split at h
      · cases h
      · split at h
        · cases h
        · rename_i h1 h2
          injection h with h
          subst h
          split
          · rename_i h3; simp [h3] at h2; omega
          · rename_i h3; simp [h3] at h1; omega
theorem parse_bad (s : ByteArray) (hlim : s.size ≤ 281474976710656) (w : World) (h : ∀ v, Lib.parseIntB 64 s.data.toList ≠ .ok v) (he : Errs w) :
    Calls Tryd.prog 59 #[.string s, .int .i64 10, .int .i64 64] w fun e w' => ∃ n N, e = .returned (.tuple #[.int .i64 n, .iface 101 (.pointer (some ⟨N, 0, none⟩))]) ∧ Below w.heap.size w w' := by
  obtain ⟨⟨e1, c1, k1⟩, ⟨e2, c2, k2⟩⟩ := he
  rcases hpr : Lib.parseIntB 64 s.data.toList with v | _ | _
  · exact absurd hpr (h v)
  · exact (Any.strconv_ParseInt_10_at64_syntax Tryd.laysC174 s hlim hpr e1 w c1 k1).mono fun e w' ⟨N, he, _, _, hb⟩ => ⟨_, N, he, hb⟩
  · exact (Any.strconv_ParseInt_10_at64_range Tryd.laysC174 s hlim hpr e2 w c2 k2).mono fun e w' ⟨N, he, _, _, hb⟩ => ⟨_, N, he, hb⟩
theorem readI (s : ByteArray) (hs : s.size ≤ 2097152) (w : World) (hp : Pow w) (he : Errs w) :
    Calls Tryd.prog 18 #[.string s] w fun e w' => e = .returned (.tuple #[.int .i64 (numV s.data.toList), .bool (numB s.data.toList)]) ∧ Below w.heap.size w w' := by
  have HP := hide hp
  have HE := hide he
  clear hp he
  obtain ⟨t, ht⟩ : ∃ t : ByteArray, t = ⟨(Lib.trimPrefix s.data.toList [45]).toArray⟩ := ⟨_, rfl⟩
  have hts : t.size = (bodyOf s.data.toList).length := by rw [ht, size_list, trim_body]
  have HT := hide ht
  clear ht
  by_cases hlong : 18 < t.size
  · have hno := numB_long (by rw [← hts]; exact hlong)
    have H1 := hide hno
    have H2 := hide (numV_f hno)
    clear hts hno
    go_enter Tryd.func18, Tryd.ntmps18
    go_wp2_with fail
    refine (Tryd.strings_TrimPrefix s ⟨#[45]⟩ w).mono ?_
    rintro e w1 ⟨rfl, hw⟩
    subst hw
    rw [← HT.out]
    go_wp2_with fail
    go_returns
    exact ⟨ret_two (int_eq H2.out.symm) (bool_eq H1.out.symm), Below.refl _ _⟩
  · have hb18 : (bodyOf s.data.toList).length ≤ 18 := by omega
    clear hts
    by_cases hex : ∃ v, Lib.parseIntB 64 s.data.toList = .ok v
    · obtain ⟨v, hpr⟩ := hex
      obtain ⟨k1, k2⟩ := read_ok hb18 hpr
      have hvr := parse_range hb18 hpr
      have HPr := hide hpr
      by_cases hi : Lib.itoa v = s.data.toList
      · obtain ⟨h1, h2⟩ := k1 hi
        have H1 := hide h1
        have H2 := hide h2
        have Q : (!Lib.itoa v == s.toList) = false := by rw [Lib.toList_data, hi]; simp
        clear h1 h2 k1 k2 hi hpr hb18
        go_enter Tryd.func18, Tryd.ntmps18
        go_wp2_with fail
        refine (Tryd.strings_TrimPrefix s ⟨#[45]⟩ w).mono ?_
        rintro e w1 ⟨rfl, hw⟩
        subst hw
        rw [← HT.out]
        go_wp2_with fail
        refine (Tryd.strconv_ParseInt_10_at64_ok s (by omega) v HPr.out _).mono ?_
        rintro e w2 ⟨rfl, hw2⟩
        have hb2 := below_parse hw2
        have HP2 := hide (HP.out.below hb2)
        clear hw2
        go_wp2_with fail
        refine (decI v hvr.1 hvr.2 w2 HP2.out).mono ?_
        rintro e w3 ⟨rfl, hb3⟩
        have hB3 := below_next hb3 hb2
        clear hb2 hb3
        go_wp2_with fail
        go_returns
        exact ⟨ret_two (int_eq H2.out.symm) (bool_eq H1.out.symm), hB3⟩
      · have h1 := k2 hi
        have H1 := hide h1
        have H2 := hide (numV_f h1)
        have Q : (!Lib.itoa v == s.toList) = true := by rw [Lib.toList_data]; simpa using hi
        clear h1 k1 k2 hi hpr hb18
        go_enter Tryd.func18, Tryd.ntmps18
        go_wp2_with fail
        refine (Tryd.strings_TrimPrefix s ⟨#[45]⟩ w).mono ?_
        rintro e w1 ⟨rfl, hw⟩
        subst hw
        rw [← HT.out]
        go_wp2_with fail
        refine (Tryd.strconv_ParseInt_10_at64_ok s (by omega) v HPr.out _).mono ?_
        rintro e w2 ⟨rfl, hw2⟩
        have hb2 := below_parse hw2
        have HP2 := hide (HP.out.below hb2)
        clear hw2
        go_wp2_with fail
        refine (decI v hvr.1 hvr.2 w2 HP2.out).mono ?_
        rintro e w3 ⟨rfl, hb3⟩
        have hB3 := below_next hb3 hb2
        clear hb2 hb3
        go_wp2_with fail
        go_returns
        exact ⟨ret_two (int_eq H2.out.symm) (bool_eq H1.out.symm), hB3⟩
    · have hno' : ∀ v, Lib.parseIntB 64 s.data.toList ≠ .ok v := fun v e => hex ⟨v, e⟩
      have hno := read_no hb18 hno'
      have H1 := hide hno
      have H2 := hide (numV_f hno)
      have HPr := hide hno'
      clear hno hno' hex hb18
      go_enter Tryd.func18, Tryd.ntmps18
      go_wp2_with fail
      refine (Tryd.strings_TrimPrefix s ⟨#[45]⟩ w).mono ?_
      rintro e w1 ⟨rfl, hw⟩
      subst hw
      rw [← HT.out]
      go_wp2_with fail
      refine (parse_bad s (by omega) _ HPr.out HE.out).mono ?_
      rintro e w2 ⟨n, N, rfl, hb2⟩
      go_wp2_with fail
      go_returns
      exact ⟨ret_two (int_eq H2.out.symm) (bool_eq H1.out.symm), hb2⟩
end Go.Proofs.YtphlbpailmdndaaDoor
