/- Bar codes: texts as lists of numbers (plain). -/
import Derived.Test.YtbfflfinhigfeaaLists
namespace Go.Proofs.Ytbfflfinhigfeaa
open Go Go.Lite
set_option linter.unusedVariables false
set_option linter.unusedSimpArgs false
set_option maxRecDepth 100000
set_option maxHeartbeats 4000000

theorem str_ext {a b : ByteArray} (h : a.data.toList = b.data.toList) : a = b := by
  obtain ⟨⟨a⟩⟩ := a
  obtain ⟨⟨b⟩⟩ := b
  simp only at h
  subst h; rfl
theorem str_size (l : List Int) : (strOfNums l).size = l.length := by
  have h := congrArg List.length (strOfNums_data l)
  simpa using h
theorem str_at {l : List Int} {i : Nat} (hi : i < l.length) (hb : 0 ≤ l.getD i 0 ∧ l.getD i 0 ≤ 255) : ((sat (strOfNums l) i : Nat) : Int) = l.getD i 0 := by
  unfold sat
  rw [strOfNums_data]
  rw [List.getD_eq_getElem?_getD, List.getElem?_map, List.getElem?_eq_getElem hi]
  rw [getD_get 0 hi] at hb ⊢
  simp only [Option.map_some, Option.getD_some, UInt8.toNat_ofNat']
  omega
theorem str_app (a b : List Int) : strOfNums a ++ strOfNums b = strOfNums (a ++ b) := by
  refine str_ext ?_
  rw [strOfNums_data, ByteArray.data_append, Array.toList_append, strOfNums_data, strOfNums_data, List.map_append]
theorem str_cut (l : List Int) (a b : Nat) : (strOfNums l).extract a b = strOfNums ((l.take b).drop a) := by
  refine str_ext ?_
  rw [strOfNums_data, ByteArray.data_extract, Array.toList_extract, strOfNums_data, List.map_drop, List.map_take]
  simp only [List.extract, List.take_drop]
  rcases Nat.le_total a b with h | h
  · rw [show a + (b - a) = b by omega]
  · rw [List.drop_eq_nil_of_le (by rw [List.length_take]; omega), List.drop_eq_nil_of_le (by rw [List.length_take]; omega)]
end Go.Proofs.Ytbfflfinhigfeaa
