/- The reference compares bytes and bitmaps. -/
import Derived.Test.YtcehapmkhlmgdaaBm
import Derived.Test.YtcehapmkhlmgdaaXHalftoneTone0
import Derived.Test.YtcehapmkhlmgdaaGo
namespace Go.Proofs.Ytcehapmkhlmgdaa
open Go Go.Lite
set_option linter.unusedVariables false
set_option linter.unusedSimpArgs false
set_option maxRecDepth 100000
set_option maxHeartbeats 4000000
-- @simp rdi rdy

theorem str_inj {a b : List Int} (ha : ∀ i, i < a.length → 0 ≤ a.getD i 0 ∧ a.getD i 0 ≤ 255) (hb : ∀ i, i < b.length → 0 ≤ b.getD i 0 ∧ b.getD i 0 ≤ 255) (h : strOfNums a = strOfNums b) : a = b := by
  have h1 : a.map (fun n => UInt8.ofNat n.toNat) = b.map fun n => UInt8.ofNat n.toNat := by
    have := congrArg (fun s : ByteArray => s.data.toList) h
    simpa only [strOfNums_data] using this
  have hl : a.length = b.length := by simpa using congrArg List.length h1
  refine ext_getD 0 hl fun i hi => ?_
  have h2 := congrArg (·[i]?) h1
  simp only [List.getElem?_map, List.getElem?_eq_getElem hi, List.getElem?_eq_getElem (show i < b.length by omega), Option.map_some, Option.some.injEq] at h2
  have a1 := ha i hi
  have b1 := hb i (by omega)
  rw [getD_get 0 hi] at a1 ⊢
  rw [getD_get 0 (show i < b.length by omega)] at b1 ⊢
  have h3 := congrArg UInt8.toNat h2
  rw [UInt8.toNat_ofNat', UInt8.toNat_ofNat', Nat.mod_eq_of_lt (by omega), Nat.mod_eq_of_lt (by omega)] at h3
  omega
theorem sameBytes_c (a b : List Int) (ha : Due (∀ i, i < a.length → 0 ≤ a.getD i 0 ∧ a.getD i 0 ≤ 255)) (hb : Due (∀ i, i < b.length → 0 ≤ b.getD i 0 ∧ b.getD i 0 ≤ 255)) : TC R Try.prog R2_SameBytes_f [.lst Ey a, .lst Ey b] [] (fun v X => v = .bool (decide (a = b)) ∧ X = []) := by
  refine tc0 env R2_SameBytes_s (by rfl) ?_
  dsimp only [R2_SameBytes_c]
  repeat' (first
    | refine GZp_i_y ?_ ?_ ?_ ?_ ?_ ?_ ?_ ?_
    | with_reducible first | exact BzZq.mk | refine Tw.ret ?_ | refine ImZq.i fun h => ?_ | refine IkZq.i fun hk => ?_)
  refine ⟨rfl, congrArg TV.bool ?_, rfl⟩
  rw [str_eq]
  exact decide_eq_decide.2 ⟨fun h => str_inj ha hb h, fun h => by rw [h]⟩
theorem sameBits_c (w k w' k' : Int) (a b : List Int) (ha : Due (∀ i, i < a.length → 0 ≤ a.getD i 0 ∧ a.getD i 0 ≤ 255)) (hb : Due (∀ i, i < b.length → 0 ≤ b.getD i 0 ∧ b.getD i 0 ≤ 255)) :
    TC R Try.prog R2_SameBits_f [.agg [.int .i64 w, .int .i64 k, .lst Ey a], .agg [.int .i64 w', .int .i64 k', .lst Ey b]] [] (fun v X => v = .bool (decide (w = w' ∧ k = k' ∧ a = b)) ∧ X = []) := by
  refine tc0 env R2_SameBits_s (by rfl) ?_
  dsimp only [R2_SameBits_c]
  have sc := sameBytes_c a b ha hb
  repeat' (first
    | ((with_reducible refine TOps.any ?_); refine TOps.callV env (by rfl) (by rfl) (by rfl) (sc) ?_)
    | refine GZp_i_y ?_ ?_ ?_ ?_ ?_ ?_ ?_ ?_
    | with_reducible first | exact BzZq.mk | refine Tw.ret ?_ | refine ImZq.i fun h => ?_ | refine IkZq.i fun hk => ?_)
  · refine ⟨rfl, congrArg TV.bool ?_, rfl⟩
    simp [h.1, h.2]
  · refine ⟨rfl, congrArg TV.bool ?_, rfl⟩
    refine (decide_eq_false fun hh => ?_).symm
    rcases h with h | h
    · exact h hh.1
    · exact h hh.2.1
end Go.Proofs.Ytcehapmkhlmgdaa
