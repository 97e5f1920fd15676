/- The reference compares bytes and bitmaps. -/
import Derived.Test.YthkilkjngincpaaBits1
import Derived.Test.YthkilkjngincpaaXMatrixReturns0
import Derived.Test.YthkilkjngincpaaGo
namespace Go.Proofs.Ythkilkjngincpaa
open Go Go.Lite
set_option linter.unusedVariables false
set_option linter.unusedSimpArgs false
set_option maxRecDepth 100000
set_option maxHeartbeats 4000000
-- @simp rdi rdy

theorem str_inj {a b : List Int} (ha : ∀ i, i < a.length → 0 ≤ a.getD i 0 ∧ a.getD i 0 ≤ 255) (hb : ∀ i, i < b.length → 0 ≤ b.getD i 0 ∧ b.getD i 0 ≤ 255) (h : strOfNums a = strOfNums b) : a = b := by
  have h1 : a.map (fun n => UInt8.ofNat n.toNat) = b.map fun n => UInt8.ofNat n.toNat := by
    have := congrArg (fun s : ByteArray => s.data.toList) h
    simpa only [strOfNums_data] using this
  have hl : a.length = b.length := by simpa using congrArg List.length h1
  refine ext_getD 0 hl fun i hi => ?_
  have h2 := congrArg (·[i]?) h1
  simp only [List.getElem?_map, List.getElem?_eq_getElem hi, List.getElem?_eq_getElem (show i < b.length by omega), Option.map_some, Option.some.injEq] at h2
  have a1 := ha i hi
  have b1 := hb i (by omega)
  rw [getD_get 0 hi] at a1 ⊢
  rw [getD_get 0 (show i < b.length by omega)] at b1 ⊢
  have h3 := congrArg UInt8.toNat h2
  rw [UInt8.toNat_ofNat', UInt8.toNat_ofNat', Nat.mod_eq_of_lt (by omega), Nat.mod_eq_of_lt (by omega)] at h3
  omega
theorem sameBytes_c (a b : List Int) (ha : Due (∀ i, i < a.length → 0 ≤ a.getD i 0 ∧ a.getD i 0 ≤ 255)) (hb : Due (∀ i, i < b.length → 0 ≤ b.getD i 0 ∧ b.getD i 0 ≤ 255)) : TC R Try.prog R2_SameBytes_f [.lst Ey a, .lst Ey b] [] (fun v X => v = .bool (decide (a = b)) ∧ X = []) := by
  refine tc0 env R2_SameBytes_s (by rfl) ?_
  dsimp only [R2_SameBytes_c]
  repeat' (first
    | refine GZp_i_y ?_ ?_ ?_ ?_ ?_ ?_ ?_ ?_
    | with_reducible first | exact BzZq.mk | refine Tw.ret ?_ | refine ImZq.i fun h => ?_ | refine IkZq.i fun hk => ?_)
  refine ⟨rfl, congrArg TV.bool ?_, rfl⟩
  rw [str_eq]
  exact decide_eq_decide.2 ⟨fun h => str_inj ha hb h, fun h => by rw [h]⟩
end Go.Proofs.Ythkilkjngincpaa
