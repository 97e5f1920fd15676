/- Matrix codes: what the modules inside the border are. -/
import Derived.Test.YthkilkjngincpaaMtx4
namespace Go.Proofs.Ythkilkjngincpaa
open Go Go.Lite
set_option linter.unusedVariables false
set_option linter.unusedSimpArgs false
set_option maxRecDepth 100000
set_option maxHeartbeats 4000000

theorem bits_list {l : List Int} {n : Nat} (h : n ≤ l.length) (hb : ∀ i, i < n → 0 ≤ l.getD i 0 ∧ l.getD i 0 ≤ 255) : l.take n = btab n fun k => BitVec.ofInt 8 (l.getD k 0) := by
  refine is_tab 0 (by rw [List.length_take]; omega) fun i hi => ?_
  rw [by8_ofInt (hb i hi)]
  simp [List.getD_eq_getElem?_getD, List.getElem?_take, hi]
end Go.Proofs.Ythkilkjngincpaa
