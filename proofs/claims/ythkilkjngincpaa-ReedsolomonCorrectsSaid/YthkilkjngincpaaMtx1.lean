/- Matrix codes: sizes, the border. -/
import Derived.Test.YthkilkjngincpaaRs1
import Derived.Test.YthkilkjngincpaaXReedsolomonCorrects0
import Derived.Test.YthkilkjngincpaaGo
namespace Go.Proofs.Ythkilkjngincpaa
open Go Go.Lite
set_option linter.unusedVariables false
set_option linter.unusedSimpArgs false
set_option maxRecDepth 100000
set_option maxHeartbeats 4000000
-- @simp rdi rdy

def mAll (s : Nat) : Nat := (s - 2) * (s - 2) / 8
def mPar (s : Nat) : Nat := max 2 (mAll s / 6 * 2)
structure Side (s : Nat) : Prop where
  bd : 8 ≤ s ∧ s ≤ 32
  ev : s % 2 = 0
theorem Side.facts {s : Nat} (h : Side s) : 4 ≤ mAll s ∧ mAll s ≤ 112 ∧ 2 ≤ mPar s ∧ mPar s ≤ 36 ∧ mPar s + 2 ≤ mAll s := by
  have hb := h.bd
  have he := h.ev
  obtain ⟨m, hm, rfl⟩ : ∃ m, m ≤ 12 ∧ s = 8 + 2 * m := ⟨(s - 8) / 2, by omega, by omega⟩
  have key : ∀ m : Fin 13, 4 ≤ mAll (8 + 2 * m.1) ∧ mAll (8 + 2 * m.1) ≤ 112 ∧ 2 ≤ mPar (8 + 2 * m.1) ∧ mPar (8 + 2 * m.1) ≤ 36 ∧ mPar (8 + 2 * m.1) + 2 ≤ mAll (8 + 2 * m.1) := by decide
  exact key ⟨m, by omega⟩
end Go.Proofs.Ythkilkjngincpaa
