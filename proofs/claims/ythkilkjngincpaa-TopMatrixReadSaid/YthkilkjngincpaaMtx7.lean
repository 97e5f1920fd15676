/- Matrix codes: bytes and modules of the border that are wrong. -/
import Derived.Test.YthkilkjngincpaaMtx6
import Derived.Test.YthkilkjngincpaaMtx5
import Derived.Test.YthkilkjngincpaaXTopMatrixRead0
import Derived.Test.YthkilkjngincpaaGo
namespace Go.Proofs.Ythkilkjngincpaa
open Go Go.Lite
set_option linter.unusedVariables false
set_option linter.unusedSimpArgs false
set_option maxRecDepth 100000
set_option maxHeartbeats 4000000
-- @simp rdi rdy rdo

/-- The place of a module inside the border. -/
def inK (s k : Nat) : Nat := (1 + k / (s - 2)) * s + (1 + k % (s - 2))
theorem inK_xy {s k : Nat} (hs : 8 ≤ s) (hk : k < (s - 2) * (s - 2)) : inK s k % s = 1 + k % (s - 2) ∧ inK s k / s = 1 + k / (s - 2) ∧ inK s k < s * s ∧ mBord s (1 + k % (s - 2)) (1 + k / (s - 2)) = false := by
  have h2 : k % (s - 2) < s - 2 := Nat.mod_lt _ (by omega)
  have h3 : k / (s - 2) < s - 2 := Nat.div_lt_of_lt_mul hk
  unfold inK
  generalize k % (s - 2) = u at *
  generalize k / (s - 2) = v at *
  refine ⟨?_, ?_, ?_, mBord_iff.2 (by omega)⟩
  · rw [Nat.mul_comm, Nat.mul_add_mod]; exact Nat.mod_eq_of_lt (by omega)
  · rw [Nat.mul_comm, Nat.mul_add_div (by omega), Nat.div_eq_of_lt (by omega), Nat.add_zero]
  · have : (1 + v + 1) * s ≤ s * s := Nat.mul_le_mul_right _ (by omega)
    rw [Nat.add_mul, Nat.one_mul] at this
    omega
theorem inK_inj {s j k : Nat} (hs : 8 ≤ s) (hj : j < (s - 2) * (s - 2)) (hk : k < (s - 2) * (s - 2)) (h : inK s j = inK s k) : j = k := by
  obtain ⟨a1, a2, _, _⟩ := inK_xy hs hj
  obtain ⟨b1, b2, _, _⟩ := inK_xy hs hk
  rw [h] at a1 a2
  have e1 : j % (s - 2) = k % (s - 2) := by omega
  have e2 : j / (s - 2) = k / (s - 2) := by omega
  rw [← Nat.div_add_mod j (s - 2), ← Nat.div_add_mod k (s - 2), e1, e2]
end Go.Proofs.Ythkilkjngincpaa
