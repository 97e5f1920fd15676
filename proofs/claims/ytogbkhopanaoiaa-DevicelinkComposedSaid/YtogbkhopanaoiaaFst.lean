/- The first number that is not zero. -/
import Derived.Test.YtogbkhopanaoiaaLists
namespace Go.Proofs.Ytogbkhopanaoiaa
open Go Go.Lite
set_option linter.unusedVariables false
set_option linter.unusedSimpArgs false
set_option maxRecDepth 100000
set_option maxHeartbeats 4000000

def fstE (f : Nat → Int) : Nat → Int
  | 0 => 0
  | n + 1 => if fstE f n ≠ 0 then fstE f n else f n
theorem fstE_zero {f : Nat → Int} : ∀ {n : Nat}, fstE f n = 0 ↔ ∀ j, j < n → f j = 0
  | 0 => ⟨fun _ j hj => by omega, fun _ => rfl⟩
  | n + 1 => by
    simp only [fstE]
    by_cases h : fstE f n = 0
    · rw [if_neg (by simpa using h)]
      constructor
      · intro h2 j hj
        rcases Nat.lt_or_ge j n with h3 | h3
        · exact fstE_zero.1 h j h3
        · obtain rfl : j = n := by omega
          exact h2
      · intro h2; exact h2 n (by omega)
    · rw [if_pos h]
      constructor
      · intro h2; exact absurd h2 h
      · intro h2; exact fstE_zero.2 fun j hj => h2 j (by omega)
theorem fstE_at {f : Nat → Int} {i : Nat} (h0 : ∀ j, j < i → f j = 0) (h1 : f i ≠ 0) : ∀ {n : Nat}, i < n → fstE f n = f i
  | 0, h => by omega
  | n + 1, h => by
    simp only [fstE]
    rcases Nat.lt_or_ge i n with h3 | h3
    · rw [fstE_at h0 h1 h3, if_pos h1]
    · obtain rfl : i = n := by omega
      rw [if_neg (by simpa using fstE_zero.2 h0)]
end Go.Proofs.Ytogbkhopanaoiaa
