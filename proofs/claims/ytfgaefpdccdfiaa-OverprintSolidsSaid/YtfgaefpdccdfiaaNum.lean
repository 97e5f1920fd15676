/- Numbers: the greatest number with a property, squares, bits. -/
import Derived.Test.YtfgaefpdccdfiaaLiteTN
namespace Go.Proofs.Ytfgaefpdccdfiaa
open Go Go.Lite
set_option linter.unusedVariables false
set_option linter.unusedSimpArgs false
set_option maxRecDepth 100000
set_option maxHeartbeats 4000000

/-- The greatest number up to n with a property, or 0. -/
def most (p : Nat → Bool) : Nat → Nat
  | 0 => 0
  | k + 1 => if p (k + 1) then k + 1 else most p k
theorem most_is {p : Nat → Bool} {r : Nat} (h1 : r = 0 ∨ p r = true) : ∀ k, r ≤ k → (∀ i, r < i → i ≤ k → p i = false) → most p k = r := by
  intro k
  induction k with
  | zero => intro h _; simp only [most]; omega
  | succ k ih =>
    intro h h2
    simp only [most]
    by_cases e : r = k + 1
    · subst e
      rcases h1 with h1 | h1
      · omega
      · rw [if_pos h1]
    · rw [if_neg (by rw [h2 (k + 1) (by omega) (Nat.le_refl _)]; exact Bool.noConfusion)]
      exact ih (by omega) fun i h3 h4 => h2 i h3 (by omega)
theorem most_le (p : Nat → Bool) : ∀ k, most p k ≤ k := by
  intro k
  induction k with
  | zero => exact Nat.le_refl _
  | succ k ih => simp only [most]; split <;> omega
theorem most_ok (p : Nat → Bool) : ∀ k, most p k = 0 ∨ p (most p k) = true := by
  intro k
  induction k with
  | zero => exact .inl rfl
  | succ k ih =>
    simp only [most]
    split
    · exact .inr (by assumption)
    · exact ih
theorem most_gt (p : Nat → Bool) : ∀ k i, most p k < i → i ≤ k → p i = false := by
  intro k
  induction k with
  | zero => intro i h1 h2; omega
  | succ k ih =>
    intro i h1 h2
    simp only [most] at h1
    split at h1
    · omega
    · rename_i hp
      by_cases e : i = k + 1
      · subst e; simpa using hp
      · exact ih i h1 (by omega)

theorem or_bit {r k : Nat} (h : r % 2 ^ (k + 1) = 0) : r ||| 2 ^ k = r + 2 ^ k := by
  obtain ⟨a, rfl⟩ := Nat.dvd_of_mod_eq_zero h
  exact (Nat.two_pow_add_eq_or_of_lt (show 2 ^ k < 2 ^ (k + 1) from Nat.pow_lt_pow_right (by omega) (by omega)) a).symm
/-- The bit that is tried, and nothing behind the last. -/
def bitv : Nat → Int
  | 0 => 0
  | j + 1 => ((2 ^ j : Nat) : Int)
theorem bitv_half (j : Nat) : bitv (j + 1) / 2 = bitv j := by
  cases j with
  | zero => rfl
  | succ j => simp only [bitv, Nat.pow_succ]; omega
theorem bitv_pos (j : Nat) : 0 < bitv (j + 1) := by
  simp only [bitv]; have := Nat.two_pow_pos j; omega
theorem bor_bit {r k : Nat} (h : r % 2 ^ (k + 1) = 0) : bor (r : Int) (bitv (k + 1)) = ((r + 2 ^ k : Nat) : Int) := by
  simp only [bor, bitv, Int.toNat_natCast, or_bit h]
theorem sq_lt {a b : Int} (h : 0 ≤ a) (h2 : a * a < b * b) (hb : 0 ≤ b) : a < b := by
  rcases Int.lt_or_le a b with h' | h'
  · exact h'
  · have := Int.mul_le_mul h' h' hb h; omega
theorem sq_le {a b : Int} (h : 0 ≤ a) (h2 : a ≤ b) : a * a ≤ b * b := Int.mul_le_mul h2 h2 h (by omega)
theorem sq_bd {x k : Int} (h : -k ≤ x ∧ x ≤ k) : 0 ≤ x * x ∧ x * x ≤ k * k := by
  rcases Int.le_total 0 x with h' | h'
  · exact ⟨Int.mul_nonneg h' h', sq_le h' h.2⟩
  · have := sq_le (a := -x) (b := k) (by omega) (by omega)
    rw [Int.neg_mul_neg] at this
    exact ⟨by rw [← Int.neg_mul_neg]; exact Int.mul_nonneg (by omega) (by omega), this⟩

/-- The root of n, rounded down. -/
def rt (n : Int) : Int := (most (fun r => decide ((r : Int) * r ≤ n)) 1048575 : Nat)
theorem rt_is {n : Int} {r : Nat} (h1 : (r : Int) * r ≤ n) (h2 : n < ((r : Int) + 1) * (r + 1)) (h3 : r ≤ 1048575) : rt n = r := by
  unfold rt
  rw [most_is (r := r) (.inr (by simpa using h1)) _ h3 fun i h4 h5 => ?_]
  simp only [decide_eq_false_iff_not, Int.not_le]
  have := sq_le (a := (r : Int) + 1) (b := i) (by omega) (by omega)
  omega
theorem rt_bd {n : Int} (h0 : 0 ≤ n) (h1 : n < 1099511627776) : 0 ≤ rt n ∧ rt n ≤ 1048575 ∧ rt n * rt n ≤ n ∧ n < (rt n + 1) * (rt n + 1) := by
  have k1 := most_le (fun r => decide ((r : Int) * r ≤ n)) 1048575
  have k2 := most_ok (fun r => decide ((r : Int) * r ≤ n)) 1048575
  have k3 := most_gt (fun r => decide ((r : Int) * r ≤ n)) 1048575
  unfold rt
  generalize most (fun r => decide ((r : Int) * r ≤ n)) 1048575 = m at *
  refine ⟨by omega, by omega, ?_, ?_⟩
  · rcases k2 with rfl | k2
    · simpa using h0
    · simpa using k2
  · by_cases e : m = 1048575
    · subst e; simp; omega
    · have := k3 (m + 1) (by omega) (by omega)
      simp only [decide_eq_false_iff_not, Int.not_le] at this
      simpa using this
end Go.Proofs.Ytfgaefpdccdfiaa
