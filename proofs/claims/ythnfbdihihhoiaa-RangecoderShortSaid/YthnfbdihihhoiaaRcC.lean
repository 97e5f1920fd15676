/- Range coder: numbers of choices (plain). -/
import Derived.Test.YthnfbdihihhoiaaRcS
namespace Go.Proofs.Ythnfbdihihhoiaa
open Go Go.Lite
set_option linter.unusedVariables false
set_option linter.unusedSimpArgs false
set_option maxRecDepth 100000
set_option maxHeartbeats 4000000

def bc : Nat → Nat → Nat
  | _, 0 => 1
  | 0, _ + 1 => 0
  | n + 1, k + 1 => bc n k + bc n (k + 1)
theorem bc_gt : ∀ {n k : Nat}, n < k → bc n k = 0
  | 0, k + 1, _ => rfl
  | n + 1, k + 1, h => by simp only [bc]; rw [bc_gt (by omega), bc_gt (by omega)]
theorem bc_self : ∀ {n : Nat}, bc n n = 1
  | 0 => rfl
  | n + 1 => by simp only [bc]; rw [bc_self, bc_gt (by omega)]
theorem bc_fac : ∀ {n k : Nat}, k ≤ n → bc n k * (fac k * fac (n - k)) = fac n
  | n, 0, _ => by cases n <;> simp [bc, fac]
  | n + 1, k + 1, h => by
    rcases Nat.lt_or_ge k n with hk | hk
    · have i1 := bc_fac (n := n) (k := k) (by omega)
      have i2 := bc_fac (n := n) (k := k + 1) (by omega)
      obtain ⟨m, rfl⟩ : ∃ m, n = k + 1 + m := ⟨n - (k + 1), by omega⟩
      rw [show k + 1 + m - k = m + 1 by omega] at i1
      rw [show k + 1 + m - (k + 1) = m by omega] at i2
      rw [show k + 1 + m + 1 - (k + 1) = m + 1 by omega]
      simp only [bc]
      simp only [fac] at i1 i2 ⊢
      generalize bc (k + 1 + m) k = x at *
      generalize bc (k + 1 + m) (k + 1) = y at *
      generalize fac k = f at *
      generalize fac m = g at *
      have e : fac (k + 1 + m) = fac (k + 1 + m) := rfl
      generalize fac (k + 1 + m) = t at *
      calc (x + y) * ((k + 1) * f * ((m + 1) * g)) = (k + 1) * (x * (f * ((m + 1) * g))) + (m + 1) * (y * ((k + 1) * f * g)) := by grind
        _ = (k + 1) * t + (m + 1) * t := by rw [i1, i2]
        _ = (k + 1 + m + 1) * t := by grind
    · obtain rfl : k = n := by omega
      rw [bc_self, Nat.sub_self]; simp [fac]
theorem bc_next {n k : Nat} (h : k < n) : bc n k * (n - k) = bc n (k + 1) * (k + 1) := by
  have i1 := bc_fac (n := n) (k := k) (by omega)
  have i2 := bc_fac (n := n) (k := k + 1) (by omega)
  obtain ⟨m, rfl⟩ : ∃ m, n = k + 1 + m := ⟨n - (k + 1), by omega⟩
  rw [show k + 1 + m - k = m + 1 by omega] at i1 ⊢
  rw [show k + 1 + m - (k + 1) = m by omega] at i2
  have p : 0 < fac k * fac m := Nat.mul_pos (fac_pos k) (fac_pos m)
  refine Nat.eq_of_mul_eq_mul_right p ?_
  simp only [fac] at i1 i2
  generalize bc (k + 1 + m) k = x at *
  generalize bc (k + 1 + m) (k + 1) = y at *
  generalize fac k = f at *
  generalize fac m = g at *
  calc x * (m + 1) * (f * g) = x * (f * ((m + 1) * g)) := by grind
    _ = y * ((k + 1) * f * g) := by rw [i1, i2]
    _ = y * (k + 1) * (f * g) := by grind
theorem bc_div {n k : Nat} (h : k < n) : bc n k * (n - k) / (k + 1) = bc n (k + 1) := by
  rw [bc_next h]; exact Nat.mul_div_cancel _ (by omega)
theorem bc_quo {n k : Nat} (h : k ≤ n) : bc n k = fac n / (fac k * fac (n - k)) := by
  rw [← bc_fac h]
  exact (Nat.mul_div_cancel _ (Nat.mul_pos (fac_pos _) (fac_pos _))).symm
theorem bc_small : ∀ n, n ≤ 60 → ∀ k, k ≤ n → fac n / (fac k * fac (n - k)) * 61 ≤ 9223372036854775807 := by decide +kernel
theorem bc_bd {n k : Nat} (hn : n ≤ 60) (h : k ≤ n) : bc n k * 61 ≤ 9223372036854775807 := by
  rw [bc_quo h]; exact bc_small n hn k h

/-- The law's bound: with o ones among n bits. -/
theorem short_bound {bi : Nat → Nat} {n m : Nat} (hn : n ≤ 60) (hb : ∀ j, j < n → bi j ≤ 1) (hm : m = min (onesN bi n) (n - onesN bi n)) :
    256 ^ (eRun 1 (fun _ => 0) bi n).n ≤ 2 * ((n + 1) * bc n m) := by
  have ho := onesN_le hb
  have h := short_le hn hb
  generalize onesN bi n = o at *
  have hg : bc n m * (fac (n - o) * fac o) = fac n := by
    have := bc_fac (n := n) (k := m) (by omega)
    rcases Nat.le_total o (n - o) with h1 | h1
    · obtain rfl : m = o := by omega
      rw [Nat.mul_comm (fac (n - m))]; exact this
    · obtain rfl : m = n - o := by omega
      rw [show n - (n - o) = o by omega] at this; exact this
  have e : 2 * fac (n + 1) = 2 * ((n + 1) * bc n m) * (fac (n - o) * fac o) := by
    simp only [fac]; rw [← hg]; grind
  rw [e] at h
  exact Nat.le_of_mul_le_mul_right h (Nat.mul_pos (fac_pos _) (fac_pos _))
end Go.Proofs.Ythnfbdihihhoiaa
