/- Grids: the index of a node. -/
import Derived.Test.YtkapjajlkpepmaaGrid3
import Derived.Test.YtkapjajlkpepmaaXDevicelinkSelf0
import Derived.Test.YtkapjajlkpepmaaGo
namespace Go.Proofs.Ytkapjajlkpepmaa
open Go Go.Lite
set_option linter.unusedVariables false
set_option linter.unusedSimpArgs false
set_option maxRecDepth 100000
set_option maxHeartbeats 4000000
-- @simp rdi

/-- The index i of node n. -/
def dg (s inn n i : Nat) : Nat := n / s ^ (inn - 1 - i) % s
theorem dg_lt {s inn n i : Nat} (h : 0 < s) : dg s inn n i < s := Nat.mod_lt _ h
theorem dg_step {s m n i : Nat} (hi : i < m) : dg s (m + 1) n i = dg s m (n / s) i := by
  unfold dg
  rw [Nat.div_div_eq_div_mul, ← Nat.pow_succ', show m + 1 - 1 - i = (m - 1 - i).succ by omega]
theorem dg_ndx {s : Nat} (hs : 0 < s) : ∀ {inn : Nat} {y : Nat → Nat}, (∀ i, i < inn → y i < s) → ∀ i, i < inn → dg s inn (ndx s 0 (tab inn y)) i = y i
  | 0, y, _ => fun i hi => by omega
  | m + 1, y, h => fun i hi => by
    rw [tab_succ, ndx_snoc]
    by_cases e : i = m
    · subst e
      unfold dg
      rw [show i + 1 - 1 - i = 0 by omega, Nat.pow_zero, Nat.div_one, Nat.mul_comm, Nat.mul_add_mod, Nat.mod_eq_of_lt (h i hi)]
    · rw [dg_step (by omega), Nat.mul_comm, Nat.mul_add_div hs, Nat.div_eq_of_lt (h m (by omega)), Nat.add_zero]
      exact dg_ndx hs (fun i hi => h i (by omega)) i (by omega)
theorem ndx_in {s inn : Nat} {y : Nat → Nat} (h : ∀ i, i < inn → y i < s) : ndx s 0 (tab inn y) < s ^ inn := by
  have := ndx_lt (s := s) (l := tab inn y) (n := 0) fun k hk => by
    obtain ⟨i, hi, rfl⟩ := mem_getD (d := 0) hk
    rw [tab_len] at hi
    rw [tab_get hi]
    exact h i hi
  rwa [tab_len, Nat.zero_add, Nat.one_mul] at this
/-- The index of the next node, digit by digit from the last. -/
theorem dg_next0 {s inn i m j : Nat} (hs : 0 < s) (hd : s ^ m ∣ i + 1) (hj : j < inn) (h : inn - m ≤ j) : dg s inn (i + 1) j = 0 := by
  unfold dg
  have h1 : inn - 1 - j < m := by omega
  obtain ⟨q, hq⟩ := hd
  obtain ⟨d, hd⟩ := Nat.exists_eq_add_of_le h1
  rw [hq, hd, Nat.pow_add, Nat.pow_succ, Nat.mul_assoc, Nat.mul_assoc, Nat.mul_div_cancel_left _ (Nat.pow_pos hs), Nat.mul_mod_right]
theorem div_pred {i p q : Nat} (hp : 0 < p) (hq : i + 1 = p * (q + 1)) : i / p = q := by
  rw [Nat.mul_add, Nat.mul_one] at hq
  have : i = p * q + (p - 1) := by omega
  rw [this, Nat.mul_add_div hp, Nat.div_eq_of_lt (by omega), Nat.add_zero]
theorem dg_next1 {s inn i m : Nat} (hs : 2 ≤ s) (hd : s ^ m ∣ i + 1) (hm : m < inn) (hlt : dg s inn i (inn - 1 - m) + 1 < s) : ∀ j, j < inn → dg s inn (i + 1) j = if inn - m ≤ j then 0 else if j = inn - 1 - m then dg s inn i j + 1 else dg s inn i j := fun j hj => by
  have hp : 0 < s ^ m := Nat.pow_pos (by omega)
  have hd2 := hd
  obtain ⟨q, hq⟩ := hd2
  obtain ⟨q, rfl⟩ : ∃ q', q = q' + 1 := ⟨q - 1, by cases q with | zero => simp at hq | succ q => omega⟩
  have i1 : i / s ^ m = q := div_pred hp hq
  have i2 : (i + 1) / s ^ m = q + 1 := by rw [hq, Nat.mul_div_cancel_left _ hp]
  have hd0 : dg s inn i (inn - 1 - m) = q % s := by unfold dg; rw [show inn - 1 - (inn - 1 - m) = m by omega, i1]
  rw [hd0] at hlt
  by_cases h1 : inn - m ≤ j
  · rw [if_pos h1]; exact dg_next0 (by omega) hd hj h1
  · rw [if_neg h1]
    by_cases h2 : j = inn - 1 - m
    · rw [if_pos h2]
      subst h2
      rw [hd0]
      unfold dg
      rw [show inn - 1 - (inn - 1 - m) = m by omega, i2]
      have := Nat.div_add_mod q s
      rw [show q + 1 = s * (q / s) + (q % s + 1) by omega, Nat.mul_add_mod, Nat.mod_eq_of_lt hlt]
    · rw [if_neg h2]
      unfold dg
      obtain ⟨d, hdd⟩ := Nat.exists_eq_add_of_le (show m + 1 ≤ inn - 1 - j by omega)
      rw [hdd, Nat.pow_add, Nat.pow_succ, ← Nat.div_div_eq_div_mul, ← Nat.div_div_eq_div_mul, ← Nat.div_div_eq_div_mul, ← Nat.div_div_eq_div_mul, i1, i2]
      congr 2
      have := Nat.div_add_mod q s
      rw [show q + 1 = s * (q / s) + (q % s + 1) by omega, Nat.mul_add_div (by omega), Nat.div_eq_of_lt hlt, Nat.add_zero]
theorem dg_next2 {s inn i m : Nat} (hs : 2 ≤ s) (hd : s ^ m ∣ i + 1) (hm : m < inn) (hge : s ≤ dg s inn i (inn - 1 - m) + 1) : s ^ (m + 1) ∣ i + 1 := by
  have hp : 0 < s ^ m := Nat.pow_pos (by omega)
  obtain ⟨q, hq⟩ := hd
  obtain ⟨q, rfl⟩ : ∃ q', q = q' + 1 := ⟨q - 1, by cases q with | zero => simp at hq | succ q => omega⟩
  have i1 : i / s ^ m = q := div_pred hp hq
  have hd0 : dg s inn i (inn - 1 - m) = q % s := by unfold dg; rw [show inn - 1 - (inn - 1 - m) = m by omega, i1]
  rw [hd0] at hge
  have hl := Nat.mod_lt q (show 0 < s by omega)
  have := Nat.div_add_mod q s
  refine ⟨q / s + 1, ?_⟩
  rw [hq, Nat.pow_succ, Nat.mul_assoc]
  congr 1
  rw [Nat.mul_add]
  omega
end Go.Proofs.Ytkapjajlkpepmaa
