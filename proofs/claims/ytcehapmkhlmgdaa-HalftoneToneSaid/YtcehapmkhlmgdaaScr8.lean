/- Screens: Order, Dots; how often a place occurs in a square. -/
import Derived.Test.YtcehapmkhlmgdaaScr7
import Derived.Test.YtcehapmkhlmgdaaRMod
import Derived.Test.YtcehapmkhlmgdaaGo
namespace Go.Proofs.Ytcehapmkhlmgdaa
open Go Go.Lite
set_option linter.unusedVariables false
set_option linter.unusedSimpArgs false
set_option maxRecDepth 100000
set_option maxHeartbeats 4000000
-- @simp rdi

theorem one_hit {x t : Int} {m : Nat} (hm : 0 < m) (ht : 0 ≤ t ∧ t < m) : sumN (fun i => if (x + i) % (m : Int) = t then 1 else 0) m = 1 := by
  obtain ⟨j, hj⟩ : ∃ j : Nat, (j : Int) = (t - x) % (m : Int) := ⟨((t - x) % (m : Int)).toNat, by have := Int.emod_nonneg (t - x) (show (m : Int) ≠ 0 by omega); omega⟩
  have hjm : j < m := by have := Int.emod_lt_of_pos (t - x) (show (0 : Int) < m by omega); omega
  have hit : ∀ i : Nat, i < m → ((x + i) % (m : Int) = t ↔ i = j) := fun i hi => by
    have e1 := Int.mul_ediv_add_emod (x + i) (m : Int)
    have e2 := Int.mul_ediv_add_emod (t - x) (m : Int)
    rw [← hj] at e2
    have key : ∀ z : Int, (m : Int) * z = (i : Int) - j → i = j := fun z hz => by
      rcases Int.lt_trichotomy z 0 with h | h | h
      · have := Int.mul_le_mul_of_nonneg_left (show z ≤ -1 by omega) (show (0 : Int) ≤ m by omega); omega
      · subst h; omega
      · have := Int.mul_le_mul_of_nonneg_left (show 1 ≤ z by omega) (show (0 : Int) ≤ m by omega); omega
    constructor
    · intro h
      rw [h] at e1
      exact key ((x + i) / (m : Int) + (t - x) / (m : Int)) (by rw [Int.mul_add]; omega)
    · rintro rfl
      have : x + i = t + (m : Int) * (-((t - x) / (m : Int))) := by rw [Int.mul_neg]; omega
      rw [this, Int.add_mul_emod_self_left, Int.emod_eq_of_lt ht.1 ht.2]
  rw [sumN_one hjm, if_pos ((hit j hjm).2 rfl), sumN_zero]
  · rfl
  · intro i hi
    by_cases e : i = j
    · rw [if_pos e]
    · rw [if_neg e, if_neg fun h => e ((hit i hi).1 h)]
theorem many_hits {y r : Int} {g : Nat} (hg : 0 < g) (hr : 0 ≤ r ∧ r < g) : ∀ m : Nat, sumN (fun j => if (y + j) % (g : Int) = r then 1 else 0) (g * m) = m := by
  intro m
  induction m with
  | zero => rfl
  | succ m ih =>
    rw [Nat.mul_add, Nat.mul_one, sumN_add, ih]
    have e : ∀ i : Nat, i < g → (if (y + ((g * m + i : Nat) : Int)) % (g : Int) = r then (1 : Int) else 0) = if (y + i) % (g : Int) = r then 1 else 0 := fun i _ => by
      have : y + ((g * m + i : Nat) : Int) = y + i + (g : Int) * m := by simp; omega
      rw [this, Int.add_mul_emod_self_left]
    rw [sumN_congr e, one_hit hg hr]
    omega
/-- In a row of one period a place occurs once or not at all. -/
theorem row_hits {P g : Nat} {f x y q : Int} (hP : 0 < P) (hg : 0 < g) (hq : 0 ≤ q ∧ q < g * P) : sumN (fun i => if plc P f g (x + i) y = q then 1 else 0) P = if y % (g : Int) = q / P then 1 else 0 := by
  have q1 := Int.mul_ediv_add_emod q (P : Int)
  have q2 := Int.emod_nonneg q (show (P : Int) ≠ 0 by omega)
  have q3 := Int.emod_lt_of_pos q (show (0 : Int) < P by omega)
  have e : ∀ i : Nat, i < P → (if plc P f g (x + i) y = q then (1 : Int) else 0) = if y % (g : Int) = q / P ∧ (x - y / g % P * f + i) % (P : Int) = q % P then 1 else 0 := fun i _ => by
    unfold plc
    have a1 : x + i - y / (g : Int) % P * f = x - y / g % P * f + i := by omega
    rw [a1]
    have z1 := Int.emod_nonneg (x - y / g % P * f + i) (show (P : Int) ≠ 0 by omega)
    have z2 := Int.emod_lt_of_pos (x - y / g % P * f + i) (show (0 : Int) < P by omega)
    generalize (x - y / g % P * f + i) % (P : Int) = z at *
    generalize y % (g : Int) = r at *
    generalize q / (P : Int) = s at *
    generalize q % (P : Int) = t at *
    have key : r * P + z = q ↔ r = s ∧ z = t := by
      rw [← q1, Int.mul_comm (P : Int) s]
      constructor
      · intro h
        have : r = s := by
          rcases Int.lt_trichotomy r s with h' | h' | h'
          · have := Int.mul_le_mul_of_nonneg_right (show r + 1 ≤ s by omega) (show (0 : Int) ≤ P by omega)
            rw [Int.add_mul] at this; omega
          · exact h'
          · have := Int.mul_le_mul_of_nonneg_right (show s + 1 ≤ r by omega) (show (0 : Int) ≤ P by omega)
            rw [Int.add_mul] at this; omega
        subst this
        exact ⟨rfl, by omega⟩
      · rintro ⟨rfl, rfl⟩; rfl
    by_cases h : r * P + z = q
    · rw [if_pos h, if_pos (key.1 h)]
    · rw [if_neg h, if_neg fun h' => h (key.2 h')]
  rw [sumN_congr e]
  by_cases hy : y % (g : Int) = q / P
  · rw [if_pos hy]
    rw [sumN_congr (g := fun i => if (x - y / g % P * f + i) % (P : Int) = q % P then 1 else 0) fun i _ => by
      by_cases h : (x - y / g % P * f + i) % (P : Int) = q % P
      · rw [if_pos ⟨hy, h⟩, if_pos h]
      · rw [if_neg fun h' => h h'.2, if_neg h]]
    exact one_hit hP ⟨q2, q3⟩
  · rw [if_neg hy]
    exact sumN_zero fun i _ => if_neg fun h' => hy h'.1
/-- How often a place occurs in j rows and i pixels of the next. -/
def occ (P : Nat) (f : Int) (g : Nat) (x y : Int) (j i : Nat) (q : Int) : Int := sumN (fun j' => sumN (fun i' => if plc P f g (x + i') (y + j') = q then 1 else 0) P) j + sumN (fun i' => if plc P f g (x + i') (y + j) = q then 1 else 0) i
theorem occ_all {P g m : Nat} {f x y q : Int} (hP : 0 < P) (hg : 0 < g) (hm : P = g * m) (hq : 0 ≤ q ∧ q < g * P) : occ P f g x y P 0 q = m := by
  unfold occ
  rw [sumN_congr fun j _ => row_hits hP hg hq]
  simp only [sumN]
  have q4 : 0 ≤ q / P := Int.ediv_nonneg hq.1 (by omega)
  have q5 : q / P < g := Int.ediv_lt_of_lt_mul (by omega) hq.2
  have := many_hits (y := y) hg ⟨q4, q5⟩ m
  rw [← hm] at this
  omega
end Go.Proofs.Ytcehapmkhlmgdaa
