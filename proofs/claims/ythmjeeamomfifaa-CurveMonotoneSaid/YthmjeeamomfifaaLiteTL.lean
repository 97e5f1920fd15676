import Derived.Test.YthmjeeamomfifaaLiteTK
namespace Go.Lite
theorem quo_bd {a b : Int} (hb : 0 < b) : (0 ≤ a → 0 ≤ quo a b ∧ quo a b ≤ a) ∧ (a ≤ 0 → a ≤ quo a b ∧ quo a b ≤ 0) := by
  have key : ∀ a : Int, 0 ≤ a → 0 ≤ a.tdiv b ∧ a.tdiv b ≤ a := fun a h => by
    rw [Int.tdiv_eq_ediv_of_nonneg h]
    exact ⟨Int.ediv_nonneg h (by omega), Int.ediv_le_self b h⟩
  refine ⟨key a, fun h => ?_⟩
  have := key (-a) (by omega)
  unfold quo
  rw [Int.neg_tdiv] at this
  omega
theorem quo_rem (a b : Int) : b * quo a b + rem a b = a := Int.mul_tdiv_add_tmod a b
theorem rem_bd {a b : Int} (hb : 0 < b) : rem a b < b ∧ -b < rem a b ∧ (0 ≤ a → 0 ≤ rem a b) ∧ (a ≤ 0 → rem a b ≤ 0) := by
  have h1 : ∀ a : Int, 0 ≤ a → 0 ≤ a.tmod b ∧ a.tmod b < b := fun a h => ⟨Int.tmod_nonneg b h, Int.tmod_lt_of_pos a hb⟩
  unfold rem
  rcases Int.le_total 0 a with h | h
  · have := h1 a h; exact ⟨by omega, by omega, fun _ => by omega, fun h' => by rw [show a = 0 by omega]; simp⟩
  · have := h1 (-a) (by omega)
    rw [Int.neg_tmod] at this
    exact ⟨by omega, by omega, fun h' => by rw [show a = 0 by omega]; simp, fun _ => by omega⟩
theorem div_is {a b q r : Int} (hb : 0 < b) (h : b * q + r = a) (h0 : 0 ≤ r) (h1 : r < b) : a / b = q := by
  rw [← h, Int.add_comm, Int.add_mul_ediv_left _ _ (by omega), Int.ediv_eq_zero_of_lt h0 h1, Int.zero_add]
theorem quo_fl {a b : Int} (hb : 0 < b) (h : 0 ≤ rem a b) : quo a b = a / b := (div_is hb (quo_rem a b) h (rem_bd hb).1).symm
theorem quo_fl1 {a b : Int} (hb : 0 < b) (h : rem a b < 0) : quo a b - 1 = a / b := by
  have := rem_bd (a := a) hb
  exact (div_is hb (q := quo a b - 1) (r := rem a b + b) (by have := quo_rem a b; rw [Int.mul_sub, Int.mul_one]; omega) (by omega) (by omega)).symm
theorem quo_nn {a b : Int} (ha : 0 ≤ a) : quo a b = a / b := Int.tdiv_eq_ediv_of_nonneg ha
theorem rem_nn {a b : Int} (ha : 0 ≤ a) : rem a b = a % b := Int.tmod_eq_emod_of_nonneg ha
end Go.Lite
