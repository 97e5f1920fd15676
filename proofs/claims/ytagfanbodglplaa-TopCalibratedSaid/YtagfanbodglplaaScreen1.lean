/- Screens: the greatest common divisor, the form, the place. -/
import Derived.Test.YtagfanbodglplaaXTopCalibrated0
import Derived.Test.YtagfanbodglplaaSheet3
import Derived.Test.YtagfanbodglplaaGo
namespace Go.Proofs.Ytagfanbodglplaa
open Go Go.Lite
set_option linter.unusedVariables false
set_option linter.unusedSimpArgs false
set_option maxRecDepth 100000
set_option maxHeartbeats 4000000
-- @simp rdi

theorem smod_c (x m : Int) (h : Due (1 ≤ m ∧ m ≤ 4611686018427387904 ∧ -4611686018427387904 ≤ x ∧ x ≤ 4611686018427387904)) : TC R Try.prog screen_mod_f [.int .i64 x, .int .i64 m] [] (fun v X => v = .int .i64 (x % m) ∧ X = []) := by
  dsimp only [Due] at h
  have hq := quo_rem x m
  have hb := rem_bd (a := x) (show 0 < m by omega)
  have h1 := Int.emod_nonneg x (show m ≠ 0 by omega)
  have h2 := Int.emod_lt_of_pos x (show 0 < m by omega)
  have key : (0 ≤ rem x m → rem x m = x % m) ∧ (rem x m < 0 → rem x m + m = x % m) := by
    have e : x % m = rem x m ∨ x % m = rem x m + m := by
      have h3 := Int.mul_ediv_add_emod x m
      have h4 : m * (x / m - quo x m) = rem x m - x % m := by rw [Int.mul_sub]; omega
      have h5 : -1 ≤ x / m - quo x m := by
        refine Int.not_lt.1 fun hc => ?_
        have := Int.mul_le_mul_of_nonneg_left (show x / m - quo x m ≤ -2 by omega) (show 0 ≤ m by omega)
        omega
      have h6 : x / m - quo x m ≤ 0 := by
        refine Int.not_lt.1 fun hc => ?_
        have := Int.mul_le_mul_of_nonneg_left (show 1 ≤ x / m - quo x m by omega) (show 0 ≤ m by omega)
        omega
      have : x / m - quo x m = 0 ∨ x / m - quo x m = -1 := by omega
      rcases this with h | h
      · rw [h, Int.mul_zero] at h4; omega
      · rw [h] at h4; omega
    rcases e with e | e <;> constructor <;> intro h <;> omega
  refine tc0 env screen_mod_s (by rfl) ?_
  dsimp only [screen_mod_c]
  repeat' (first
    | refine GZp_i ?_ ?_ ?_ ?_ ?_ ?_ ?_ ?_
    | with_reducible first | exact BzZq.mk | refine Tw.ret ?_ | refine ImZq.i fun h => ?_ | refine IkZq.i fun hk => ?_)
  · exact ⟨rfl, by rw [key.2 (by omega)], rfl⟩
  · exact ⟨rfl, by rw [key.1 (by omega)], rfl⟩

/-- The greatest common divisor, for some factors. -/
theorem bezout_ex (M : Int) (hM : M ≤ 1000000) : ∀ (n : Nat) (a b : Int), 0 ≤ a → a ≤ M → 0 ≤ b → b ≤ n → b ≤ M → 0 < a + b →
    ∃ g u v : Int, TC R Try.prog screen_bezout_f [.int .i64 a, .int .i64 b] [] (fun w X => w = .tup [.int .i64 g, .int .i64 u, .int .i64 v] ∧ X = []) ∧
      0 < g ∧ g ≤ M ∧ u * a + v * b = g ∧ (∃ a', a = g * a') ∧ (∃ b', b = g * b') ∧ (b = 0 → u = 1 ∧ v = 0) ∧ (-M - 1 ≤ u ∧ u ≤ M + 1) ∧ (-M - 1 ≤ v ∧ v ≤ M + 1) ∧
      (0 < b → -b ≤ u ∧ u ≤ b) ∧ (0 < b → 0 < a → -a ≤ v ∧ v ≤ a) ∧ (a = 0 → u = 0 ∧ v = 1 ∨ b = 0) := by
  intro n
  induction n with
  | zero =>
    intro a b ha haM hb hbn hbM hp
    obtain rfl : b = 0 := by omega
    refine ⟨a, 1, 0, ?_, by omega, by omega, by omega, ⟨1, by omega⟩, ⟨0, by omega⟩, fun _ => ⟨rfl, rfl⟩, by omega, by omega, by omega, by omega, by omega⟩
    refine tc0 env screen_bezout_s (by rfl) ?_
    dsimp only [screen_bezout_c]
    repeat' (first
      | refine GZp_i ?_ ?_ ?_ ?_ ?_ ?_ ?_ ?_
      | with_reducible first | exact BzZq.mk | refine Tw.ret ?_ | refine ImZq.i fun h => ?_ | refine IkZq.i fun hk => ?_)
    exact ⟨rfl, rfl, rfl⟩
  | succ n ih =>
    intro a b ha haM hb hbn hbM hp
    by_cases h0 : b = 0
    · exact ih a b ha haM hb (by omega) hbM hp
    have hbp : 0 < b := by omega
    have q1 : rem a b = a % b := rem_nn ha
    have q2 : quo a b = a / b := quo_nn ha
    have r1 := Int.emod_nonneg a h0
    have r2 := Int.emod_lt_of_pos a hbp
    have r3 := Int.mul_ediv_add_emod a b
    have r4 : 0 ≤ a / b := Int.ediv_nonneg ha (by omega)
    obtain ⟨g, u, v, hc, g1, g2, g3, ⟨a', ea⟩, ⟨b', eb⟩, g6, g7, g8, g9, g10, g11⟩ := ih b (a % b) (by omega) hbM r1 (by omega) (by omega) (by omega)
    have hv : -a - 1 ≤ u - a / b * v ∧ u - a / b * v ≤ a + 1 ∧ (0 < a → -a ≤ u - a / b * v ∧ u - a / b * v ≤ a) ∧ (a = 0 → v = 0 ∧ u - a / b * v = 1) ∧ (-b ≤ v ∧ v ≤ b) := by
      by_cases hr : a % b = 0
      · obtain ⟨rfl, rfl⟩ := g6 hr
        rw [Int.mul_zero]
        omega
      · have b1 := g9 (by omega)
        have b2 := g10 (by omega) hbp
        have e1 : a / b * v ≤ a / b * b := Int.mul_le_mul_of_nonneg_left b2.2 r4
        have e2 : a / b * -b ≤ a / b * v := Int.mul_le_mul_of_nonneg_left b2.1 r4
        rw [Int.mul_neg] at e2
        have e3 : a / b * b = b * (a / b) := Int.mul_comm _ _
        have : a ≠ 0 := fun h => hr (by rw [h]; simp)
        omega
    have hqv : a / b * v = v * (a / b) := Int.mul_comm _ _
    refine ⟨g, v, u - a / b * v, ?_, g1, g2, ?_, ⟨b' + a / b * a', ?_⟩, ⟨a', ea⟩, by omega, by omega, by omega, by omega, by omega, by omega⟩
    · refine tc0 env screen_bezout_s (by rfl) ?_
      dsimp only [screen_bezout_c]
      rw [← q1] at hc
      have r5 : a / b ≤ a := Int.ediv_le_self _ ha
      have q4 : -9223372036854775808 ≤ quo a b ∧ quo a b ≤ 9223372036854775807 := by omega
      have q3 : quo a b * v = a / b * v := by rw [q2]
      repeat' (first
        | ((with_reducible refine TOps.any ?_); refine TOps.callV env (by rfl) (by rfl) (by rfl) (hc) ?_)
        | refine GZp_i ?_ ?_ ?_ ?_ ?_ ?_ ?_ ?_
        | with_reducible first | exact BzZq.mk | refine Tw.ret ?_ | refine ImZq.i fun h => ?_ | refine IkZq.i fun hk => ?_)
      exact ⟨rfl, by rw [q2], rfl⟩
    · rw [← g3]
      have : a = b * (a / b) + a % b := by omega
      generalize a / b = q at *
      generalize a % b = r at *
      subst this
      grind
    · generalize a / b = q at *
      generalize a % b = r at *
      subst ea
      rw [← r3, eb]
      grind

/-- What Check says. -/
def schk (a b k : Int) : Int := if a < 0 ∨ 20 < a ∨ b < 0 ∨ 20 < b ∨ k < 0 ∨ 3 < k then 3 else if a * a + b * b = 0 then 1 else if 400 < a * a + b * b then 2 else 0
theorem sq_bd {a : Int} (h : 0 ≤ a ∧ a ≤ 20) : 0 ≤ a * a ∧ a * a ≤ 400 := by
  have := Int.mul_le_mul h.2 h.2 h.1 (by omega)
  have := Int.mul_nonneg h.1 h.1
  omega
theorem scheck_c (a b k : Int) : TC R Try.prog screen_Check_f [.agg [.int .i64 a, .int .i64 b, .int .i64 k]] [] (fun v X => v = .int .i64 (schk a b k) ∧ X = []) := by
  refine tc0 env screen_Check_s (by rfl) ?_
  dsimp only [screen_Check_c]
  by_cases h1 : a < 0 ∨ 20 < a ∨ b < 0 ∨ 20 < b ∨ k < 0 ∨ 3 < k
  · have e : schk a b k = 3 := if_pos h1
    rw [e]
    repeat' (first
      | refine GZp_i ?_ ?_ ?_ ?_ ?_ ?_ ?_ ?_
      | with_reducible first | exact BzZq.mk | refine Tw.ret ?_ | refine ImZq.i fun h => ?_ | refine IkZq.i fun hk => ?_)
    all_goals exact ⟨rfl, rfl, rfl⟩
  · have q1 := sq_bd (a := a) (by omega)
    have q2 := sq_bd (a := b) (by omega)
    have e : schk a b k = if a * a + b * b = 0 then 1 else if 400 < a * a + b * b then 2 else 0 := if_neg h1
    rw [e]
    repeat' (first
      | refine GZp_i ?_ ?_ ?_ ?_ ?_ ?_ ?_ ?_
      | with_reducible first | exact BzZq.mk | refine Tw.ret ?_ | refine ImZq.i fun h => ?_ | refine IkZq.i fun hk => ?_)
    · rw [if_pos (by omega)]; exact ⟨rfl, rfl, rfl⟩
    · rw [if_neg (by omega), if_pos (by omega)]; exact ⟨rfl, rfl, rfl⟩
    · rw [if_neg (by omega), if_neg (by omega)]; exact ⟨rfl, rfl, rfl⟩
end Go.Proofs.Ytagfanbodglplaa
