/- Matrix codes: sizes, the border. -/
import Derived.Test.YthkilkjngincpaaLists
import Derived.Test.YthkilkjngincpaaXMatrixWord0
import Derived.Test.YthkilkjngincpaaGo
namespace Go.Proofs.Ythkilkjngincpaa
open Go Go.Lite
set_option linter.unusedVariables false
set_option linter.unusedSimpArgs false
set_option maxRecDepth 100000
set_option maxHeartbeats 4000000
-- @simp rdi rdy

def mAll (s : Nat) : Nat := (s - 2) * (s - 2) / 8
def mPar (s : Nat) : Nat := max 2 (mAll s / 6 * 2)
structure Side (s : Nat) : Prop where
  bd : 8 ≤ s ∧ s ≤ 32
  ev : s % 2 = 0
theorem Side.facts {s : Nat} (h : Side s) : 4 ≤ mAll s ∧ mAll s ≤ 112 ∧ 2 ≤ mPar s ∧ mPar s ≤ 36 ∧ mPar s + 2 ≤ mAll s := by
  have hb := h.bd
  have he := h.ev
  obtain ⟨m, hm, rfl⟩ : ∃ m, m ≤ 12 ∧ s = 8 + 2 * m := ⟨(s - 8) / 2, by omega, by omega⟩
  have key : ∀ m : Fin 13, 4 ≤ mAll (8 + 2 * m.1) ∧ mAll (8 + 2 * m.1) ≤ 112 ∧ 2 ≤ mPar (8 + 2 * m.1) ∧ mPar (8 + 2 * m.1) ≤ 36 ∧ mPar (8 + 2 * m.1) + 2 ≤ mAll (8 + 2 * m.1) := by decide
  exact key ⟨m, by omega⟩
theorem isSide_c (s : Nat) (h : Due (Side s)) : TC R Try.prog matrix_isSide_f [.int .i64 s] [] (fun v X => v = .bool true ∧ X = []) := by
  obtain ⟨hb, he⟩ := h
  have q : rem (s : Int) 2 = 0 := by rw [rem_nn (by omega)]; omega
  refine tc0 env matrix_isSide_s (by rfl) ?_
  dsimp only [matrix_isSide_c]
  have e : (decide (8 ≤ (s : Int)) && decide ((s : Int) ≤ 32) && decide (rem (s : Int) 2 = 0)) = true := by
    rw [q, decide_eq_true (by omega), decide_eq_true (by omega)]; rfl
  repeat' (first
    | refine GZy_i_y q ?_ ?_ ?_ ?_ ?_ ?_ ?_ ?_
    | with_reducible first | exact BzZq.mk | refine Tw.ret ?_ | refine ImZq.i fun h => ?_ | refine IkZq.i fun hk => ?_)
  exact ⟨rfl, congrArg TV.bool e, rfl⟩
theorem size_c (s : Nat) (h : Due (Side s)) : TC R Try.prog matrix_Size_f [.int .i64 s] [] (fun v X => v = .tup [.int .i64 (mAll s : Nat), .int .i64 (mPar s : Nat), .int .i64 ((mAll s : Int) - (mPar s : Int) - 1), .int .i64 0] ∧ X = []) := by
  have sc := isSide_c s h
  have f := Side.facts h
  obtain ⟨hb, he⟩ := h
  have p1 : ((s : Int) - 2) * ((s : Int) - 2) = (((s - 2) * (s - 2) : Nat) : Int) := by rw [Int.natCast_mul]; congr 1 <;> omega
  have p2 : (s - 2) * (s - 2) ≤ 30 * 30 := Nat.mul_le_mul (by omega) (by omega)
  have q1 : quo (((s : Int) - 2) * ((s : Int) - 2)) 8 = (mAll s : Nat) := by rw [p1, quo_nn (by omega)]; unfold mAll; omega
  have q2 : quo ((mAll s : Nat) : Int) 6 = ((mAll s / 6 : Nat) : Int) := by rw [quo_nn (by omega)]; omega
  have q3 : max 2 (quo (quo (((s : Int) - 2) * ((s : Int) - 2)) 8) 6 * 2) = ((mPar s : Nat) : Int) := by rw [q1, q2]; unfold mPar; omega
  refine tc0 env matrix_Size_s (by rfl) ?_
  dsimp only [matrix_Size_c]
  have d0 : rng .i64 (quo (((s : Int) - 2) * ((s : Int) - 2)) 8) := by rw [q1]; simp only [rng]; omega
  have d1 : rng .i64 (quo (quo (((s : Int) - 2) * ((s : Int) - 2)) 8) 6) := by rw [q1, q2]; simp only [rng]; omega
  have d2 : -9223372036854775808 ≤ quo (quo (((s : Int) - 2) * ((s : Int) - 2)) 8) 6 * 2 ∧ quo (quo (((s : Int) - 2) * ((s : Int) - 2)) 8) 6 * 2 ≤ 9223372036854775807 := by rw [q1, q2]; omega
  have d3 : -9223372036854775808 ≤ quo (((s : Int) - 2) * ((s : Int) - 2)) 8 - max 2 (quo (quo (((s : Int) - 2) * ((s : Int) - 2)) 8) 6 * 2) ∧ quo (((s : Int) - 2) * ((s : Int) - 2)) 8 - max 2 (quo (quo (((s : Int) - 2) * ((s : Int) - 2)) 8) 6 * 2) ≤ 9223372036854775807 := by rw [q3, q1]; omega
  have d4 : -9223372036854775808 ≤ quo (((s : Int) - 2) * ((s : Int) - 2)) 8 - max 2 (quo (quo (((s : Int) - 2) * ((s : Int) - 2)) 8) 6 * 2) - 1 ∧ quo (((s : Int) - 2) * ((s : Int) - 2)) 8 - max 2 (quo (quo (((s : Int) - 2) * ((s : Int) - 2)) 8) 6 * 2) - 1 ≤ 9223372036854775807 := by rw [q3, q1]; omega
  repeat' (first
    | ((with_reducible refine TOps.any ?_); refine TOps.callV env (by rfl) (by rfl) (by rfl) (sc) ?_)
    | exact d0
    | exact d1
    | exact d2
    | exact d3
    | exact d4
    | refine GZp_i_y ?_ ?_ ?_ ?_ ?_ ?_ ?_ ?_
    | with_reducible first | exact BzZq.mk | refine Tw.ret ?_ | refine ImZq.i fun h => ?_ | refine IkZq.i fun hk => ?_)
  rw [q3, q1]
  exact ⟨rfl, rfl, rfl⟩
/-- A module of the border: dark or not. -/
def mDark (s x y : Nat) : Bool := if x = 0 ∨ y = s - 1 then true else if y = 0 then x % 2 == 0 else if x = s - 1 then (s - 1 - y) % 2 == 0 else false
def mBord (s x y : Nat) : Bool := x == 0 || y == s - 1 || y == 0 || x == s - 1
theorem dark_c (s x y : Nat) (hs : Due (8 ≤ s ∧ s ≤ 32)) (hx : Due (x < s)) (hy : Due (y < s)) : TC R Try.prog matrix_dark_f [.int .i64 s, .int .i64 x, .int .i64 y] [] (fun v X => v = .tup [.bool (mDark s x y), .bool (mBord s x y)] ∧ X = []) := by
  dsimp only [Due] at hs hx hy
  have r1 : rem (x : Int) 2 = ((x % 2 : Nat) : Int) := by rw [rem_nn (by omega)]; omega
  have r2 : rem ((s : Int) - 1 - (y : Int)) 2 = (((s - 1 - y) % 2 : Nat) : Int) := by rw [rem_nn (by omega)]; omega
  refine tc0 env matrix_dark_s (by rfl) ?_
  dsimp only [matrix_dark_c]
  by_cases h1 : x = 0 ∨ y = s - 1
  · have e1 : mDark s x y = true := by unfold mDark; rw [if_pos h1]
    have e2 : mBord s x y = true := by unfold mBord; rcases h1 with h | h <;> simp [h]
    rw [e1, e2]
    repeat' (first
      | refine GZp_i_y ?_ ?_ ?_ ?_ ?_ ?_ ?_ ?_
      | with_reducible first | exact BzZq.mk | refine Tw.ret ?_ | refine ImZq.i fun h => ?_ | refine IkZq.i fun hk => ?_)
    all_goals exact ⟨rfl, rfl, rfl⟩
  by_cases h2 : y = 0
  · have e1 : mDark s x y = decide (rem (x : Int) 2 = 0) := by
      unfold mDark; rw [if_neg h1, if_pos h2, r1]
      by_cases h : x % 2 = 0
      · rw [h]; rfl
      · rw [decide_eq_false (by omega)]; simp [h]
    have e2 : mBord s x y = true := by unfold mBord; simp [h2]
    rw [e1, e2]
    repeat' (first
      | refine GZp_i_y ?_ ?_ ?_ ?_ ?_ ?_ ?_ ?_
      | with_reducible first | exact BzZq.mk | refine Tw.ret ?_ | refine ImZq.i fun h => ?_ | refine IkZq.i fun hk => ?_)
    all_goals exact ⟨rfl, rfl, rfl⟩
  by_cases h3 : x = s - 1
  · have e1 : mDark s x y = decide (rem ((s : Int) - 1 - (y : Int)) 2 = 0) := by
      unfold mDark; rw [if_neg h1, if_neg h2, if_pos h3, r2]
      by_cases h : (s - 1 - y) % 2 = 0
      · rw [h]; rfl
      · rw [decide_eq_false (by omega)]; simp [h]
    have e2 : mBord s x y = true := by unfold mBord; simp [h3]
    rw [e1, e2]
    repeat' (first
      | refine GZp_i_y ?_ ?_ ?_ ?_ ?_ ?_ ?_ ?_
      | with_reducible first | exact BzZq.mk | refine Tw.ret ?_ | refine ImZq.i fun h => ?_ | refine IkZq.i fun hk => ?_)
    all_goals exact ⟨rfl, rfl, rfl⟩
  · have e1 : mDark s x y = false := by unfold mDark; rw [if_neg h1, if_neg h2, if_neg h3]
    have e2 : mBord s x y = false := by
      unfold mBord
      have a1 : ¬ x = 0 := fun h => h1 (.inl h)
      have a2 : ¬ y = s - 1 := fun h => h1 (.inr h)
      simp [a1, a2, h2, h3]
    rw [e1, e2]
    repeat' (first
      | refine GZp_i_y ?_ ?_ ?_ ?_ ?_ ?_ ?_ ?_
      | with_reducible first | exact BzZq.mk | refine Tw.ret ?_ | refine ImZq.i fun h => ?_ | refine IkZq.i fun hk => ?_)
    all_goals exact ⟨rfl, rfl, rfl⟩
end Go.Proofs.Ythkilkjngincpaa
