/- The facts' sMod. -/
import Derived.Test.YtagfanbodglplaaSheet3
import Derived.Test.YtagfanbodglplaaXTopCalibrated0
import Derived.Test.YtagfanbodglplaaGo
namespace Go.Proofs.Ytagfanbodglplaa
open Go Go.Lite
set_option linter.unusedVariables false
set_option linter.unusedSimpArgs false
set_option maxRecDepth 100000
set_option maxHeartbeats 4000000
-- @simp rdi

theorem sMod_c (n m : Int) (h : Due (1 ≤ m ∧ m ≤ 1000000 ∧ -9223372036854775808 ≤ n ∧ n ≤ 9223372036854775807)) : TC R Try.prog T_sMod_f [.int .i64 n, .int .i64 m] [] (fun v X => v = .int .i64 (n % m) ∧ X = []) := by
  dsimp only [Due] at h
  have lo : -m < Int.tmod n m := by
    rcases Int.le_total 0 n with h0 | h0
    · have := Int.tmod_nonneg m h0; omega
    · have h2 := Int.tmod_lt_of_pos (-n) (show 0 < m by omega)
      rw [Int.neg_tmod] at h2; omega
  have hi : Int.tmod n m < m := Int.tmod_lt_of_pos n (by omega)
  have er : rem n m = Int.tmod n m := rfl
  have e1 : rem (rem n m + m) m = n % m := by
    obtain ⟨a, ha⟩ : ∃ a : Nat, Int.tmod n m + m = a := ⟨(Int.tmod n m + m).toNat, by omega⟩
    obtain ⟨b, hb⟩ : ∃ b : Nat, m = b := ⟨m.toNat, by omega⟩
    have e2 : n % m = (Int.tmod n m + m) % m := by
      have := Int.mul_tdiv_add_tmod n m
      rw [Int.add_emod_right]
      conv => lhs; rw [← this]
      rw [Int.mul_add_emod_self_left]
    rw [e2, er, ha, hb, rem_nn (by omega)]
  refine tc0 env T_sMod_s (by rfl) ?_
  dsimp only [T_sMod_c]
  have d1 : -9223372036854775808 ≤ rem n m + m ∧ rem n m + m ≤ 9223372036854775807 := by rw [er]; omega
  have d2 : rng .i64 (rem n m) := by rw [er]; simp only [rng]; omega
  have d3 : rng .i64 (rem (rem n m + m) m) := by rw [e1]; have := Int.emod_nonneg n (show m ≠ 0 by omega); have := Int.emod_lt_of_pos n (show 0 < m by omega); simp only [rng]; omega
  repeat' (first
    | exact d1
    | exact d2
    | exact d3
    | refine GZp_i ?_ ?_ ?_ ?_ ?_ ?_ ?_ ?_
    | with_reducible first | exact BzZq.mk | refine Tw.ret ?_ | refine ImZq.i fun h => ?_ | refine IkZq.i fun hk => ?_)
  rw [e1]
  exact ⟨rfl, rfl, rfl⟩
end Go.Proofs.Ytagfanbodglplaa
