/- Floor and Mod of the reference. -/
import Derived.Test.YtbaepacihkgalaaX0
import Derived.Test.YtbaepacihkgalaaGo
namespace Go.Proofs.Ytbaepacihkgalaa
open Go Go.Lite
set_option linter.unusedVariables false
set_option linter.unusedSimpArgs false
set_option maxRecDepth 100000
set_option maxHeartbeats 4000000

theorem rFloor_c (n d : Int) (h : Due (1 ≤ d ∧ d ≤ 9223372036854775807 ∧ -9223372036854775808 ≤ n ∧ n ≤ 9223372036854775807)) : TC R Try.prog R2_Floor_f [.int .i64 n, .int .i64 d] [] (fun v X => v = .int .i64 (n / d) ∧ X = []) := by
  dsimp only [Due] at h
  have hd : 0 < d := by omega
  have hq := quo_bd (a := n) hd
  have hr := quo_rem n d
  have hb := rem_bd (a := n) hd
  have hc : quo n d * d = d * quo n d := Int.mul_comm _ _
  have hf : rem n d < 0 → -9223372036854775808 ≤ quo n d - 1 := fun h1 => by
    rw [quo_fl1 hd h1]
    have h2 : d * (n / d) + n % d = n := Int.mul_ediv_add_emod n d
    have h3 := Int.emod_nonneg n (show d ≠ 0 by omega)
    have h4 := Int.emod_lt_of_pos n hd
    by_cases e : d = 1
    · subst e; omega
    · rcases Int.lt_or_le (n / d) (-9223372036854775808) with h5 | h5
      · have : d * (n / d) ≤ 2 * (n / d) := by
          have := Int.mul_le_mul_of_nonneg_right (show (2 : Int) ≤ d by omega) (show 0 ≤ -(n / d) by omega)
          rw [Int.mul_neg, Int.mul_neg] at this
          omega
        omega
      · exact h5
  refine tc0 env R2_Floor_s (by rfl) ?_
  dsimp only [R2_Floor_c]
  repeat' (first
    | refine GZ ?_ ?_ ?_ ?_ ?_ ?_ ?_ ?_
    | with_reducible first | exact BzZq.mk | refine Tw.ret ?_ | refine ImZq.i fun h => ?_ | refine IkZq.i fun hk => ?_)
  · exact ⟨rfl, by rw [quo_fl1 hd (by omega)], rfl⟩
  · exact ⟨rfl, by rw [quo_fl hd (by omega)], rfl⟩

/-- The remainder, for every number. -/
theorem rMod_c (n m : Int) (h : Due (1 ≤ m ∧ m ≤ 9223372036854775807 ∧ -9223372036854775808 ≤ n ∧ n ≤ 9223372036854775807)) : TC R Try.prog R2_Mod_f [.int .i64 n, .int .i64 m] [] (fun v X => v = .int .i64 (n % m) ∧ X = []) := by
  dsimp only [Due] at h
  have h1 := Int.emod_nonneg n (show m ≠ 0 by omega)
  have h2 := Int.emod_lt_of_pos n (show 0 < m by omega)
  have h3 : m * (n / m) + n % m = n := Int.mul_ediv_add_emod n m
  refine tc0 env R2_Mod_s (by rfl) ?_
  dsimp only [R2_Mod_c]
  repeat' (first
    | refine GZ ?_ ?_ ?_ ?_ ?_ ?_ ?_ ?_
    | with_reducible first | exact BzZq.mk | refine Tw.ret ?_ | refine ImZq.i fun h => ?_ | refine IkZq.i fun hk => ?_)
  refine TOps.call env (by rfl) (by rfl) (by rfl) (rFloor_c _ _ h) ?_
  rintro _ _ ⟨rfl, rfl⟩
  refine TOps.wrap env (by rfl) ?_
  refine TOps.wrap env (by rfl) ?_
  rw [wrap_sub (by omega), show n - m * (n / m) = n % m by omega]
  repeat' (first
    | refine GZ ?_ ?_ ?_ ?_ ?_ ?_ ?_ ?_
    | with_reducible first | exact BzZq.mk | refine Tw.ret ?_ | refine ImZq.i fun h => ?_ | refine IkZq.i fun hk => ?_)
  exact ⟨rfl, rfl, rfl⟩
end Go.Proofs.Ytbaepacihkgalaa
