/- Round of the reference. -/
import Derived.Test.YtogbkhopanaoiaaRMod
import Derived.Test.YtogbkhopanaoiaaNear
import Derived.Test.YtogbkhopanaoiaaGo
namespace Go.Proofs.Ytogbkhopanaoiaa
open Go Go.Lite
set_option linter.unusedVariables false
set_option linter.unusedSimpArgs false
set_option maxRecDepth 100000
set_option maxHeartbeats 4000000

theorem near_fl {n d : Int} (hd : 0 < d) : near n d = if d ≤ 2 * (n - n / d * d) then n / d + 1 else n / d := by
  unfold near
  have h2 : d * (n / d) + n % d = n := Int.mul_ediv_add_emod n d
  have h3 := Int.emod_nonneg n (show d ≠ 0 by omega)
  have h4 := Int.emod_lt_of_pos n hd
  have hc : n / d * d = d * (n / d) := Int.mul_comm _ _
  rw [hc]
  generalize n / d = q at *
  generalize n % d = r at *
  have e : 2 * n + d = 2 * d * q + (2 * r + d) := by rw [← h2, Int.mul_add, ← Int.mul_assoc]; omega
  split
  · have : (2 * n + d) / (2 * d) = q + (2 * r + d) / (2 * d) := by rw [e, Int.add_comm, Int.add_mul_ediv_left _ _ (by omega), Int.add_comm]
    rw [this]
    have h5 : (2 * r + d) / (2 * d) = 1 := by
      have a := (Int.le_ediv_iff_mul_le (a := 1) (b := 2 * r + d) (c := 2 * d) (by omega)).2 (by omega)
      have b := (Int.ediv_lt_iff_lt_mul (a := 2 * r + d) (b := 2) (c := 2 * d) (by omega)).2 (by omega)
      omega
    rw [h5]
  · have : (2 * n + d) / (2 * d) = q + (2 * r + d) / (2 * d) := by rw [e, Int.add_comm, Int.add_mul_ediv_left _ _ (by omega), Int.add_comm]
    rw [this, Int.ediv_eq_zero_of_lt (by omega) (by omega), Int.add_zero]
theorem rRound_c (n d : Int) (h : Due (1 ≤ d ∧ d ≤ 1000000000000000000 ∧ -1000000000000000000 ≤ n ∧ n ≤ 1000000000000000000)) : TC R Try.prog R2_Round_f [.int .i64 n, .int .i64 d] [] (fun v X => v = .int .i64 (near n d) ∧ X = []) := by
  dsimp only [Due] at h
  have fc := rFloor_c n d (by unfold Due; omega)
  have h2 : d * (n / d) + n % d = n := Int.mul_ediv_add_emod n d
  have h3 := Int.emod_nonneg n (show d ≠ 0 by omega)
  have h4 := Int.emod_lt_of_pos n (show 0 < d by omega)
  have hc : n / d * d = d * (n / d) := Int.mul_comm _ _
  have b1 : -9223372036854775808 ≤ n / d * d ∧ n / d * d ≤ 9223372036854775807 := by omega
  have nf := near_fl (n := n) (show 0 < d by omega)
  have b2 : -9223372036854775808 ≤ n / d + 1 ∧ n / d + 1 ≤ 9223372036854775807 := by
    constructor
    · have := (Int.le_ediv_iff_mul_le (a := -1000000000000000001) (b := n) (c := d) (by omega)).2 (by omega)
      omega
    · have := (Int.ediv_lt_iff_lt_mul (a := n) (b := 1000000000000000001) (c := d) (by omega)).2 (by omega)
      omega
  generalize n / d = q at *
  generalize n % d = r at *
  refine tc0 env R2_Round_s (by rfl) ?_
  dsimp only [R2_Round_c]
  by_cases hh : d ≤ 2 * (n - q * d)
  · rw [if_pos hh] at nf
    rw [nf]
    repeat' (first
      | ((with_reducible refine TOps.any ?_); refine TOps.callV env (by rfl) (by rfl) (by rfl) (fc) ?_)
      | exact b1
      | refine GZp ?_ ?_ ?_ ?_ ?_ ?_ ?_ ?_
      | with_reducible first | exact BzZq.mk | refine Tw.ret ?_ | refine ImZq.i fun h => ?_ | refine IkZq.i fun hk => ?_)
    all_goals first | exact ⟨rfl, rfl, rfl⟩ | trace_state
  · rw [if_neg hh] at nf
    rw [nf]
    repeat' (first
      | ((with_reducible refine TOps.any ?_); refine TOps.callV env (by rfl) (by rfl) (by rfl) (fc) ?_)
      | exact b1
      | refine GZp ?_ ?_ ?_ ?_ ?_ ?_ ?_ ?_
      | with_reducible first | exact BzZq.mk | refine Tw.ret ?_ | refine ImZq.i fun h => ?_ | refine IkZq.i fun hk => ?_)
    all_goals first | exact ⟨rfl, rfl, rfl⟩ | trace_state
end Go.Proofs.Ytogbkhopanaoiaa
