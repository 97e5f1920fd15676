/- Round of the reference. -/
import Derived.Test.YthnfbdihihhoiaaRMod
import Derived.Test.YthnfbdihihhoiaaNear
namespace Go.Proofs.Ythnfbdihihhoiaa
open Go Go.Lite
set_option linter.unusedVariables false
set_option linter.unusedSimpArgs false
set_option maxRecDepth 100000
set_option maxHeartbeats 4000000

theorem near_fl {n d : Int} (hd : 0 < d) : near n d = if d ≤ 2 * (n - n / d * d) then n / d + 1 else n / d := by
  unfold near
  have h2 : d * (n / d) + n % d = n := Int.mul_ediv_add_emod n d
  have h3 := Int.emod_nonneg n (show d ≠ 0 by omega)
  have h4 := Int.emod_lt_of_pos n hd
  have hc : n / d * d = d * (n / d) := Int.mul_comm _ _
  rw [hc]
  generalize n / d = q at *
  generalize n % d = r at *
  have e : 2 * n + d = 2 * d * q + (2 * r + d) := by rw [← h2, Int.mul_add, ← Int.mul_assoc]; omega
  split
  · have : (2 * n + d) / (2 * d) = q + (2 * r + d) / (2 * d) := by rw [e, Int.add_comm, Int.add_mul_ediv_left _ _ (by omega), Int.add_comm]
    rw [this]
    have h5 : (2 * r + d) / (2 * d) = 1 := by
      have a := (Int.le_ediv_iff_mul_le (a := 1) (b := 2 * r + d) (c := 2 * d) (by omega)).2 (by omega)
      have b := (Int.ediv_lt_iff_lt_mul (a := 2 * r + d) (b := 2) (c := 2 * d) (by omega)).2 (by omega)
      omega
    rw [h5]
  · have : (2 * n + d) / (2 * d) = q + (2 * r + d) / (2 * d) := by rw [e, Int.add_comm, Int.add_mul_ediv_left _ _ (by omega), Int.add_comm]
    rw [this, Int.ediv_eq_zero_of_lt (by omega) (by omega), Int.add_zero]
theorem rRound_c (n d : Int) (h : Due (1 ≤ d ∧ d ≤ 1000000000000000000 ∧ -1000000000000000000 ≤ n ∧ n ≤ 1000000000000000000)) : TC R Try.prog R2_Round_f [.int .i64 n, .int .i64 d] [] (fun v X => v = .int .i64 (near n d) ∧ X = []) := by
  dsimp only [Due] at h
  have fc := rFloor_c n d (by unfold Due; omega)
  have h2 : d * (n / d) + n % d = n := Int.mul_ediv_add_emod n d
  have h3 := Int.emod_nonneg n (show d ≠ 0 by omega)
  have h4 := Int.emod_lt_of_pos n (show 0 < d by omega)
  have hc : n / d * d = d * (n / d) := Int.mul_comm _ _
  have b1 : -9223372036854775808 ≤ n / d * d ∧ n / d * d ≤ 9223372036854775807 := by omega
  have nf := near_fl (n := n) (show 0 < d by omega)
  have b2 : -9223372036854775808 ≤ n / d + 1 ∧ n / d + 1 ≤ 9223372036854775807 := by
    constructor
    · have := (Int.le_ediv_iff_mul_le (a := -1000000000000000001) (b := n) (c := d) (by omega)).2 (by omega)
      omega
    · have := (Int.ediv_lt_iff_lt_mul (a := n) (b := 1000000000000000001) (c := d) (by omega)).2 (by omega)
      omega
  generalize n / d = q at *
  generalize n % d = r at *
  refine tc0 env R2_Round_s (by rfl) ?_
  dsimp only [R2_Round_c]
  by_cases hh : d ≤ 2 * (n - q * d)
  · rw [if_pos hh] at nf
    rw [nf]
    repeat' (first
      | ((with_reducible refine TOps.any ?_); refine TOps.callV env (by rfl) (by rfl) (by rfl) (fc) ?_)
      | exact b1
      | with_reducible first | refine Tw.seq ?_ | refine Tw.reg ?_ | refine Tw.block ?_ | refine Tw.scope ?_ | refine Tw.skip ?_ | refine Tw.exit ?_ | refine Tw.ret ?_ | refine seqN ?_ | refine seqR ?_ | refine seqE ?_ | refine blkN ?_ | refine blkR ?_ | refine blkE1 ?_ | refine blkE0 (by kernel_rfl) ?_ | refine scpN ?_ | refine scpR ?_ | refine scpE ?_ | refine TOps.nil ?_ | exact Conj.nil | refine Conj.cons rfl ?_ | refine Conj.same ?_ | refine Conj.ask ?_ ?_ | refine Tw.regd env ?_ | refine TDr.nil ⟨by kernel_rfl, ?_⟩
      | ((with_reducible refine TOps.any ?_); first | refine TOps.frunP env (by rfl) (by rfl) ?_ ?_ | (refine TOps.known (by rfl) ?_; refine TOps.strip env (by rfl) (by rfl) ?_ ?_) | refine TOps.on (by rfl) (by rfl) ?_)
      | ((with_reducible refine TDr.any ?_); refine TDr.frunP env (by rfl) (by rfl) ?_ ?_)
      | ((with_reducible refine Tw.any ?_); first | refine Tw.condT (by rfl) ?_ | refine Tw.condF (by rfl) ?_)
      | ((first | ((with_reducible refine TOps.any ?_); (fail_if_success refine TOps.known (by rfl) ?_); refine TOps.ask (by rfl) (fun h => ?_) (fun h => ?_)) | ((with_reducible refine TDr.any ?_); (fail_if_success refine TDr.known (by first | rfl | assumption) ?_); refine TDr.ask (by rfl) (fun h hk => ?_) (fun h => ?_)) | ((with_reducible refine Tw.any ?_); refine Tw.cond (by rfl) (fun h => ?_) (fun h => ?_))) <;> (try simp only [goS] at h) <;> (try (exfalso; (try simp only [goP, reduceCtorEq] at h) <;> (first | assumption | omega | contradiction | (rcases h with ⟨_, _⟩ <;> first | contradiction | omega) | (rcases h with h | h <;> first | contradiction | omega)))))
      | ((with_reducible refine tret.any ?_); first | refine tret.ok (by rfl) ?_ | refine tret.okN (by rfl) ?_)
      | ((with_reducible refine Due.mk ?_); (first | with_reducible rfl | omega | assumption | decide | ((try simp only [goS] at *) <;> (try intro h) <;> (try intro h') <;> (try simp only [goS] at *) <;> (try simp only [rng]) <;> (first | assumption | omega)) | (exact due_app0 (by omega)) | (exact due_app (by omega)) | (intros; simp; done) | (intros; simp; omega)))
      | with_reducible refine Due.mk ?_
      | omega)
    all_goals first | exact ⟨rfl, rfl, rfl⟩ | trace_state
  · rw [if_neg hh] at nf
    rw [nf]
    repeat' (first
      | ((with_reducible refine TOps.any ?_); refine TOps.callV env (by rfl) (by rfl) (by rfl) (fc) ?_)
      | exact b1
      | with_reducible first | refine Tw.seq ?_ | refine Tw.reg ?_ | refine Tw.block ?_ | refine Tw.scope ?_ | refine Tw.skip ?_ | refine Tw.exit ?_ | refine Tw.ret ?_ | refine seqN ?_ | refine seqR ?_ | refine seqE ?_ | refine blkN ?_ | refine blkR ?_ | refine blkE1 ?_ | refine blkE0 (by kernel_rfl) ?_ | refine scpN ?_ | refine scpR ?_ | refine scpE ?_ | refine TOps.nil ?_ | exact Conj.nil | refine Conj.cons rfl ?_ | refine Conj.same ?_ | refine Conj.ask ?_ ?_ | refine Tw.regd env ?_ | refine TDr.nil ⟨by kernel_rfl, ?_⟩
      | ((with_reducible refine TOps.any ?_); first | refine TOps.frunP env (by rfl) (by rfl) ?_ ?_ | (refine TOps.known (by rfl) ?_; refine TOps.strip env (by rfl) (by rfl) ?_ ?_) | refine TOps.on (by rfl) (by rfl) ?_)
      | ((with_reducible refine TDr.any ?_); refine TDr.frunP env (by rfl) (by rfl) ?_ ?_)
      | ((with_reducible refine Tw.any ?_); first | refine Tw.condT (by rfl) ?_ | refine Tw.condF (by rfl) ?_)
      | ((first | ((with_reducible refine TOps.any ?_); (fail_if_success refine TOps.known (by rfl) ?_); refine TOps.ask (by rfl) (fun h => ?_) (fun h => ?_)) | ((with_reducible refine TDr.any ?_); (fail_if_success refine TDr.known (by first | rfl | assumption) ?_); refine TDr.ask (by rfl) (fun h hk => ?_) (fun h => ?_)) | ((with_reducible refine Tw.any ?_); refine Tw.cond (by rfl) (fun h => ?_) (fun h => ?_))) <;> (try simp only [goS] at h) <;> (try (exfalso; (try simp only [goP, reduceCtorEq] at h) <;> (first | assumption | omega | contradiction | (rcases h with ⟨_, _⟩ <;> first | contradiction | omega) | (rcases h with h | h <;> first | contradiction | omega)))))
      | ((with_reducible refine tret.any ?_); first | refine tret.ok (by rfl) ?_ | refine tret.okN (by rfl) ?_)
      | ((with_reducible refine Due.mk ?_); (first | with_reducible rfl | omega | assumption | decide | ((try simp only [goS] at *) <;> (try intro h) <;> (try intro h') <;> (try simp only [goS] at *) <;> (try simp only [rng]) <;> (first | assumption | omega)) | (exact due_app0 (by omega)) | (exact due_app (by omega)) | (intros; simp; done) | (intros; simp; omega)))
      | with_reducible refine Due.mk ?_
      | omega)
    all_goals first | exact ⟨rfl, rfl, rfl⟩ | trace_state
end Go.Proofs.Ythnfbdihihhoiaa
