/- The law RefspaceTriangle: a way over a third colour is not shorter, up to 1 in rounding. -/
import Derived.Test.YtfgaefpdccdfiaaRef1
import Derived.Test.YtfgaefpdccdfiaaRefW
import Derived.Test.YtfgaefpdccdfiaaXRefspaceTriangle0
namespace Go.Proofs.Ytfgaefpdccdfiaa
open Go Go.Lite
set_option linter.unusedVariables false
set_option linter.unusedSimpArgs false
set_option maxRecDepth 100000
set_option maxHeartbeats 4000000
-- @simp rdi

theorem lag (a b c x y z : Int) : (a * a + b * b + c * c) * (x * x + y * y + z * z) = (a * x + b * y + c * z) * (a * x + b * y + c * z) + ((a * y - b * x) * (a * y - b * x) + (a * z - c * x) * (a * z - c * x) + (b * z - c * y) * (b * z - c * y)) := by grind
theorem sq_nn (x : Int) : 0 ≤ x * x := by
  rcases Int.le_total 0 x with h | h
  · exact Int.mul_nonneg h h
  · rw [← Int.neg_mul_neg]; exact Int.mul_nonneg (by omega) (by omega)
theorem far_sym (l a b l' a' b' : Int) : far l a b l' a' b' = far l' a' b' l a b := by unfold far; grind

theorem tri {u1 u2 u3 v1 v2 v3 P Q S m n c : Int} (hP : P = u1 * u1 + u2 * u2 + u3 * u3) (hQ : Q = v1 * v1 + v2 * v2 + v3 * v3) (hS : S = (u1 + v1) * (u1 + v1) + (u2 + v2) * (u2 + v2) + (u3 + v3) * (u3 + v3))
    (hm : 0 ≤ m) (hn : 0 ≤ n) (h1 : P < (m + 1) * (m + 1)) (h2 : Q < (n + 1) * (n + 1)) (hc0 : 0 ≤ c) (hc : c * c ≤ S) : c ≤ m + n + 1 := by
  have hd : u1 * v1 + u2 * v2 + u3 * v3 < (m + 1) * (n + 1) := by
    have hk : 0 ≤ (m + 1) * (n + 1) := Int.mul_nonneg (by omega) (by omega)
    rcases Int.lt_or_le (u1 * v1 + u2 * v2 + u3 * v3) 0 with h | h
    · omega
    · refine sq_lt h ?_ hk
      have hl := lag u1 u2 u3 v1 v2 v3
      rw [← hP, ← hQ] at hl
      have g1 := sq_nn (u1 * v2 - u2 * v1)
      have g2 := sq_nn (u1 * v3 - u3 * v1)
      have g3 := sq_nn (u2 * v3 - u3 * v2)
      have p0 : 0 ≤ P := by have := sq_nn u1; have := sq_nn u2; have := sq_nn u3; omega
      have q0 : 0 ≤ Q := by have := sq_nn v1; have := sq_nn v2; have := sq_nn v3; omega
      have k1 : P * Q ≤ P * ((n + 1) * (n + 1)) := Int.mul_le_mul_of_nonneg_left (by omega) p0
      have k2 : P * ((n + 1) * (n + 1)) < (m + 1) * (m + 1) * ((n + 1) * (n + 1)) := Int.mul_lt_mul_of_pos_right h1 (Int.mul_pos (by omega) (by omega))
      have k3 : (m + 1) * (m + 1) * ((n + 1) * (n + 1)) = (m + 1) * (n + 1) * ((m + 1) * (n + 1)) := by grind
      omega
  have hS' : S = P + Q + 2 * (u1 * v1 + u2 * v2 + u3 * v3) := by rw [hS, hP, hQ]; grind
  have hfin : (m + n + 2) * (m + n + 2) = (m + 1) * (m + 1) + (n + 1) * (n + 1) + 2 * ((m + 1) * (n + 1)) := by grind
  have := sq_lt (a := c) (b := m + n + 2) hc0 (by omega) (by omega)
  omega

theorem far_tri {a b c a' b' c' a'' b'' c'' : Int} (h : labOk a b c) (h' : labOk a' b' c') (h'' : labOk a'' b'' c'') : rt (far a b c a'' b'' c'') ≤ rt (far a b c a' b' c') + rt (far a' b' c' a'' b'' c'') + 1 := by
  have k1 := far_bd h h'
  have k2 := far_bd h' h''
  have k3 := far_bd h h''
  have r1 := rt_bd k1.1 (by omega)
  have r2 := rt_bd k2.1 (by omega)
  have r3 := rt_bd k3.1 (by omega)
  refine tri (u1 := a - a') (u2 := b - b') (u3 := c - c') (v1 := a' - a'') (v2 := b' - b'') (v3 := c' - c'') (P := far a b c a' b' c') (Q := far a' b' c' a'' b'' c'') (S := far a b c a'' b'' c'') rfl rfl ?_ r1.1 r2.1 r1.2.2.2 r2.2.2.2 r3.1 r3.2.2.1
  unfold far
  rw [show a - a' + (a' - a'') = a - a'' by omega, show b - b' + (b' - b'') = b - b'' by omega, show c - c' + (c' - c'') = c - c'' by omega]

theorem RefspaceTriangle_law (l1 a1 b1 l2 a2 b2 l3 a3 b3 : Int) (_ : rng .i64 l1) (_ : rng .i64 a1) (_ : rng .i64 b1) (_ : rng .i64 l2) (_ : rng .i64 a2) (_ : rng .i64 b2) (_ : rng .i64 l3) (_ : rng .i64 a3) (_ : rng .i64 b3) :
    TC R Try.prog K2_RefspaceTriangle_f [.agg [.int .i64 l1, .int .i64 a1, .int .i64 b1], .agg [.int .i64 l2, .int .i64 a2, .int .i64 b2], .agg [.int .i64 l3, .int .i64 a3, .int .i64 b3]] [] (fun v X => v = .bool true ∧ X = []) := by
  have key : ∀ {l a b l' a' b' : Int}, labOk l a b → labOk l' a' b' → 0 ≤ rt (far l a b l' a' b') ∧ rt (far l a b l' a' b') ≤ 37561 := fun {l a b l' a' b'} h h' => by
    have k := far_bd h h'
    have r := rt_bd k.1 (by omega)
    have := sq_lt (a := rt (far l a b l' a' b')) (b := 37561) r.1 (by omega) (by omega)
    omega
  have dist : ∀ (l a b l' a' b' : Int), ∃ D E : Int, TC R Try.prog refspace_Distance_f [.agg [.int .i64 l, .int .i64 a, .int .i64 b], .agg [.int .i64 l', .int .i64 a', .int .i64 b']] [] (fun v X => v = .tup [.int .i64 D, .int .i64 E] ∧ X = []) ∧
      (labOk l a b ∧ labOk l' a' b' → E = 0 ∧ D = rt (far l a b l' a' b')) ∧ (E = 0 → labOk l a b ∧ labOk l' a' b') ∧ (E ≠ 0 → D = 0) ∧ 0 ≤ D ∧ D ≤ 37561 := by
    intro l a b l' a' b'
    by_cases h : labOk l a b ∧ labOk l' a' b'
    · exact ⟨rt (far l a b l' a' b'), 0, by have := distance_c l a b l' a' b'; rwa [if_pos h, if_pos h] at this, fun _ => ⟨rfl, rfl⟩, fun _ => h, fun e => absurd rfl e, key h.1 h.2⟩
    · exact ⟨0, 3, by have := distance_c l a b l' a' b'; rwa [if_neg h, if_neg h] at this, fun hh => absurd hh h, fun e => by omega, fun _ => rfl, by omega, by omega⟩
  obtain ⟨D1, E1, d1, p1, q1, z1, k1⟩ := dist l1 a1 b1 l2 a2 b2
  obtain ⟨D2, E2, d2, p2, q2, z2, k2⟩ := dist l2 a2 b2 l3 a3 b3
  obtain ⟨D3, E3, d3, p3, q3, z3, k3⟩ := dist l1 a1 b1 l3 a3 b3
  obtain ⟨D4, E4, d4, p4, q4, z4, k4⟩ := dist l3 a3 b3 l1 a1 b1
  have m1 : 0 ≤ D1 * D2 ∧ D1 * D2 ≤ 37561 * 37561 := ⟨Int.mul_nonneg k1.1 k2.1, Int.mul_le_mul k1.2 k2.2 k2.1 (by omega)⟩
  have m2 : 0 ≤ D1 * D2 * D3 ∧ D1 * D2 * D3 ≤ 37561 * 37561 * 37561 := ⟨Int.mul_nonneg m1.1 k3.1, Int.mul_le_mul m1.2 k3.2 k3.1 (by omega)⟩
  refine tc0 env K2_RefspaceTriangle_s (by rfl) ?_
  dsimp only [K2_RefspaceTriangle_c]
  repeat' (first
    | ((with_reducible refine TOps.any ?_); refine TOps.callV env (by rfl) (by rfl) (by rfl) (refWorks_c) ?_)
    | ((with_reducible refine TOps.any ?_); refine TOps.callV env (by rfl) (by rfl) (by rfl) (d1) ?_)
    | ((with_reducible refine TOps.any ?_); refine TOps.callV env (by rfl) (by rfl) (by rfl) (d2) ?_)
    | ((with_reducible refine TOps.any ?_); refine TOps.callV env (by rfl) (by rfl) (by rfl) (d3) ?_)
    | ((with_reducible refine TOps.any ?_); refine TOps.callV env (by rfl) (by rfl) (by rfl) (d4) ?_)
    | with_reducible refine Tw.seq ?_
    | with_reducible refine Tw.reg ?_
    | with_reducible refine Tw.block ?_
    | with_reducible refine Tw.scope ?_
    | with_reducible refine Tw.skip ?_
    | with_reducible refine Tw.exit ?_
    | with_reducible refine Tw.ret ?_
    | with_reducible refine seqN ?_
    | with_reducible refine seqR ?_
    | with_reducible refine seqE ?_
    | with_reducible refine blkN ?_
    | with_reducible refine blkR ?_
    | with_reducible refine blkE1 ?_
    | with_reducible refine blkE0 (by kernel_rfl) ?_
    | with_reducible refine scpN ?_
    | with_reducible refine scpR ?_
    | with_reducible refine scpE ?_
    | with_reducible refine TOps.nil ?_
    | with_reducible exact Conj.nil
    | with_reducible refine Conj.cons rfl ?_
    | with_reducible refine Conj.same ?_
    | with_reducible refine Conj.ask ?_ ?_
    | ((with_reducible refine TOps.any ?_); refine TOps.frunP env (by rfl) (by rfl) ?_ ?_)
    | with_reducible refine Tw.regd env ?_
    | ((with_reducible refine TDr.any ?_); refine TDr.frunP env (by rfl) (by rfl) ?_ ?_)
    | with_reducible refine TDr.nil ⟨by kernel_rfl, ?_⟩
    | ((with_reducible refine TOps.any ?_); refine TOps.strip env (by rfl) (by rfl) ?_ ?_)
    | ((with_reducible refine TOps.any ?_); (fail_if_success refine TOps.known (by rfl) ?_); refine TOps.ask (by rfl) (fun h => ?_) (fun h => ?_) <;> (try simp only [decide_eq_true_eq, decide_eq_false_iff_not, Bool.or_eq_true, Bool.and_eq_true, Bool.or_eq_false_iff, Bool.and_eq_false_iff, Bool.not_eq_true', Bool.not_eq_false', Int.not_lt, Int.not_le, Int.toNat_natCast, Int.toNat_zero, cond_false, cond_true, Bool.not_not] at h) <;> (try simp only [rdi, Int.toNat_natCast, Nat.add_zero] at h))
    | ((with_reducible refine Tw.any ?_); refine Tw.condT (by rfl) ?_)
    | ((with_reducible refine Tw.any ?_); refine Tw.condF (by rfl) ?_)
    | ((with_reducible refine Tw.any ?_); refine Tw.cond (by rfl) (fun h => ?_) (fun h => ?_) <;> (try simp only [decide_eq_true_eq, decide_eq_false_iff_not, Bool.or_eq_true, Bool.and_eq_true, Bool.or_eq_false_iff, Bool.and_eq_false_iff, Bool.not_eq_true', Bool.not_eq_false', Int.not_lt, Int.not_le, Int.toNat_natCast, Int.toNat_zero, cond_false, cond_true, Bool.not_not] at h) <;> (try simp only [rdi, Int.toNat_natCast, Nat.add_zero] at h))
    | ((with_reducible refine tret.any ?_); first | refine tret.ok (by rfl) ?_ | refine tret.okN (by rfl) ?_)
    | ((with_reducible refine Due.mk ?_); (first | with_reducible rfl | omega | assumption | decide | ((try simp only [decide_eq_true_eq, decide_eq_false_iff_not, Bool.or_eq_true, Bool.and_eq_true, Bool.or_eq_false_iff, Bool.and_eq_false_iff, Bool.not_eq_true', Bool.not_eq_false', Int.not_lt, Int.not_le, Int.toNat_natCast, Int.toNat_zero, cond_false, cond_true, Bool.not_not] at *) <;> (try intro h) <;> (try intro h') <;> (try simp only [decide_eq_true_eq, decide_eq_false_iff_not, Bool.or_eq_true, Bool.and_eq_true, Bool.or_eq_false_iff, Bool.and_eq_false_iff, Bool.not_eq_true', Bool.not_eq_false', Int.not_lt, Int.not_le, Int.toNat_natCast, Int.toNat_zero, cond_false, cond_true, Bool.not_not] at *) <;> (try simp only [rdi, Int.toNat_natCast, Nat.add_zero] at *) <;> (try simp only [rng]) <;> (first | assumption | omega)) | (intros; simp; done) | (intros; simp; omega)))
    | with_reducible refine Due.mk ?_
    | omega)
  · refine ⟨rfl, congrArg TV.bool (decide_eq_true ?_), rfl⟩
    rcases h with (h | h) | h
    · rw [z1 h, Int.zero_mul, Int.zero_mul]
    · rw [z2 h, Int.mul_zero, Int.zero_mul]
    · rw [z3 h, Int.mul_zero]
  · refine ⟨rfl, congrArg TV.bool ?_, rfl⟩
    obtain ⟨o1, o2⟩ := q1 (by omega)
    obtain ⟨_, o3⟩ := q2 (by omega)
    have e4 := p4 ⟨o3, o1⟩
    have ht := far_tri o1 o2 o3
    rw [← (p1 ⟨o1, o2⟩).2, ← (p2 ⟨o2, o3⟩).2, ← (p3 ⟨o1, o3⟩).2] at ht
    have e5 : D3 = D4 := by rw [(p3 ⟨o1, o3⟩).2, e4.2, far_sym]
    have e6 : E4 = 0 := e4.1
    simp only [Bool.and_eq_true, decide_eq_true_eq]
    omega
end Go.Proofs.Ytfgaefpdccdfiaa
