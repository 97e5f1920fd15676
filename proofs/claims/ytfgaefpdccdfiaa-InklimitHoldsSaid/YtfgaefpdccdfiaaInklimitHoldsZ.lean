/- The law InklimitHolds: a limited vector keeps the limit, and is not changed again. -/
import Derived.Test.YtfgaefpdccdfiaaInk2
import Derived.Test.YtfgaefpdccdfiaaInkW
import Derived.Test.YtfgaefpdccdfiaaRInts
import Derived.Test.YtfgaefpdccdfiaaXInklimitHolds0
namespace Go.Proofs.Ytfgaefpdccdfiaa
open Go Go.Lite
set_option linter.unusedVariables false
set_option linter.unusedSimpArgs false
set_option maxRecDepth 100000
set_option maxHeartbeats 4000000
-- @simp rdi

theorem InklimitHolds_law (t : List Int) (b T : Int) (wt : t.length ≤ 9223372036854775807 ∧ ∀ y ∈ t, Wi y) (wb : rng .i64 b) (wT : rng .i64 T) :
    TC R Try.prog K2_InklimitHolds_f [.lst Ei t, .int .i64 b, .int .i64 T] [] (fun v X => v = .bool true ∧ X = []) := by
  refine tc0 env K2_InklimitHolds_s (by rfl) ?_
  dsimp only [K2_InklimitHolds_c]
  by_cases h : inkE t = 0 ∧ -1 ≤ b ∧ b < t.length ∧ 0 ≤ T ∧ T ≤ 2040
  · obtain ⟨h1, h2, h3, h4, h5⟩ := h
    obtain ⟨g1, g2⟩ := inkE_ok.1 h1
    have ok : InkOk t b T := ⟨g2, ⟨h2, h3⟩, ⟨h4, h5⟩⟩
    have y1 := limit_y t b T ok h1
    have hs := quickL_sum ok
    have hl := quickL_len t b T
    have ht := quickL_tone ok
    have hq := quickL_twice ok
    have hb := fun i hi => quickL_bd ok (i := i) hi
    have hm := fun i j hi hj => quickL_mono ok (i := i) (j := j) hi hj
    generalize quickL t b T = l at *
    have e2 : inkE l = 0 := inkE_ok.2 ⟨by omega, ht⟩
    have y2 := limit_y l b T ⟨ht, ⟨h2, by omega⟩, ⟨h4, h5⟩⟩ e2
    rw [hq] at y2
    have y3 := inkTotal_c l (by unfold Due; omega)
    rw [if_pos e2, e2] at y3
    have y4 := sameInts_c l l (by unfold Due; omega)
    rw [show decide (l = l) = true from decide_eq_true rfl] at y4
    have hsb := sumL_bd ht (by omega)
    repeat' (first
      | ((with_reducible refine TOps.any ?_); refine TOps.callV env (by rfl) (by rfl) (by rfl) (inkWorks_c) ?_)
      | ((with_reducible refine TOps.any ?_); refine TOps.callV env (by rfl) (by rfl) (by rfl) (y1) ?_)
      | ((with_reducible refine TOps.any ?_); refine TOps.callV env (by rfl) (by rfl) (by rfl) (y2) ?_)
      | ((with_reducible refine TOps.any ?_); refine TOps.callV env (by rfl) (by rfl) (by rfl) (y3) ?_)
      | ((with_reducible refine TOps.any ?_); refine TOps.callV env (by rfl) (by rfl) (by rfl) (y4) ?_)
      | with_reducible refine Tw.seq ?_
      | with_reducible refine Tw.reg ?_
      | with_reducible refine Tw.block ?_
      | with_reducible refine Tw.scope ?_
      | with_reducible refine Tw.skip ?_
      | with_reducible refine Tw.exit ?_
      | with_reducible refine Tw.ret ?_
      | with_reducible refine seqN ?_
      | with_reducible refine seqR ?_
      | with_reducible refine seqE ?_
      | with_reducible refine blkN ?_
      | with_reducible refine blkR ?_
      | with_reducible refine blkE1 ?_
      | with_reducible refine blkE0 (by kernel_rfl) ?_
      | with_reducible refine scpN ?_
      | with_reducible refine scpR ?_
      | with_reducible refine scpE ?_
      | with_reducible refine TOps.nil ?_
      | with_reducible exact Conj.nil
      | with_reducible refine Conj.cons rfl ?_
      | with_reducible refine Conj.same ?_
      | with_reducible refine Conj.ask ?_ ?_
      | ((with_reducible refine TOps.any ?_); refine TOps.frunP env (by rfl) (by rfl) ?_ ?_)
      | with_reducible refine Tw.regd env ?_
      | ((with_reducible refine TDr.any ?_); refine TDr.frunP env (by rfl) (by rfl) ?_ ?_)
      | with_reducible refine TDr.nil ⟨by kernel_rfl, ?_⟩
      | ((with_reducible refine TOps.any ?_); refine TOps.strip env (by rfl) (by rfl) ?_ ?_)
      | ((with_reducible refine TOps.any ?_); (fail_if_success refine TOps.known (by rfl) ?_); refine TOps.ask (by rfl) (fun h => ?_) (fun h => ?_) <;> (try simp only [decide_eq_true_eq, decide_eq_false_iff_not, Bool.or_eq_true, Bool.and_eq_true, Bool.or_eq_false_iff, Bool.and_eq_false_iff, Bool.not_eq_true', Bool.not_eq_false', Int.not_lt, Int.not_le, Int.toNat_natCast, Int.toNat_zero, cond_false, cond_true, Bool.not_not] at h) <;> (try simp only [rdi, Int.toNat_natCast, Nat.add_zero] at h) <;> (try (exfalso; (try simp only [and_true, true_and, or_false, false_or, not_true_eq_false, not_false_eq_true, decide_true, Bool.not_true, Bool.false_eq_true, reduceCtorEq] at h); first | assumption | omega)))
      | ((with_reducible refine TDr.any ?_); (fail_if_success refine TDr.known (by first | rfl | assumption) ?_); refine TDr.ask (by rfl) (fun h hk => ?_) (fun h => ?_) <;> (try simp only [decide_eq_true_eq, decide_eq_false_iff_not, Bool.or_eq_true, Bool.and_eq_true, Bool.or_eq_false_iff, Bool.and_eq_false_iff, Bool.not_eq_true', Bool.not_eq_false', Int.not_lt, Int.not_le, Int.toNat_natCast, Int.toNat_zero, cond_false, cond_true, Bool.not_not] at h) <;> (try simp only [rdi, Int.toNat_natCast, Nat.add_zero] at h) <;> (try (exfalso; (try simp only [and_true, true_and, or_false, false_or, not_true_eq_false, not_false_eq_true, decide_true, Bool.not_true, Bool.false_eq_true, reduceCtorEq] at h); first | assumption | omega)))
      | ((with_reducible refine Tw.any ?_); refine Tw.condT (by rfl) ?_)
      | ((with_reducible refine Tw.any ?_); refine Tw.condF (by rfl) ?_)
      | ((with_reducible refine Tw.any ?_); refine Tw.cond (by rfl) (fun h => ?_) (fun h => ?_) <;> (try simp only [decide_eq_true_eq, decide_eq_false_iff_not, Bool.or_eq_true, Bool.and_eq_true, Bool.or_eq_false_iff, Bool.and_eq_false_iff, Bool.not_eq_true', Bool.not_eq_false', Int.not_lt, Int.not_le, Int.toNat_natCast, Int.toNat_zero, cond_false, cond_true, Bool.not_not] at h) <;> (try simp only [rdi, Int.toNat_natCast, Nat.add_zero] at h) <;> (try (exfalso; (try simp only [and_true, true_and, or_false, false_or, not_true_eq_false, not_false_eq_true, decide_true, Bool.not_true, Bool.false_eq_true, reduceCtorEq] at h); first | assumption | omega)))
      | ((with_reducible refine tret.any ?_); first | refine tret.ok (by rfl) ?_ | refine tret.okN (by rfl) ?_)
      | ((with_reducible refine Due.mk ?_); (first | with_reducible rfl | omega | assumption | decide | ((try simp only [decide_eq_true_eq, decide_eq_false_iff_not, Bool.or_eq_true, Bool.and_eq_true, Bool.or_eq_false_iff, Bool.and_eq_false_iff, Bool.not_eq_true', Bool.not_eq_false', Int.not_lt, Int.not_le, Int.toNat_natCast, Int.toNat_zero, cond_false, cond_true, Bool.not_not] at *) <;> (try intro h) <;> (try intro h') <;> (try simp only [decide_eq_true_eq, decide_eq_false_iff_not, Bool.or_eq_true, Bool.and_eq_true, Bool.or_eq_false_iff, Bool.and_eq_false_iff, Bool.not_eq_true', Bool.not_eq_false', Int.not_lt, Int.not_le, Int.toNat_natCast, Int.toNat_zero, cond_false, cond_true, Bool.not_not] at *) <;> (try simp only [rdi, Int.toNat_natCast, Nat.add_zero] at *) <;> (try simp only [rng]) <;> (first | assumption | omega)) | (intros; simp; done) | (intros; simp; omega)))
      | with_reducible refine Due.mk ?_
      | omega)
    refine Tw.loopK [0, 1, 7, 67, 68] (fun i : Nat => i ≤ t.length) (fun i => t.length - i) (fun i => [(69, .int .i64 i)]) (fun _ => []) ⟨0, by omega, TWk.fcanon env [] (by rfl) ?_⟩ (fun i hi => ?_)
    · repeat' (first
        | with_reducible refine Tw.seq ?_
        | with_reducible refine Tw.reg ?_
        | with_reducible refine Tw.block ?_
        | with_reducible refine Tw.scope ?_
        | with_reducible refine Tw.skip ?_
        | with_reducible refine Tw.exit ?_
        | with_reducible refine Tw.ret ?_
        | with_reducible refine seqN ?_
        | with_reducible refine seqR ?_
        | with_reducible refine seqE ?_
        | with_reducible refine blkN ?_
        | with_reducible refine blkR ?_
        | with_reducible refine blkE1 ?_
        | with_reducible refine blkE0 (by kernel_rfl) ?_
        | with_reducible refine scpN ?_
        | with_reducible refine scpR ?_
        | with_reducible refine scpE ?_
        | with_reducible refine TOps.nil ?_
        | with_reducible exact Conj.nil
        | with_reducible refine Conj.cons rfl ?_
        | with_reducible refine Conj.same ?_
        | with_reducible refine Conj.ask ?_ ?_
        | ((with_reducible refine TOps.any ?_); refine TOps.frunP env (by rfl) (by rfl) ?_ ?_)
        | with_reducible refine Tw.regd env ?_
        | ((with_reducible refine TDr.any ?_); refine TDr.frunP env (by rfl) (by rfl) ?_ ?_)
        | with_reducible refine TDr.nil ⟨by kernel_rfl, ?_⟩
        | ((with_reducible refine TOps.any ?_); refine TOps.strip env (by rfl) (by rfl) ?_ ?_)
        | ((with_reducible refine TOps.any ?_); (fail_if_success refine TOps.known (by rfl) ?_); refine TOps.ask (by rfl) (fun h => ?_) (fun h => ?_) <;> (try simp only [decide_eq_true_eq, decide_eq_false_iff_not, Bool.or_eq_true, Bool.and_eq_true, Bool.or_eq_false_iff, Bool.and_eq_false_iff, Bool.not_eq_true', Bool.not_eq_false', Int.not_lt, Int.not_le, Int.toNat_natCast, Int.toNat_zero, cond_false, cond_true, Bool.not_not] at h) <;> (try simp only [rdi, Int.toNat_natCast, Nat.add_zero] at h))
        | ((with_reducible refine TDr.any ?_); (fail_if_success refine TDr.known (by first | rfl | assumption) ?_); refine TDr.ask (by rfl) (fun h hk => ?_) (fun h => ?_) <;> (try simp only [decide_eq_true_eq, decide_eq_false_iff_not, Bool.or_eq_true, Bool.and_eq_true, Bool.or_eq_false_iff, Bool.and_eq_false_iff, Bool.not_eq_true', Bool.not_eq_false', Int.not_lt, Int.not_le, Int.toNat_natCast, Int.toNat_zero, cond_false, cond_true, Bool.not_not] at h) <;> (try simp only [rdi, Int.toNat_natCast, Nat.add_zero] at h))
        | ((with_reducible refine Tw.any ?_); refine Tw.condT (by rfl) ?_)
        | ((with_reducible refine Tw.any ?_); refine Tw.condF (by rfl) ?_)
        | ((with_reducible refine Tw.any ?_); refine Tw.cond (by rfl) (fun h => ?_) (fun h => ?_) <;> (try simp only [decide_eq_true_eq, decide_eq_false_iff_not, Bool.or_eq_true, Bool.and_eq_true, Bool.or_eq_false_iff, Bool.and_eq_false_iff, Bool.not_eq_true', Bool.not_eq_false', Int.not_lt, Int.not_le, Int.toNat_natCast, Int.toNat_zero, cond_false, cond_true, Bool.not_not] at h) <;> (try simp only [rdi, Int.toNat_natCast, Nat.add_zero] at h))
        | ((with_reducible refine tret.any ?_); first | refine tret.ok (by rfl) ?_ | refine tret.okN (by rfl) ?_)
        | ((with_reducible refine Due.mk ?_); (first | with_reducible rfl | omega | assumption | decide | ((try simp only [decide_eq_true_eq, decide_eq_false_iff_not, Bool.or_eq_true, Bool.and_eq_true, Bool.or_eq_false_iff, Bool.and_eq_false_iff, Bool.not_eq_true', Bool.not_eq_false', Int.not_lt, Int.not_le, Int.toNat_natCast, Int.toNat_zero, cond_false, cond_true, Bool.not_not] at *) <;> (try intro h) <;> (try intro h') <;> (try simp only [decide_eq_true_eq, decide_eq_false_iff_not, Bool.or_eq_true, Bool.and_eq_true, Bool.or_eq_false_iff, Bool.and_eq_false_iff, Bool.not_eq_true', Bool.not_eq_false', Int.not_lt, Int.not_le, Int.toNat_natCast, Int.toNat_zero, cond_false, cond_true, Bool.not_not] at *) <;> (try simp only [rdi, Int.toNat_natCast, Nat.add_zero] at *) <;> (try simp only [rng]) <;> (first | assumption | omega)) | (intros; simp; done) | (intros; simp; omega)))
        | with_reducible refine Due.mk ?_
        | omega)
    rcases Nat.lt_or_ge i t.length with hi | hi
    · have hbi := hb i hi
      repeat' (first
        | with_reducible refine Tw.seq ?_
        | with_reducible refine Tw.reg ?_
        | with_reducible refine Tw.block ?_
        | with_reducible refine Tw.scope ?_
        | with_reducible refine Tw.skip ?_
        | with_reducible refine Tw.exit ?_
        | with_reducible refine Tw.ret ?_
        | with_reducible refine seqN ?_
        | with_reducible refine seqR ?_
        | with_reducible refine seqE ?_
        | with_reducible refine blkN ?_
        | with_reducible refine blkR ?_
        | with_reducible refine blkE1 ?_
        | with_reducible refine blkE0 (by kernel_rfl) ?_
        | with_reducible refine scpN ?_
        | with_reducible refine scpR ?_
        | with_reducible refine scpE ?_
        | with_reducible refine TOps.nil ?_
        | with_reducible exact Conj.nil
        | with_reducible refine Conj.cons rfl ?_
        | with_reducible refine Conj.same ?_
        | with_reducible refine Conj.ask ?_ ?_
        | ((with_reducible refine TOps.any ?_); refine TOps.frunP env (by rfl) (by rfl) ?_ ?_)
        | with_reducible refine Tw.regd env ?_
        | ((with_reducible refine TDr.any ?_); refine TDr.frunP env (by rfl) (by rfl) ?_ ?_)
        | with_reducible refine TDr.nil ⟨by kernel_rfl, ?_⟩
        | ((with_reducible refine TOps.any ?_); refine TOps.strip env (by rfl) (by rfl) ?_ ?_)
        | ((with_reducible refine TOps.any ?_); (fail_if_success refine TOps.known (by rfl) ?_); refine TOps.ask (by rfl) (fun h => ?_) (fun h => ?_) <;> (try simp only [decide_eq_true_eq, decide_eq_false_iff_not, Bool.or_eq_true, Bool.and_eq_true, Bool.or_eq_false_iff, Bool.and_eq_false_iff, Bool.not_eq_true', Bool.not_eq_false', Int.not_lt, Int.not_le, Int.toNat_natCast, Int.toNat_zero, cond_false, cond_true, Bool.not_not] at h) <;> (try simp only [rdi, Int.toNat_natCast, Nat.add_zero] at h))
        | ((with_reducible refine TDr.any ?_); (fail_if_success refine TDr.known (by first | rfl | assumption) ?_); refine TDr.ask (by rfl) (fun h hk => ?_) (fun h => ?_) <;> (try simp only [decide_eq_true_eq, decide_eq_false_iff_not, Bool.or_eq_true, Bool.and_eq_true, Bool.or_eq_false_iff, Bool.and_eq_false_iff, Bool.not_eq_true', Bool.not_eq_false', Int.not_lt, Int.not_le, Int.toNat_natCast, Int.toNat_zero, cond_false, cond_true, Bool.not_not] at h) <;> (try simp only [rdi, Int.toNat_natCast, Nat.add_zero] at h))
        | ((with_reducible refine Tw.any ?_); refine Tw.condT (by rfl) ?_)
        | ((with_reducible refine Tw.any ?_); refine Tw.condF (by rfl) ?_)
        | ((with_reducible refine Tw.any ?_); refine Tw.cond (by rfl) (fun h => ?_) (fun h => ?_) <;> (try simp only [decide_eq_true_eq, decide_eq_false_iff_not, Bool.or_eq_true, Bool.and_eq_true, Bool.or_eq_false_iff, Bool.and_eq_false_iff, Bool.not_eq_true', Bool.not_eq_false', Int.not_lt, Int.not_le, Int.toNat_natCast, Int.toNat_zero, cond_false, cond_true, Bool.not_not] at h) <;> (try simp only [rdi, Int.toNat_natCast, Nat.add_zero] at h))
        | ((with_reducible refine tret.any ?_); first | refine tret.ok (by rfl) ?_ | refine tret.okN (by rfl) ?_)
        | ((with_reducible refine Due.mk ?_); (first | with_reducible rfl | omega | assumption | decide | ((try simp only [decide_eq_true_eq, decide_eq_false_iff_not, Bool.or_eq_true, Bool.and_eq_true, Bool.or_eq_false_iff, Bool.and_eq_false_iff, Bool.not_eq_true', Bool.not_eq_false', Int.not_lt, Int.not_le, Int.toNat_natCast, Int.toNat_zero, cond_false, cond_true, Bool.not_not] at *) <;> (try intro h) <;> (try intro h') <;> (try simp only [decide_eq_true_eq, decide_eq_false_iff_not, Bool.or_eq_true, Bool.and_eq_true, Bool.or_eq_false_iff, Bool.and_eq_false_iff, Bool.not_eq_true', Bool.not_eq_false', Int.not_lt, Int.not_le, Int.toNat_natCast, Int.toNat_zero, cond_false, cond_true, Bool.not_not] at *) <;> (try simp only [rdi, Int.toNat_natCast, Nat.add_zero] at *) <;> (try simp only [rng]) <;> (first | assumption | omega)) | (intros; simp; done) | (intros; simp; omega)))
        | with_reducible refine Due.mk ?_
        | omega)
      refine Tw.loopK [0, 1, 7, 67, 68, 69, 13, 14, 80, 81] (fun j : Nat => j ≤ t.length) (fun j => t.length - j) (fun j => [(82, .int .i64 j)]) (fun _ => []) ⟨0, by omega, TWk.fcanon env [] (by rfl) ?_⟩ (fun j hj => ?_)
      · repeat' (first
          | with_reducible refine Tw.seq ?_
          | with_reducible refine Tw.reg ?_
          | with_reducible refine Tw.block ?_
          | with_reducible refine Tw.scope ?_
          | with_reducible refine Tw.skip ?_
          | with_reducible refine Tw.exit ?_
          | with_reducible refine Tw.ret ?_
          | with_reducible refine seqN ?_
          | with_reducible refine seqR ?_
          | with_reducible refine seqE ?_
          | with_reducible refine blkN ?_
          | with_reducible refine blkR ?_
          | with_reducible refine blkE1 ?_
          | with_reducible refine blkE0 (by kernel_rfl) ?_
          | with_reducible refine scpN ?_
          | with_reducible refine scpR ?_
          | with_reducible refine scpE ?_
          | with_reducible refine TOps.nil ?_
          | with_reducible exact Conj.nil
          | with_reducible refine Conj.cons rfl ?_
          | with_reducible refine Conj.same ?_
          | with_reducible refine Conj.ask ?_ ?_
          | ((with_reducible refine TOps.any ?_); refine TOps.frunP env (by rfl) (by rfl) ?_ ?_)
          | with_reducible refine Tw.regd env ?_
          | ((with_reducible refine TDr.any ?_); refine TDr.frunP env (by rfl) (by rfl) ?_ ?_)
          | with_reducible refine TDr.nil ⟨by kernel_rfl, ?_⟩
          | ((with_reducible refine TOps.any ?_); refine TOps.strip env (by rfl) (by rfl) ?_ ?_)
          | ((with_reducible refine TOps.any ?_); (fail_if_success refine TOps.known (by rfl) ?_); refine TOps.ask (by rfl) (fun h => ?_) (fun h => ?_) <;> (try simp only [decide_eq_true_eq, decide_eq_false_iff_not, Bool.or_eq_true, Bool.and_eq_true, Bool.or_eq_false_iff, Bool.and_eq_false_iff, Bool.not_eq_true', Bool.not_eq_false', Int.not_lt, Int.not_le, Int.toNat_natCast, Int.toNat_zero, cond_false, cond_true, Bool.not_not] at h) <;> (try simp only [rdi, Int.toNat_natCast, Nat.add_zero] at h))
          | ((with_reducible refine TDr.any ?_); (fail_if_success refine TDr.known (by first | rfl | assumption) ?_); refine TDr.ask (by rfl) (fun h hk => ?_) (fun h => ?_) <;> (try simp only [decide_eq_true_eq, decide_eq_false_iff_not, Bool.or_eq_true, Bool.and_eq_true, Bool.or_eq_false_iff, Bool.and_eq_false_iff, Bool.not_eq_true', Bool.not_eq_false', Int.not_lt, Int.not_le, Int.toNat_natCast, Int.toNat_zero, cond_false, cond_true, Bool.not_not] at h) <;> (try simp only [rdi, Int.toNat_natCast, Nat.add_zero] at h))
          | ((with_reducible refine Tw.any ?_); refine Tw.condT (by rfl) ?_)
          | ((with_reducible refine Tw.any ?_); refine Tw.condF (by rfl) ?_)
          | ((with_reducible refine Tw.any ?_); refine Tw.cond (by rfl) (fun h => ?_) (fun h => ?_) <;> (try simp only [decide_eq_true_eq, decide_eq_false_iff_not, Bool.or_eq_true, Bool.and_eq_true, Bool.or_eq_false_iff, Bool.and_eq_false_iff, Bool.not_eq_true', Bool.not_eq_false', Int.not_lt, Int.not_le, Int.toNat_natCast, Int.toNat_zero, cond_false, cond_true, Bool.not_not] at h) <;> (try simp only [rdi, Int.toNat_natCast, Nat.add_zero] at h))
          | ((with_reducible refine tret.any ?_); first | refine tret.ok (by rfl) ?_ | refine tret.okN (by rfl) ?_)
          | ((with_reducible refine Due.mk ?_); (first | with_reducible rfl | omega | assumption | decide | ((try simp only [decide_eq_true_eq, decide_eq_false_iff_not, Bool.or_eq_true, Bool.and_eq_true, Bool.or_eq_false_iff, Bool.and_eq_false_iff, Bool.not_eq_true', Bool.not_eq_false', Int.not_lt, Int.not_le, Int.toNat_natCast, Int.toNat_zero, cond_false, cond_true, Bool.not_not] at *) <;> (try intro h) <;> (try intro h') <;> (try simp only [decide_eq_true_eq, decide_eq_false_iff_not, Bool.or_eq_true, Bool.and_eq_true, Bool.or_eq_false_iff, Bool.and_eq_false_iff, Bool.not_eq_true', Bool.not_eq_false', Int.not_lt, Int.not_le, Int.toNat_natCast, Int.toNat_zero, cond_false, cond_true, Bool.not_not] at *) <;> (try simp only [rdi, Int.toNat_natCast, Nat.add_zero] at *) <;> (try simp only [rng]) <;> (first | assumption | omega)) | (intros; simp; done) | (intros; simp; omega)))
          | with_reducible refine Due.mk ?_
          | omega)
      rcases Nat.lt_or_ge j t.length with hj | hj
      · have hmi := hm i j hi hj
        repeat' (first
          | with_reducible refine Tw.seq ?_
          | with_reducible refine Tw.reg ?_
          | with_reducible refine Tw.block ?_
          | with_reducible refine Tw.scope ?_
          | with_reducible refine Tw.skip ?_
          | with_reducible refine Tw.exit ?_
          | with_reducible refine Tw.ret ?_
          | with_reducible refine seqN ?_
          | with_reducible refine seqR ?_
          | with_reducible refine seqE ?_
          | with_reducible refine blkN ?_
          | with_reducible refine blkR ?_
          | with_reducible refine blkE1 ?_
          | with_reducible refine blkE0 (by kernel_rfl) ?_
          | with_reducible refine scpN ?_
          | with_reducible refine scpR ?_
          | with_reducible refine scpE ?_
          | with_reducible refine TOps.nil ?_
          | with_reducible exact Conj.nil
          | with_reducible refine Conj.cons rfl ?_
          | with_reducible refine Conj.same ?_
          | with_reducible refine Conj.ask ?_ ?_
          | ((with_reducible refine TOps.any ?_); refine TOps.frunP env (by rfl) (by rfl) ?_ ?_)
          | with_reducible refine Tw.regd env ?_
          | ((with_reducible refine TDr.any ?_); refine TDr.frunP env (by rfl) (by rfl) ?_ ?_)
          | with_reducible refine TDr.nil ⟨by kernel_rfl, ?_⟩
          | ((with_reducible refine TOps.any ?_); refine TOps.strip env (by rfl) (by rfl) ?_ ?_)
          | ((with_reducible refine TOps.any ?_); (fail_if_success refine TOps.known (by rfl) ?_); refine TOps.ask (by rfl) (fun h => ?_) (fun h => ?_) <;> (try simp only [decide_eq_true_eq, decide_eq_false_iff_not, Bool.or_eq_true, Bool.and_eq_true, Bool.or_eq_false_iff, Bool.and_eq_false_iff, Bool.not_eq_true', Bool.not_eq_false', Int.not_lt, Int.not_le, Int.toNat_natCast, Int.toNat_zero, cond_false, cond_true, Bool.not_not] at h) <;> (try simp only [rdi, Int.toNat_natCast, Nat.add_zero] at h))
          | ((with_reducible refine TDr.any ?_); (fail_if_success refine TDr.known (by first | rfl | assumption) ?_); refine TDr.ask (by rfl) (fun h hk => ?_) (fun h => ?_) <;> (try simp only [decide_eq_true_eq, decide_eq_false_iff_not, Bool.or_eq_true, Bool.and_eq_true, Bool.or_eq_false_iff, Bool.and_eq_false_iff, Bool.not_eq_true', Bool.not_eq_false', Int.not_lt, Int.not_le, Int.toNat_natCast, Int.toNat_zero, cond_false, cond_true, Bool.not_not] at h) <;> (try simp only [rdi, Int.toNat_natCast, Nat.add_zero] at h))
          | ((with_reducible refine Tw.any ?_); refine Tw.condT (by rfl) ?_)
          | ((with_reducible refine Tw.any ?_); refine Tw.condF (by rfl) ?_)
          | ((with_reducible refine Tw.any ?_); refine Tw.cond (by rfl) (fun h => ?_) (fun h => ?_) <;> (try simp only [decide_eq_true_eq, decide_eq_false_iff_not, Bool.or_eq_true, Bool.and_eq_true, Bool.or_eq_false_iff, Bool.and_eq_false_iff, Bool.not_eq_true', Bool.not_eq_false', Int.not_lt, Int.not_le, Int.toNat_natCast, Int.toNat_zero, cond_false, cond_true, Bool.not_not] at h) <;> (try simp only [rdi, Int.toNat_natCast, Nat.add_zero] at h))
          | ((with_reducible refine tret.any ?_); first | refine tret.ok (by rfl) ?_ | refine tret.okN (by rfl) ?_)
          | ((with_reducible refine Due.mk ?_); (first | with_reducible rfl | omega | assumption | decide | ((try simp only [decide_eq_true_eq, decide_eq_false_iff_not, Bool.or_eq_true, Bool.and_eq_true, Bool.or_eq_false_iff, Bool.and_eq_false_iff, Bool.not_eq_true', Bool.not_eq_false', Int.not_lt, Int.not_le, Int.toNat_natCast, Int.toNat_zero, cond_false, cond_true, Bool.not_not] at *) <;> (try intro h) <;> (try intro h') <;> (try simp only [decide_eq_true_eq, decide_eq_false_iff_not, Bool.or_eq_true, Bool.and_eq_true, Bool.or_eq_false_iff, Bool.and_eq_false_iff, Bool.not_eq_true', Bool.not_eq_false', Int.not_lt, Int.not_le, Int.toNat_natCast, Int.toNat_zero, cond_false, cond_true, Bool.not_not] at *) <;> (try simp only [rdi, Int.toNat_natCast, Nat.add_zero] at *) <;> (try simp only [rng]) <;> (first | assumption | omega)) | (intros; simp; done) | (intros; simp; omega)))
          | with_reducible refine Due.mk ?_
          | omega)
        refine ⟨j + 1, by omega, by omega, TWk.fcanon env [] (by rfl) ?_⟩
        repeat' (first
          | with_reducible refine Tw.seq ?_
          | with_reducible refine Tw.reg ?_
          | with_reducible refine Tw.block ?_
          | with_reducible refine Tw.scope ?_
          | with_reducible refine Tw.skip ?_
          | with_reducible refine Tw.exit ?_
          | with_reducible refine Tw.ret ?_
          | with_reducible refine seqN ?_
          | with_reducible refine seqR ?_
          | with_reducible refine seqE ?_
          | with_reducible refine blkN ?_
          | with_reducible refine blkR ?_
          | with_reducible refine blkE1 ?_
          | with_reducible refine blkE0 (by kernel_rfl) ?_
          | with_reducible refine scpN ?_
          | with_reducible refine scpR ?_
          | with_reducible refine scpE ?_
          | with_reducible refine TOps.nil ?_
          | with_reducible exact Conj.nil
          | with_reducible refine Conj.cons rfl ?_
          | with_reducible refine Conj.same ?_
          | with_reducible refine Conj.ask ?_ ?_
          | ((with_reducible refine TOps.any ?_); refine TOps.frunP env (by rfl) (by rfl) ?_ ?_)
          | with_reducible refine Tw.regd env ?_
          | ((with_reducible refine TDr.any ?_); refine TDr.frunP env (by rfl) (by rfl) ?_ ?_)
          | with_reducible refine TDr.nil ⟨by kernel_rfl, ?_⟩
          | ((with_reducible refine TOps.any ?_); refine TOps.strip env (by rfl) (by rfl) ?_ ?_)
          | ((with_reducible refine TOps.any ?_); (fail_if_success refine TOps.known (by rfl) ?_); refine TOps.ask (by rfl) (fun h => ?_) (fun h => ?_) <;> (try simp only [decide_eq_true_eq, decide_eq_false_iff_not, Bool.or_eq_true, Bool.and_eq_true, Bool.or_eq_false_iff, Bool.and_eq_false_iff, Bool.not_eq_true', Bool.not_eq_false', Int.not_lt, Int.not_le, Int.toNat_natCast, Int.toNat_zero, cond_false, cond_true, Bool.not_not] at h) <;> (try simp only [rdi, Int.toNat_natCast, Nat.add_zero] at h))
          | ((with_reducible refine TDr.any ?_); (fail_if_success refine TDr.known (by first | rfl | assumption) ?_); refine TDr.ask (by rfl) (fun h hk => ?_) (fun h => ?_) <;> (try simp only [decide_eq_true_eq, decide_eq_false_iff_not, Bool.or_eq_true, Bool.and_eq_true, Bool.or_eq_false_iff, Bool.and_eq_false_iff, Bool.not_eq_true', Bool.not_eq_false', Int.not_lt, Int.not_le, Int.toNat_natCast, Int.toNat_zero, cond_false, cond_true, Bool.not_not] at h) <;> (try simp only [rdi, Int.toNat_natCast, Nat.add_zero] at h))
          | ((with_reducible refine Tw.any ?_); refine Tw.condT (by rfl) ?_)
          | ((with_reducible refine Tw.any ?_); refine Tw.condF (by rfl) ?_)
          | ((with_reducible refine Tw.any ?_); refine Tw.cond (by rfl) (fun h => ?_) (fun h => ?_) <;> (try simp only [decide_eq_true_eq, decide_eq_false_iff_not, Bool.or_eq_true, Bool.and_eq_true, Bool.or_eq_false_iff, Bool.and_eq_false_iff, Bool.not_eq_true', Bool.not_eq_false', Int.not_lt, Int.not_le, Int.toNat_natCast, Int.toNat_zero, cond_false, cond_true, Bool.not_not] at h) <;> (try simp only [rdi, Int.toNat_natCast, Nat.add_zero] at h))
          | ((with_reducible refine tret.any ?_); first | refine tret.ok (by rfl) ?_ | refine tret.okN (by rfl) ?_)
          | ((with_reducible refine Due.mk ?_); (first | with_reducible rfl | omega | assumption | decide | ((try simp only [decide_eq_true_eq, decide_eq_false_iff_not, Bool.or_eq_true, Bool.and_eq_true, Bool.or_eq_false_iff, Bool.and_eq_false_iff, Bool.not_eq_true', Bool.not_eq_false', Int.not_lt, Int.not_le, Int.toNat_natCast, Int.toNat_zero, cond_false, cond_true, Bool.not_not] at *) <;> (try intro h) <;> (try intro h') <;> (try simp only [decide_eq_true_eq, decide_eq_false_iff_not, Bool.or_eq_true, Bool.and_eq_true, Bool.or_eq_false_iff, Bool.and_eq_false_iff, Bool.not_eq_true', Bool.not_eq_false', Int.not_lt, Int.not_le, Int.toNat_natCast, Int.toNat_zero, cond_false, cond_true, Bool.not_not] at *) <;> (try simp only [rdi, Int.toNat_natCast, Nat.add_zero] at *) <;> (try simp only [rng]) <;> (first | assumption | omega)) | (intros; simp; done) | (intros; simp; omega)))
          | with_reducible refine Due.mk ?_
          | omega)
      · repeat' (first
          | with_reducible refine Tw.seq ?_
          | with_reducible refine Tw.reg ?_
          | with_reducible refine Tw.block ?_
          | with_reducible refine Tw.scope ?_
          | with_reducible refine Tw.skip ?_
          | with_reducible refine Tw.exit ?_
          | with_reducible refine Tw.ret ?_
          | with_reducible refine seqN ?_
          | with_reducible refine seqR ?_
          | with_reducible refine seqE ?_
          | with_reducible refine blkN ?_
          | with_reducible refine blkR ?_
          | with_reducible refine blkE1 ?_
          | with_reducible refine blkE0 (by kernel_rfl) ?_
          | with_reducible refine scpN ?_
          | with_reducible refine scpR ?_
          | with_reducible refine scpE ?_
          | with_reducible refine TOps.nil ?_
          | with_reducible exact Conj.nil
          | with_reducible refine Conj.cons rfl ?_
          | with_reducible refine Conj.same ?_
          | with_reducible refine Conj.ask ?_ ?_
          | ((with_reducible refine TOps.any ?_); refine TOps.frunP env (by rfl) (by rfl) ?_ ?_)
          | with_reducible refine Tw.regd env ?_
          | ((with_reducible refine TDr.any ?_); refine TDr.frunP env (by rfl) (by rfl) ?_ ?_)
          | with_reducible refine TDr.nil ⟨by kernel_rfl, ?_⟩
          | ((with_reducible refine TOps.any ?_); refine TOps.strip env (by rfl) (by rfl) ?_ ?_)
          | ((with_reducible refine TOps.any ?_); (fail_if_success refine TOps.known (by rfl) ?_); refine TOps.ask (by rfl) (fun h => ?_) (fun h => ?_) <;> (try simp only [decide_eq_true_eq, decide_eq_false_iff_not, Bool.or_eq_true, Bool.and_eq_true, Bool.or_eq_false_iff, Bool.and_eq_false_iff, Bool.not_eq_true', Bool.not_eq_false', Int.not_lt, Int.not_le, Int.toNat_natCast, Int.toNat_zero, cond_false, cond_true, Bool.not_not] at h) <;> (try simp only [rdi, Int.toNat_natCast, Nat.add_zero] at h))
          | ((with_reducible refine TDr.any ?_); (fail_if_success refine TDr.known (by first | rfl | assumption) ?_); refine TDr.ask (by rfl) (fun h hk => ?_) (fun h => ?_) <;> (try simp only [decide_eq_true_eq, decide_eq_false_iff_not, Bool.or_eq_true, Bool.and_eq_true, Bool.or_eq_false_iff, Bool.and_eq_false_iff, Bool.not_eq_true', Bool.not_eq_false', Int.not_lt, Int.not_le, Int.toNat_natCast, Int.toNat_zero, cond_false, cond_true, Bool.not_not] at h) <;> (try simp only [rdi, Int.toNat_natCast, Nat.add_zero] at h))
          | ((with_reducible refine Tw.any ?_); refine Tw.condT (by rfl) ?_)
          | ((with_reducible refine Tw.any ?_); refine Tw.condF (by rfl) ?_)
          | ((with_reducible refine Tw.any ?_); refine Tw.cond (by rfl) (fun h => ?_) (fun h => ?_) <;> (try simp only [decide_eq_true_eq, decide_eq_false_iff_not, Bool.or_eq_true, Bool.and_eq_true, Bool.or_eq_false_iff, Bool.and_eq_false_iff, Bool.not_eq_true', Bool.not_eq_false', Int.not_lt, Int.not_le, Int.toNat_natCast, Int.toNat_zero, cond_false, cond_true, Bool.not_not] at h) <;> (try simp only [rdi, Int.toNat_natCast, Nat.add_zero] at h))
          | ((with_reducible refine tret.any ?_); first | refine tret.ok (by rfl) ?_ | refine tret.okN (by rfl) ?_)
          | ((with_reducible refine Due.mk ?_); (first | with_reducible rfl | omega | assumption | decide | ((try simp only [decide_eq_true_eq, decide_eq_false_iff_not, Bool.or_eq_true, Bool.and_eq_true, Bool.or_eq_false_iff, Bool.and_eq_false_iff, Bool.not_eq_true', Bool.not_eq_false', Int.not_lt, Int.not_le, Int.toNat_natCast, Int.toNat_zero, cond_false, cond_true, Bool.not_not] at *) <;> (try intro h) <;> (try intro h') <;> (try simp only [decide_eq_true_eq, decide_eq_false_iff_not, Bool.or_eq_true, Bool.and_eq_true, Bool.or_eq_false_iff, Bool.and_eq_false_iff, Bool.not_eq_true', Bool.not_eq_false', Int.not_lt, Int.not_le, Int.toNat_natCast, Int.toNat_zero, cond_false, cond_true, Bool.not_not] at *) <;> (try simp only [rdi, Int.toNat_natCast, Nat.add_zero] at *) <;> (try simp only [rng]) <;> (first | assumption | omega)) | (intros; simp; done) | (intros; simp; omega)))
          | with_reducible refine Due.mk ?_
          | omega)
        refine ⟨i + 1, by omega, by omega, TWk.fcanon env [] (by rfl) ?_⟩
        repeat' (first
          | with_reducible refine Tw.seq ?_
          | with_reducible refine Tw.reg ?_
          | with_reducible refine Tw.block ?_
          | with_reducible refine Tw.scope ?_
          | with_reducible refine Tw.skip ?_
          | with_reducible refine Tw.exit ?_
          | with_reducible refine Tw.ret ?_
          | with_reducible refine seqN ?_
          | with_reducible refine seqR ?_
          | with_reducible refine seqE ?_
          | with_reducible refine blkN ?_
          | with_reducible refine blkR ?_
          | with_reducible refine blkE1 ?_
          | with_reducible refine blkE0 (by kernel_rfl) ?_
          | with_reducible refine scpN ?_
          | with_reducible refine scpR ?_
          | with_reducible refine scpE ?_
          | with_reducible refine TOps.nil ?_
          | with_reducible exact Conj.nil
          | with_reducible refine Conj.cons rfl ?_
          | with_reducible refine Conj.same ?_
          | with_reducible refine Conj.ask ?_ ?_
          | ((with_reducible refine TOps.any ?_); refine TOps.frunP env (by rfl) (by rfl) ?_ ?_)
          | with_reducible refine Tw.regd env ?_
          | ((with_reducible refine TDr.any ?_); refine TDr.frunP env (by rfl) (by rfl) ?_ ?_)
          | with_reducible refine TDr.nil ⟨by kernel_rfl, ?_⟩
          | ((with_reducible refine TOps.any ?_); refine TOps.strip env (by rfl) (by rfl) ?_ ?_)
          | ((with_reducible refine TOps.any ?_); (fail_if_success refine TOps.known (by rfl) ?_); refine TOps.ask (by rfl) (fun h => ?_) (fun h => ?_) <;> (try simp only [decide_eq_true_eq, decide_eq_false_iff_not, Bool.or_eq_true, Bool.and_eq_true, Bool.or_eq_false_iff, Bool.and_eq_false_iff, Bool.not_eq_true', Bool.not_eq_false', Int.not_lt, Int.not_le, Int.toNat_natCast, Int.toNat_zero, cond_false, cond_true, Bool.not_not] at h) <;> (try simp only [rdi, Int.toNat_natCast, Nat.add_zero] at h))
          | ((with_reducible refine TDr.any ?_); (fail_if_success refine TDr.known (by first | rfl | assumption) ?_); refine TDr.ask (by rfl) (fun h hk => ?_) (fun h => ?_) <;> (try simp only [decide_eq_true_eq, decide_eq_false_iff_not, Bool.or_eq_true, Bool.and_eq_true, Bool.or_eq_false_iff, Bool.and_eq_false_iff, Bool.not_eq_true', Bool.not_eq_false', Int.not_lt, Int.not_le, Int.toNat_natCast, Int.toNat_zero, cond_false, cond_true, Bool.not_not] at h) <;> (try simp only [rdi, Int.toNat_natCast, Nat.add_zero] at h))
          | ((with_reducible refine Tw.any ?_); refine Tw.condT (by rfl) ?_)
          | ((with_reducible refine Tw.any ?_); refine Tw.condF (by rfl) ?_)
          | ((with_reducible refine Tw.any ?_); refine Tw.cond (by rfl) (fun h => ?_) (fun h => ?_) <;> (try simp only [decide_eq_true_eq, decide_eq_false_iff_not, Bool.or_eq_true, Bool.and_eq_true, Bool.or_eq_false_iff, Bool.and_eq_false_iff, Bool.not_eq_true', Bool.not_eq_false', Int.not_lt, Int.not_le, Int.toNat_natCast, Int.toNat_zero, cond_false, cond_true, Bool.not_not] at h) <;> (try simp only [rdi, Int.toNat_natCast, Nat.add_zero] at h))
          | ((with_reducible refine tret.any ?_); first | refine tret.ok (by rfl) ?_ | refine tret.okN (by rfl) ?_)
          | ((with_reducible refine Due.mk ?_); (first | with_reducible rfl | omega | assumption | decide | ((try simp only [decide_eq_true_eq, decide_eq_false_iff_not, Bool.or_eq_true, Bool.and_eq_true, Bool.or_eq_false_iff, Bool.and_eq_false_iff, Bool.not_eq_true', Bool.not_eq_false', Int.not_lt, Int.not_le, Int.toNat_natCast, Int.toNat_zero, cond_false, cond_true, Bool.not_not] at *) <;> (try intro h) <;> (try intro h') <;> (try simp only [decide_eq_true_eq, decide_eq_false_iff_not, Bool.or_eq_true, Bool.and_eq_true, Bool.or_eq_false_iff, Bool.and_eq_false_iff, Bool.not_eq_true', Bool.not_eq_false', Int.not_lt, Int.not_le, Int.toNat_natCast, Int.toNat_zero, cond_false, cond_true, Bool.not_not] at *) <;> (try simp only [rdi, Int.toNat_natCast, Nat.add_zero] at *) <;> (try simp only [rng]) <;> (first | assumption | omega)) | (intros; simp; done) | (intros; simp; omega)))
          | with_reducible refine Due.mk ?_
          | omega)
    · repeat' (first
        | with_reducible refine Tw.seq ?_
        | with_reducible refine Tw.reg ?_
        | with_reducible refine Tw.block ?_
        | with_reducible refine Tw.scope ?_
        | with_reducible refine Tw.skip ?_
        | with_reducible refine Tw.exit ?_
        | with_reducible refine Tw.ret ?_
        | with_reducible refine seqN ?_
        | with_reducible refine seqR ?_
        | with_reducible refine seqE ?_
        | with_reducible refine blkN ?_
        | with_reducible refine blkR ?_
        | with_reducible refine blkE1 ?_
        | with_reducible refine blkE0 (by kernel_rfl) ?_
        | with_reducible refine scpN ?_
        | with_reducible refine scpR ?_
        | with_reducible refine scpE ?_
        | with_reducible refine TOps.nil ?_
        | with_reducible exact Conj.nil
        | with_reducible refine Conj.cons rfl ?_
        | with_reducible refine Conj.same ?_
        | with_reducible refine Conj.ask ?_ ?_
        | ((with_reducible refine TOps.any ?_); refine TOps.frunP env (by rfl) (by rfl) ?_ ?_)
        | with_reducible refine Tw.regd env ?_
        | ((with_reducible refine TDr.any ?_); refine TDr.frunP env (by rfl) (by rfl) ?_ ?_)
        | with_reducible refine TDr.nil ⟨by kernel_rfl, ?_⟩
        | ((with_reducible refine TOps.any ?_); refine TOps.strip env (by rfl) (by rfl) ?_ ?_)
        | ((with_reducible refine TOps.any ?_); (fail_if_success refine TOps.known (by rfl) ?_); refine TOps.ask (by rfl) (fun h => ?_) (fun h => ?_) <;> (try simp only [decide_eq_true_eq, decide_eq_false_iff_not, Bool.or_eq_true, Bool.and_eq_true, Bool.or_eq_false_iff, Bool.and_eq_false_iff, Bool.not_eq_true', Bool.not_eq_false', Int.not_lt, Int.not_le, Int.toNat_natCast, Int.toNat_zero, cond_false, cond_true, Bool.not_not] at h) <;> (try simp only [rdi, Int.toNat_natCast, Nat.add_zero] at h))
        | ((with_reducible refine TDr.any ?_); (fail_if_success refine TDr.known (by first | rfl | assumption) ?_); refine TDr.ask (by rfl) (fun h hk => ?_) (fun h => ?_) <;> (try simp only [decide_eq_true_eq, decide_eq_false_iff_not, Bool.or_eq_true, Bool.and_eq_true, Bool.or_eq_false_iff, Bool.and_eq_false_iff, Bool.not_eq_true', Bool.not_eq_false', Int.not_lt, Int.not_le, Int.toNat_natCast, Int.toNat_zero, cond_false, cond_true, Bool.not_not] at h) <;> (try simp only [rdi, Int.toNat_natCast, Nat.add_zero] at h))
        | ((with_reducible refine Tw.any ?_); refine Tw.condT (by rfl) ?_)
        | ((with_reducible refine Tw.any ?_); refine Tw.condF (by rfl) ?_)
        | ((with_reducible refine Tw.any ?_); refine Tw.cond (by rfl) (fun h => ?_) (fun h => ?_) <;> (try simp only [decide_eq_true_eq, decide_eq_false_iff_not, Bool.or_eq_true, Bool.and_eq_true, Bool.or_eq_false_iff, Bool.and_eq_false_iff, Bool.not_eq_true', Bool.not_eq_false', Int.not_lt, Int.not_le, Int.toNat_natCast, Int.toNat_zero, cond_false, cond_true, Bool.not_not] at h) <;> (try simp only [rdi, Int.toNat_natCast, Nat.add_zero] at h))
        | ((with_reducible refine tret.any ?_); first | refine tret.ok (by rfl) ?_ | refine tret.okN (by rfl) ?_)
        | ((with_reducible refine Due.mk ?_); (first | with_reducible rfl | omega | assumption | decide | ((try simp only [decide_eq_true_eq, decide_eq_false_iff_not, Bool.or_eq_true, Bool.and_eq_true, Bool.or_eq_false_iff, Bool.and_eq_false_iff, Bool.not_eq_true', Bool.not_eq_false', Int.not_lt, Int.not_le, Int.toNat_natCast, Int.toNat_zero, cond_false, cond_true, Bool.not_not] at *) <;> (try intro h) <;> (try intro h') <;> (try simp only [decide_eq_true_eq, decide_eq_false_iff_not, Bool.or_eq_true, Bool.and_eq_true, Bool.or_eq_false_iff, Bool.and_eq_false_iff, Bool.not_eq_true', Bool.not_eq_false', Int.not_lt, Int.not_le, Int.toNat_natCast, Int.toNat_zero, cond_false, cond_true, Bool.not_not] at *) <;> (try simp only [rdi, Int.toNat_natCast, Nat.add_zero] at *) <;> (try simp only [rng]) <;> (first | assumption | omega)) | (intros; simp; done) | (intros; simp; omega)))
        | with_reducible refine Due.mk ?_
        | omega)
      exact ⟨rfl, rfl, rfl⟩
  · repeat' (first
      | ((with_reducible refine TOps.any ?_); refine TOps.callV env (by rfl) (by rfl) (by rfl) (inkWorks_c) ?_)
      | with_reducible refine Tw.seq ?_
      | with_reducible refine Tw.reg ?_
      | with_reducible refine Tw.block ?_
      | with_reducible refine Tw.scope ?_
      | with_reducible refine Tw.skip ?_
      | with_reducible refine Tw.exit ?_
      | with_reducible refine Tw.ret ?_
      | with_reducible refine seqN ?_
      | with_reducible refine seqR ?_
      | with_reducible refine seqE ?_
      | with_reducible refine blkN ?_
      | with_reducible refine blkR ?_
      | with_reducible refine blkE1 ?_
      | with_reducible refine blkE0 (by kernel_rfl) ?_
      | with_reducible refine scpN ?_
      | with_reducible refine scpR ?_
      | with_reducible refine scpE ?_
      | with_reducible refine TOps.nil ?_
      | with_reducible exact Conj.nil
      | with_reducible refine Conj.cons rfl ?_
      | with_reducible refine Conj.same ?_
      | with_reducible refine Conj.ask ?_ ?_
      | ((with_reducible refine TOps.any ?_); refine TOps.frunP env (by rfl) (by rfl) ?_ ?_)
      | with_reducible refine Tw.regd env ?_
      | ((with_reducible refine TDr.any ?_); refine TDr.frunP env (by rfl) (by rfl) ?_ ?_)
      | with_reducible refine TDr.nil ⟨by kernel_rfl, ?_⟩
      | ((with_reducible refine TOps.any ?_); refine TOps.strip env (by rfl) (by rfl) ?_ ?_)
      | ((with_reducible refine TOps.any ?_); (fail_if_success refine TOps.known (by rfl) ?_); refine TOps.ask (by rfl) (fun h => ?_) (fun h => ?_) <;> (try simp only [decide_eq_true_eq, decide_eq_false_iff_not, Bool.or_eq_true, Bool.and_eq_true, Bool.or_eq_false_iff, Bool.and_eq_false_iff, Bool.not_eq_true', Bool.not_eq_false', Int.not_lt, Int.not_le, Int.toNat_natCast, Int.toNat_zero, cond_false, cond_true, Bool.not_not] at h) <;> (try simp only [rdi, Int.toNat_natCast, Nat.add_zero] at h))
      | ((with_reducible refine TDr.any ?_); (fail_if_success refine TDr.known (by first | rfl | assumption) ?_); refine TDr.ask (by rfl) (fun h hk => ?_) (fun h => ?_) <;> (try simp only [decide_eq_true_eq, decide_eq_false_iff_not, Bool.or_eq_true, Bool.and_eq_true, Bool.or_eq_false_iff, Bool.and_eq_false_iff, Bool.not_eq_true', Bool.not_eq_false', Int.not_lt, Int.not_le, Int.toNat_natCast, Int.toNat_zero, cond_false, cond_true, Bool.not_not] at h) <;> (try simp only [rdi, Int.toNat_natCast, Nat.add_zero] at h))
      | ((with_reducible refine Tw.any ?_); refine Tw.condT (by rfl) ?_)
      | ((with_reducible refine Tw.any ?_); refine Tw.condF (by rfl) ?_)
      | ((with_reducible refine Tw.any ?_); refine Tw.cond (by rfl) (fun h => ?_) (fun h => ?_) <;> (try simp only [decide_eq_true_eq, decide_eq_false_iff_not, Bool.or_eq_true, Bool.and_eq_true, Bool.or_eq_false_iff, Bool.and_eq_false_iff, Bool.not_eq_true', Bool.not_eq_false', Int.not_lt, Int.not_le, Int.toNat_natCast, Int.toNat_zero, cond_false, cond_true, Bool.not_not] at h) <;> (try simp only [rdi, Int.toNat_natCast, Nat.add_zero] at h))
      | ((with_reducible refine tret.any ?_); first | refine tret.ok (by rfl) ?_ | refine tret.okN (by rfl) ?_)
      | ((with_reducible refine Due.mk ?_); (first | with_reducible rfl | omega | assumption | decide | ((try simp only [decide_eq_true_eq, decide_eq_false_iff_not, Bool.or_eq_true, Bool.and_eq_true, Bool.or_eq_false_iff, Bool.and_eq_false_iff, Bool.not_eq_true', Bool.not_eq_false', Int.not_lt, Int.not_le, Int.toNat_natCast, Int.toNat_zero, cond_false, cond_true, Bool.not_not] at *) <;> (try intro h) <;> (try intro h') <;> (try simp only [decide_eq_true_eq, decide_eq_false_iff_not, Bool.or_eq_true, Bool.and_eq_true, Bool.or_eq_false_iff, Bool.and_eq_false_iff, Bool.not_eq_true', Bool.not_eq_false', Int.not_lt, Int.not_le, Int.toNat_natCast, Int.toNat_zero, cond_false, cond_true, Bool.not_not] at *) <;> (try simp only [rdi, Int.toNat_natCast, Nat.add_zero] at *) <;> (try simp only [rng]) <;> (first | assumption | omega)) | (intros; simp; done) | (intros; simp; omega)))
      | with_reducible refine Due.mk ?_
      | omega)
    refine TOps.call env (by rfl) (by rfl) (by rfl) (limit_n t b T h wt.1) ?_
    rintro _ _ ⟨⟨e, he, rfl⟩, rfl⟩
    repeat' (first
      | with_reducible refine Tw.seq ?_
      | with_reducible refine Tw.reg ?_
      | with_reducible refine Tw.block ?_
      | with_reducible refine Tw.scope ?_
      | with_reducible refine Tw.skip ?_
      | with_reducible refine Tw.exit ?_
      | with_reducible refine Tw.ret ?_
      | with_reducible refine seqN ?_
      | with_reducible refine seqR ?_
      | with_reducible refine seqE ?_
      | with_reducible refine blkN ?_
      | with_reducible refine blkR ?_
      | with_reducible refine blkE1 ?_
      | with_reducible refine blkE0 (by kernel_rfl) ?_
      | with_reducible refine scpN ?_
      | with_reducible refine scpR ?_
      | with_reducible refine scpE ?_
      | with_reducible refine TOps.nil ?_
      | with_reducible exact Conj.nil
      | with_reducible refine Conj.cons rfl ?_
      | with_reducible refine Conj.same ?_
      | with_reducible refine Conj.ask ?_ ?_
      | ((with_reducible refine TOps.any ?_); refine TOps.frunP env (by rfl) (by rfl) ?_ ?_)
      | with_reducible refine Tw.regd env ?_
      | ((with_reducible refine TDr.any ?_); refine TDr.frunP env (by rfl) (by rfl) ?_ ?_)
      | with_reducible refine TDr.nil ⟨by kernel_rfl, ?_⟩
      | ((with_reducible refine TOps.any ?_); refine TOps.strip env (by rfl) (by rfl) ?_ ?_)
      | ((with_reducible refine TOps.any ?_); (fail_if_success refine TOps.known (by rfl) ?_); refine TOps.ask (by rfl) (fun h => ?_) (fun h => ?_) <;> (try simp only [decide_eq_true_eq, decide_eq_false_iff_not, Bool.or_eq_true, Bool.and_eq_true, Bool.or_eq_false_iff, Bool.and_eq_false_iff, Bool.not_eq_true', Bool.not_eq_false', Int.not_lt, Int.not_le, Int.toNat_natCast, Int.toNat_zero, cond_false, cond_true, Bool.not_not] at h) <;> (try simp only [rdi, Int.toNat_natCast, Nat.add_zero] at h))
      | ((with_reducible refine TDr.any ?_); (fail_if_success refine TDr.known (by first | rfl | assumption) ?_); refine TDr.ask (by rfl) (fun h hk => ?_) (fun h => ?_) <;> (try simp only [decide_eq_true_eq, decide_eq_false_iff_not, Bool.or_eq_true, Bool.and_eq_true, Bool.or_eq_false_iff, Bool.and_eq_false_iff, Bool.not_eq_true', Bool.not_eq_false', Int.not_lt, Int.not_le, Int.toNat_natCast, Int.toNat_zero, cond_false, cond_true, Bool.not_not] at h) <;> (try simp only [rdi, Int.toNat_natCast, Nat.add_zero] at h))
      | ((with_reducible refine Tw.any ?_); refine Tw.condT (by rfl) ?_)
      | ((with_reducible refine Tw.any ?_); refine Tw.condF (by rfl) ?_)
      | ((with_reducible refine Tw.any ?_); refine Tw.cond (by rfl) (fun h => ?_) (fun h => ?_) <;> (try simp only [decide_eq_true_eq, decide_eq_false_iff_not, Bool.or_eq_true, Bool.and_eq_true, Bool.or_eq_false_iff, Bool.and_eq_false_iff, Bool.not_eq_true', Bool.not_eq_false', Int.not_lt, Int.not_le, Int.toNat_natCast, Int.toNat_zero, cond_false, cond_true, Bool.not_not] at h) <;> (try simp only [rdi, Int.toNat_natCast, Nat.add_zero] at h))
      | ((with_reducible refine tret.any ?_); first | refine tret.ok (by rfl) ?_ | refine tret.okN (by rfl) ?_)
      | ((with_reducible refine Due.mk ?_); (first | with_reducible rfl | omega | assumption | decide | ((try simp only [decide_eq_true_eq, decide_eq_false_iff_not, Bool.or_eq_true, Bool.and_eq_true, Bool.or_eq_false_iff, Bool.and_eq_false_iff, Bool.not_eq_true', Bool.not_eq_false', Int.not_lt, Int.not_le, Int.toNat_natCast, Int.toNat_zero, cond_false, cond_true, Bool.not_not] at *) <;> (try intro h) <;> (try intro h') <;> (try simp only [decide_eq_true_eq, decide_eq_false_iff_not, Bool.or_eq_true, Bool.and_eq_true, Bool.or_eq_false_iff, Bool.and_eq_false_iff, Bool.not_eq_true', Bool.not_eq_false', Int.not_lt, Int.not_le, Int.toNat_natCast, Int.toNat_zero, cond_false, cond_true, Bool.not_not] at *) <;> (try simp only [rdi, Int.toNat_natCast, Nat.add_zero] at *) <;> (try simp only [rng]) <;> (first | assumption | omega)) | (intros; simp; done) | (intros; simp; omega)))
      | with_reducible refine Due.mk ?_
      | omega)
    all_goals exact ⟨rfl, rfl, rfl⟩
end Go.Proofs.Ytfgaefpdccdfiaa
