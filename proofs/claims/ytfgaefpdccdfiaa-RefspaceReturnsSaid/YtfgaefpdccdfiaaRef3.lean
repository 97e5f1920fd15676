/- ToLab, ToXYZ. -/
import Derived.Test.YtfgaefpdccdfiaaRef2
namespace Go.Proofs.Ytfgaefpdccdfiaa
open Go Go.Lite
set_option linter.unusedVariables false
set_option linter.unusedSimpArgs false
set_option maxRecDepth 100000
set_option maxHeartbeats 4000000
-- @simp rdi

def xyzOk (x y z : Int) : Prop := 0 ≤ x ∧ x ≤ 300000 ∧ 0 ≤ y ∧ y ≤ 300000 ∧ 0 ≤ z ∧ z ≤ 300000
def whiteOk (x y z : Int) : Prop := 80000 ≤ x ∧ x ≤ 120000 ∧ 80000 ≤ y ∧ y ≤ 120000 ∧ 80000 ≤ z ∧ z ≤ 120000
instance (l a b : Int) : Decidable (xyzOk l a b) := by unfold xyzOk; infer_instance
instance (l a b : Int) : Decidable (whiteOk l a b) := by unfold whiteOk; infer_instance

theorem checkXYZ_c (x y z : Int) : TC R Try.prog refspace_CheckXYZ_f [.agg [.int .i64 x, .int .i64 y, .int .i64 z]] [] (fun v X => v = .int .i64 (if xyzOk x y z then 0 else 3) ∧ X = []) := by
  refine tc0 env refspace_CheckXYZ_s (by rfl) ?_
  dsimp only [refspace_CheckXYZ_c]
  repeat' (first
    | with_reducible refine Tw.seq ?_
    | with_reducible refine Tw.reg ?_
    | with_reducible refine Tw.block ?_
    | with_reducible refine Tw.scope ?_
    | with_reducible refine Tw.skip ?_
    | with_reducible refine Tw.exit ?_
    | with_reducible refine Tw.ret ?_
    | with_reducible refine seqN ?_
    | with_reducible refine seqR ?_
    | with_reducible refine seqE ?_
    | with_reducible refine blkN ?_
    | with_reducible refine blkR ?_
    | with_reducible refine blkE1 ?_
    | with_reducible refine blkE0 (by kernel_rfl) ?_
    | with_reducible refine scpN ?_
    | with_reducible refine scpR ?_
    | with_reducible refine scpE ?_
    | with_reducible refine TOps.nil ?_
    | with_reducible exact Conj.nil
    | with_reducible refine Conj.cons rfl ?_
    | with_reducible refine Conj.same ?_
    | with_reducible refine Conj.ask ?_ ?_
    | ((with_reducible refine TOps.any ?_); refine TOps.frunP env (by rfl) (by rfl) ?_ ?_)
    | with_reducible refine Tw.regd env ?_
    | ((with_reducible refine TDr.any ?_); refine TDr.frunP env (by rfl) (by rfl) ?_ ?_)
    | with_reducible refine TDr.nil ⟨by kernel_rfl, ?_⟩
    | ((with_reducible refine TOps.any ?_); refine TOps.strip env (by rfl) (by rfl) ?_ ?_)
    | ((with_reducible refine TOps.any ?_); (fail_if_success refine TOps.known (by rfl) ?_); refine TOps.ask (by rfl) (fun h => ?_) (fun h => ?_) <;> (try simp only [decide_eq_true_eq, decide_eq_false_iff_not, Bool.or_eq_true, Bool.and_eq_true, Bool.or_eq_false_iff, Bool.and_eq_false_iff, Bool.not_eq_true', Bool.not_eq_false', Int.not_lt, Int.not_le, Int.toNat_natCast, Int.toNat_zero, cond_false, cond_true, Bool.not_not] at h) <;> (try simp only [rdi, Int.toNat_natCast, Nat.add_zero] at h))
    | ((with_reducible refine Tw.any ?_); refine Tw.condT (by rfl) ?_)
    | ((with_reducible refine Tw.any ?_); refine Tw.condF (by rfl) ?_)
    | ((with_reducible refine Tw.any ?_); refine Tw.cond (by rfl) (fun h => ?_) (fun h => ?_) <;> (try simp only [decide_eq_true_eq, decide_eq_false_iff_not, Bool.or_eq_true, Bool.and_eq_true, Bool.or_eq_false_iff, Bool.and_eq_false_iff, Bool.not_eq_true', Bool.not_eq_false', Int.not_lt, Int.not_le, Int.toNat_natCast, Int.toNat_zero, cond_false, cond_true, Bool.not_not] at h) <;> (try simp only [rdi, Int.toNat_natCast, Nat.add_zero] at h))
    | ((with_reducible refine tret.any ?_); first | refine tret.ok (by rfl) ?_ | refine tret.okN (by rfl) ?_)
    | ((with_reducible refine Due.mk ?_); (first | with_reducible rfl | omega | assumption | decide | ((try simp only [decide_eq_true_eq, decide_eq_false_iff_not, Bool.or_eq_true, Bool.and_eq_true, Bool.or_eq_false_iff, Bool.and_eq_false_iff, Bool.not_eq_true', Bool.not_eq_false', Int.not_lt, Int.not_le, Int.toNat_natCast, Int.toNat_zero, cond_false, cond_true, Bool.not_not] at *) <;> (try intro h) <;> (try intro h') <;> (try simp only [decide_eq_true_eq, decide_eq_false_iff_not, Bool.or_eq_true, Bool.and_eq_true, Bool.or_eq_false_iff, Bool.and_eq_false_iff, Bool.not_eq_true', Bool.not_eq_false', Int.not_lt, Int.not_le, Int.toNat_natCast, Int.toNat_zero, cond_false, cond_true, Bool.not_not] at *) <;> (try simp only [rdi, Int.toNat_natCast, Nat.add_zero] at *) <;> (try simp only [rng]) <;> (first | assumption | omega)) | (intros; simp; done) | (intros; simp; omega)))
    | with_reducible refine Due.mk ?_
    | omega)
  refine Tw.loopK [11] (fun i : Nat => i = 0 ∨ (i = 1 ∧ 0 ≤ x ∧ x ≤ 300000) ∨ (i = 2 ∧ 0 ≤ x ∧ x ≤ 300000 ∧ 0 ≤ y ∧ y ≤ 300000) ∨ (i = 3 ∧ xyzOk x y z)) (fun i => 3 - i) (fun i => [(12, .int .i64 i)]) (fun _ => []) ⟨0, .inl rfl, TWk.fcanon env [] (by rfl) ?_⟩ (fun i hi => ?_)
  · repeat' (first
      | with_reducible refine Tw.seq ?_
      | with_reducible refine Tw.reg ?_
      | with_reducible refine Tw.block ?_
      | with_reducible refine Tw.scope ?_
      | with_reducible refine Tw.skip ?_
      | with_reducible refine Tw.exit ?_
      | with_reducible refine Tw.ret ?_
      | with_reducible refine seqN ?_
      | with_reducible refine seqR ?_
      | with_reducible refine seqE ?_
      | with_reducible refine blkN ?_
      | with_reducible refine blkR ?_
      | with_reducible refine blkE1 ?_
      | with_reducible refine blkE0 (by kernel_rfl) ?_
      | with_reducible refine scpN ?_
      | with_reducible refine scpR ?_
      | with_reducible refine scpE ?_
      | with_reducible refine TOps.nil ?_
      | with_reducible exact Conj.nil
      | with_reducible refine Conj.cons rfl ?_
      | with_reducible refine Conj.same ?_
      | with_reducible refine Conj.ask ?_ ?_
      | ((with_reducible refine TOps.any ?_); refine TOps.frunP env (by rfl) (by rfl) ?_ ?_)
      | with_reducible refine Tw.regd env ?_
      | ((with_reducible refine TDr.any ?_); refine TDr.frunP env (by rfl) (by rfl) ?_ ?_)
      | with_reducible refine TDr.nil ⟨by kernel_rfl, ?_⟩
      | ((with_reducible refine TOps.any ?_); refine TOps.strip env (by rfl) (by rfl) ?_ ?_)
      | ((with_reducible refine TOps.any ?_); (fail_if_success refine TOps.known (by rfl) ?_); refine TOps.ask (by rfl) (fun h => ?_) (fun h => ?_) <;> (try simp only [decide_eq_true_eq, decide_eq_false_iff_not, Bool.or_eq_true, Bool.and_eq_true, Bool.or_eq_false_iff, Bool.and_eq_false_iff, Bool.not_eq_true', Bool.not_eq_false', Int.not_lt, Int.not_le, Int.toNat_natCast, Int.toNat_zero, cond_false, cond_true, Bool.not_not] at h) <;> (try simp only [rdi, Int.toNat_natCast, Nat.add_zero] at h))
      | ((with_reducible refine Tw.any ?_); refine Tw.condT (by rfl) ?_)
      | ((with_reducible refine Tw.any ?_); refine Tw.condF (by rfl) ?_)
      | ((with_reducible refine Tw.any ?_); refine Tw.cond (by rfl) (fun h => ?_) (fun h => ?_) <;> (try simp only [decide_eq_true_eq, decide_eq_false_iff_not, Bool.or_eq_true, Bool.and_eq_true, Bool.or_eq_false_iff, Bool.and_eq_false_iff, Bool.not_eq_true', Bool.not_eq_false', Int.not_lt, Int.not_le, Int.toNat_natCast, Int.toNat_zero, cond_false, cond_true, Bool.not_not] at h) <;> (try simp only [rdi, Int.toNat_natCast, Nat.add_zero] at h))
      | ((with_reducible refine tret.any ?_); first | refine tret.ok (by rfl) ?_ | refine tret.okN (by rfl) ?_)
      | ((with_reducible refine Due.mk ?_); (first | with_reducible rfl | omega | assumption | decide | ((try simp only [decide_eq_true_eq, decide_eq_false_iff_not, Bool.or_eq_true, Bool.and_eq_true, Bool.or_eq_false_iff, Bool.and_eq_false_iff, Bool.not_eq_true', Bool.not_eq_false', Int.not_lt, Int.not_le, Int.toNat_natCast, Int.toNat_zero, cond_false, cond_true, Bool.not_not] at *) <;> (try intro h) <;> (try intro h') <;> (try simp only [decide_eq_true_eq, decide_eq_false_iff_not, Bool.or_eq_true, Bool.and_eq_true, Bool.or_eq_false_iff, Bool.and_eq_false_iff, Bool.not_eq_true', Bool.not_eq_false', Int.not_lt, Int.not_le, Int.toNat_natCast, Int.toNat_zero, cond_false, cond_true, Bool.not_not] at *) <;> (try simp only [rdi, Int.toNat_natCast, Nat.add_zero] at *) <;> (try simp only [rng]) <;> (first | assumption | omega)) | (intros; simp; done) | (intros; simp; omega)))
      | with_reducible refine Due.mk ?_
      | omega)
  rcases hi with rfl | ⟨rfl, hi⟩ | ⟨rfl, hi⟩ | ⟨rfl, hi⟩
  · repeat' (first
      | refine ⟨1, ?_, ?_, TWk.fcanon env [] (by rfl) ?_⟩
      | with_reducible refine Tw.seq ?_
      | with_reducible refine Tw.reg ?_
      | with_reducible refine Tw.block ?_
      | with_reducible refine Tw.scope ?_
      | with_reducible refine Tw.skip ?_
      | with_reducible refine Tw.exit ?_
      | with_reducible refine Tw.ret ?_
      | with_reducible refine seqN ?_
      | with_reducible refine seqR ?_
      | with_reducible refine seqE ?_
      | with_reducible refine blkN ?_
      | with_reducible refine blkR ?_
      | with_reducible refine blkE1 ?_
      | with_reducible refine blkE0 (by kernel_rfl) ?_
      | with_reducible refine scpN ?_
      | with_reducible refine scpR ?_
      | with_reducible refine scpE ?_
      | with_reducible refine TOps.nil ?_
      | with_reducible exact Conj.nil
      | with_reducible refine Conj.cons rfl ?_
      | with_reducible refine Conj.same ?_
      | with_reducible refine Conj.ask ?_ ?_
      | ((with_reducible refine TOps.any ?_); refine TOps.frunP env (by rfl) (by rfl) ?_ ?_)
      | with_reducible refine Tw.regd env ?_
      | ((with_reducible refine TDr.any ?_); refine TDr.frunP env (by rfl) (by rfl) ?_ ?_)
      | with_reducible refine TDr.nil ⟨by kernel_rfl, ?_⟩
      | ((with_reducible refine TOps.any ?_); refine TOps.strip env (by rfl) (by rfl) ?_ ?_)
      | ((with_reducible refine TOps.any ?_); (fail_if_success refine TOps.known (by rfl) ?_); refine TOps.ask (by rfl) (fun h => ?_) (fun h => ?_) <;> (try simp only [decide_eq_true_eq, decide_eq_false_iff_not, Bool.or_eq_true, Bool.and_eq_true, Bool.or_eq_false_iff, Bool.and_eq_false_iff, Bool.not_eq_true', Bool.not_eq_false', Int.not_lt, Int.not_le, Int.toNat_natCast, Int.toNat_zero, cond_false, cond_true, Bool.not_not] at h) <;> (try simp only [rdi, Int.toNat_natCast, Nat.add_zero] at h))
      | ((with_reducible refine Tw.any ?_); refine Tw.condT (by rfl) ?_)
      | ((with_reducible refine Tw.any ?_); refine Tw.condF (by rfl) ?_)
      | ((with_reducible refine Tw.any ?_); refine Tw.cond (by rfl) (fun h => ?_) (fun h => ?_) <;> (try simp only [decide_eq_true_eq, decide_eq_false_iff_not, Bool.or_eq_true, Bool.and_eq_true, Bool.or_eq_false_iff, Bool.and_eq_false_iff, Bool.not_eq_true', Bool.not_eq_false', Int.not_lt, Int.not_le, Int.toNat_natCast, Int.toNat_zero, cond_false, cond_true, Bool.not_not] at h) <;> (try simp only [rdi, Int.toNat_natCast, Nat.add_zero] at h))
      | ((with_reducible refine tret.any ?_); first | refine tret.ok (by rfl) ?_ | refine tret.okN (by rfl) ?_)
      | ((with_reducible refine Due.mk ?_); (first | with_reducible rfl | omega | assumption | decide | ((try simp only [decide_eq_true_eq, decide_eq_false_iff_not, Bool.or_eq_true, Bool.and_eq_true, Bool.or_eq_false_iff, Bool.and_eq_false_iff, Bool.not_eq_true', Bool.not_eq_false', Int.not_lt, Int.not_le, Int.toNat_natCast, Int.toNat_zero, cond_false, cond_true, Bool.not_not] at *) <;> (try intro h) <;> (try intro h') <;> (try simp only [decide_eq_true_eq, decide_eq_false_iff_not, Bool.or_eq_true, Bool.and_eq_true, Bool.or_eq_false_iff, Bool.and_eq_false_iff, Bool.not_eq_true', Bool.not_eq_false', Int.not_lt, Int.not_le, Int.toNat_natCast, Int.toNat_zero, cond_false, cond_true, Bool.not_not] at *) <;> (try simp only [rdi, Int.toNat_natCast, Nat.add_zero] at *) <;> (try simp only [rng]) <;> (first | assumption | omega)) | (intros; simp; done) | (intros; simp; omega)))
      | with_reducible refine Due.mk ?_
      | omega)
    exact ⟨rfl, by rw [if_neg (by unfold xyzOk; omega)], rfl⟩
  · repeat' (first
      | refine ⟨2, ?_, ?_, TWk.fcanon env [] (by rfl) ?_⟩
      | with_reducible refine Tw.seq ?_
      | with_reducible refine Tw.reg ?_
      | with_reducible refine Tw.block ?_
      | with_reducible refine Tw.scope ?_
      | with_reducible refine Tw.skip ?_
      | with_reducible refine Tw.exit ?_
      | with_reducible refine Tw.ret ?_
      | with_reducible refine seqN ?_
      | with_reducible refine seqR ?_
      | with_reducible refine seqE ?_
      | with_reducible refine blkN ?_
      | with_reducible refine blkR ?_
      | with_reducible refine blkE1 ?_
      | with_reducible refine blkE0 (by kernel_rfl) ?_
      | with_reducible refine scpN ?_
      | with_reducible refine scpR ?_
      | with_reducible refine scpE ?_
      | with_reducible refine TOps.nil ?_
      | with_reducible exact Conj.nil
      | with_reducible refine Conj.cons rfl ?_
      | with_reducible refine Conj.same ?_
      | with_reducible refine Conj.ask ?_ ?_
      | ((with_reducible refine TOps.any ?_); refine TOps.frunP env (by rfl) (by rfl) ?_ ?_)
      | with_reducible refine Tw.regd env ?_
      | ((with_reducible refine TDr.any ?_); refine TDr.frunP env (by rfl) (by rfl) ?_ ?_)
      | with_reducible refine TDr.nil ⟨by kernel_rfl, ?_⟩
      | ((with_reducible refine TOps.any ?_); refine TOps.strip env (by rfl) (by rfl) ?_ ?_)
      | ((with_reducible refine TOps.any ?_); (fail_if_success refine TOps.known (by rfl) ?_); refine TOps.ask (by rfl) (fun h => ?_) (fun h => ?_) <;> (try simp only [decide_eq_true_eq, decide_eq_false_iff_not, Bool.or_eq_true, Bool.and_eq_true, Bool.or_eq_false_iff, Bool.and_eq_false_iff, Bool.not_eq_true', Bool.not_eq_false', Int.not_lt, Int.not_le, Int.toNat_natCast, Int.toNat_zero, cond_false, cond_true, Bool.not_not] at h) <;> (try simp only [rdi, Int.toNat_natCast, Nat.add_zero] at h))
      | ((with_reducible refine Tw.any ?_); refine Tw.condT (by rfl) ?_)
      | ((with_reducible refine Tw.any ?_); refine Tw.condF (by rfl) ?_)
      | ((with_reducible refine Tw.any ?_); refine Tw.cond (by rfl) (fun h => ?_) (fun h => ?_) <;> (try simp only [decide_eq_true_eq, decide_eq_false_iff_not, Bool.or_eq_true, Bool.and_eq_true, Bool.or_eq_false_iff, Bool.and_eq_false_iff, Bool.not_eq_true', Bool.not_eq_false', Int.not_lt, Int.not_le, Int.toNat_natCast, Int.toNat_zero, cond_false, cond_true, Bool.not_not] at h) <;> (try simp only [rdi, Int.toNat_natCast, Nat.add_zero] at h))
      | ((with_reducible refine tret.any ?_); first | refine tret.ok (by rfl) ?_ | refine tret.okN (by rfl) ?_)
      | ((with_reducible refine Due.mk ?_); (first | with_reducible rfl | omega | assumption | decide | ((try simp only [decide_eq_true_eq, decide_eq_false_iff_not, Bool.or_eq_true, Bool.and_eq_true, Bool.or_eq_false_iff, Bool.and_eq_false_iff, Bool.not_eq_true', Bool.not_eq_false', Int.not_lt, Int.not_le, Int.toNat_natCast, Int.toNat_zero, cond_false, cond_true, Bool.not_not] at *) <;> (try intro h) <;> (try intro h') <;> (try simp only [decide_eq_true_eq, decide_eq_false_iff_not, Bool.or_eq_true, Bool.and_eq_true, Bool.or_eq_false_iff, Bool.and_eq_false_iff, Bool.not_eq_true', Bool.not_eq_false', Int.not_lt, Int.not_le, Int.toNat_natCast, Int.toNat_zero, cond_false, cond_true, Bool.not_not] at *) <;> (try simp only [rdi, Int.toNat_natCast, Nat.add_zero] at *) <;> (try simp only [rng]) <;> (first | assumption | omega)) | (intros; simp; done) | (intros; simp; omega)))
      | with_reducible refine Due.mk ?_
      | omega)
    exact ⟨rfl, by rw [if_neg (by unfold xyzOk; omega)], rfl⟩
  · repeat' (first
      | refine ⟨3, ?_, ?_, TWk.fcanon env [] (by rfl) ?_⟩
      | with_reducible refine Tw.seq ?_
      | with_reducible refine Tw.reg ?_
      | with_reducible refine Tw.block ?_
      | with_reducible refine Tw.scope ?_
      | with_reducible refine Tw.skip ?_
      | with_reducible refine Tw.exit ?_
      | with_reducible refine Tw.ret ?_
      | with_reducible refine seqN ?_
      | with_reducible refine seqR ?_
      | with_reducible refine seqE ?_
      | with_reducible refine blkN ?_
      | with_reducible refine blkR ?_
      | with_reducible refine blkE1 ?_
      | with_reducible refine blkE0 (by kernel_rfl) ?_
      | with_reducible refine scpN ?_
      | with_reducible refine scpR ?_
      | with_reducible refine scpE ?_
      | with_reducible refine TOps.nil ?_
      | with_reducible exact Conj.nil
      | with_reducible refine Conj.cons rfl ?_
      | with_reducible refine Conj.same ?_
      | with_reducible refine Conj.ask ?_ ?_
      | ((with_reducible refine TOps.any ?_); refine TOps.frunP env (by rfl) (by rfl) ?_ ?_)
      | with_reducible refine Tw.regd env ?_
      | ((with_reducible refine TDr.any ?_); refine TDr.frunP env (by rfl) (by rfl) ?_ ?_)
      | with_reducible refine TDr.nil ⟨by kernel_rfl, ?_⟩
      | ((with_reducible refine TOps.any ?_); refine TOps.strip env (by rfl) (by rfl) ?_ ?_)
      | ((with_reducible refine TOps.any ?_); (fail_if_success refine TOps.known (by rfl) ?_); refine TOps.ask (by rfl) (fun h => ?_) (fun h => ?_) <;> (try simp only [decide_eq_true_eq, decide_eq_false_iff_not, Bool.or_eq_true, Bool.and_eq_true, Bool.or_eq_false_iff, Bool.and_eq_false_iff, Bool.not_eq_true', Bool.not_eq_false', Int.not_lt, Int.not_le, Int.toNat_natCast, Int.toNat_zero, cond_false, cond_true, Bool.not_not] at h) <;> (try simp only [rdi, Int.toNat_natCast, Nat.add_zero] at h))
      | ((with_reducible refine Tw.any ?_); refine Tw.condT (by rfl) ?_)
      | ((with_reducible refine Tw.any ?_); refine Tw.condF (by rfl) ?_)
      | ((with_reducible refine Tw.any ?_); refine Tw.cond (by rfl) (fun h => ?_) (fun h => ?_) <;> (try simp only [decide_eq_true_eq, decide_eq_false_iff_not, Bool.or_eq_true, Bool.and_eq_true, Bool.or_eq_false_iff, Bool.and_eq_false_iff, Bool.not_eq_true', Bool.not_eq_false', Int.not_lt, Int.not_le, Int.toNat_natCast, Int.toNat_zero, cond_false, cond_true, Bool.not_not] at h) <;> (try simp only [rdi, Int.toNat_natCast, Nat.add_zero] at h))
      | ((with_reducible refine tret.any ?_); first | refine tret.ok (by rfl) ?_ | refine tret.okN (by rfl) ?_)
      | ((with_reducible refine Due.mk ?_); (first | with_reducible rfl | omega | assumption | decide | ((try simp only [decide_eq_true_eq, decide_eq_false_iff_not, Bool.or_eq_true, Bool.and_eq_true, Bool.or_eq_false_iff, Bool.and_eq_false_iff, Bool.not_eq_true', Bool.not_eq_false', Int.not_lt, Int.not_le, Int.toNat_natCast, Int.toNat_zero, cond_false, cond_true, Bool.not_not] at *) <;> (try intro h) <;> (try intro h') <;> (try simp only [decide_eq_true_eq, decide_eq_false_iff_not, Bool.or_eq_true, Bool.and_eq_true, Bool.or_eq_false_iff, Bool.and_eq_false_iff, Bool.not_eq_true', Bool.not_eq_false', Int.not_lt, Int.not_le, Int.toNat_natCast, Int.toNat_zero, cond_false, cond_true, Bool.not_not] at *) <;> (try simp only [rdi, Int.toNat_natCast, Nat.add_zero] at *) <;> (try simp only [rng]) <;> (first | assumption | omega)) | (intros; simp; done) | (intros; simp; omega)))
      | with_reducible refine Due.mk ?_
      | omega)
    · exact ⟨rfl, by rw [if_neg (by unfold xyzOk; omega)], rfl⟩
    · unfold xyzOk; omega
  · repeat' (first
      | with_reducible refine Tw.seq ?_
      | with_reducible refine Tw.reg ?_
      | with_reducible refine Tw.block ?_
      | with_reducible refine Tw.scope ?_
      | with_reducible refine Tw.skip ?_
      | with_reducible refine Tw.exit ?_
      | with_reducible refine Tw.ret ?_
      | with_reducible refine seqN ?_
      | with_reducible refine seqR ?_
      | with_reducible refine seqE ?_
      | with_reducible refine blkN ?_
      | with_reducible refine blkR ?_
      | with_reducible refine blkE1 ?_
      | with_reducible refine blkE0 (by kernel_rfl) ?_
      | with_reducible refine scpN ?_
      | with_reducible refine scpR ?_
      | with_reducible refine scpE ?_
      | with_reducible refine TOps.nil ?_
      | with_reducible exact Conj.nil
      | with_reducible refine Conj.cons rfl ?_
      | with_reducible refine Conj.same ?_
      | with_reducible refine Conj.ask ?_ ?_
      | ((with_reducible refine TOps.any ?_); refine TOps.frunP env (by rfl) (by rfl) ?_ ?_)
      | with_reducible refine Tw.regd env ?_
      | ((with_reducible refine TDr.any ?_); refine TDr.frunP env (by rfl) (by rfl) ?_ ?_)
      | with_reducible refine TDr.nil ⟨by kernel_rfl, ?_⟩
      | ((with_reducible refine TOps.any ?_); refine TOps.strip env (by rfl) (by rfl) ?_ ?_)
      | ((with_reducible refine TOps.any ?_); (fail_if_success refine TOps.known (by rfl) ?_); refine TOps.ask (by rfl) (fun h => ?_) (fun h => ?_) <;> (try simp only [decide_eq_true_eq, decide_eq_false_iff_not, Bool.or_eq_true, Bool.and_eq_true, Bool.or_eq_false_iff, Bool.and_eq_false_iff, Bool.not_eq_true', Bool.not_eq_false', Int.not_lt, Int.not_le, Int.toNat_natCast, Int.toNat_zero, cond_false, cond_true, Bool.not_not] at h) <;> (try simp only [rdi, Int.toNat_natCast, Nat.add_zero] at h))
      | ((with_reducible refine Tw.any ?_); refine Tw.condT (by rfl) ?_)
      | ((with_reducible refine Tw.any ?_); refine Tw.condF (by rfl) ?_)
      | ((with_reducible refine Tw.any ?_); refine Tw.cond (by rfl) (fun h => ?_) (fun h => ?_) <;> (try simp only [decide_eq_true_eq, decide_eq_false_iff_not, Bool.or_eq_true, Bool.and_eq_true, Bool.or_eq_false_iff, Bool.and_eq_false_iff, Bool.not_eq_true', Bool.not_eq_false', Int.not_lt, Int.not_le, Int.toNat_natCast, Int.toNat_zero, cond_false, cond_true, Bool.not_not] at h) <;> (try simp only [rdi, Int.toNat_natCast, Nat.add_zero] at h))
      | ((with_reducible refine tret.any ?_); first | refine tret.ok (by rfl) ?_ | refine tret.okN (by rfl) ?_)
      | ((with_reducible refine Due.mk ?_); (first | with_reducible rfl | omega | assumption | decide | ((try simp only [decide_eq_true_eq, decide_eq_false_iff_not, Bool.or_eq_true, Bool.and_eq_true, Bool.or_eq_false_iff, Bool.and_eq_false_iff, Bool.not_eq_true', Bool.not_eq_false', Int.not_lt, Int.not_le, Int.toNat_natCast, Int.toNat_zero, cond_false, cond_true, Bool.not_not] at *) <;> (try intro h) <;> (try intro h') <;> (try simp only [decide_eq_true_eq, decide_eq_false_iff_not, Bool.or_eq_true, Bool.and_eq_true, Bool.or_eq_false_iff, Bool.and_eq_false_iff, Bool.not_eq_true', Bool.not_eq_false', Int.not_lt, Int.not_le, Int.toNat_natCast, Int.toNat_zero, cond_false, cond_true, Bool.not_not] at *) <;> (try simp only [rdi, Int.toNat_natCast, Nat.add_zero] at *) <;> (try simp only [rng]) <;> (first | assumption | omega)) | (intros; simp; done) | (intros; simp; omega)))
      | with_reducible refine Due.mk ?_
      | omega)
    exact ⟨rfl, by rw [if_pos hi], rfl⟩
theorem checkWhite_c (x y z : Int) : TC R Try.prog refspace_CheckWhite_f [.agg [.int .i64 x, .int .i64 y, .int .i64 z]] [] (fun v X => v = .int .i64 (if whiteOk x y z then 0 else 3) ∧ X = []) := by
  refine tc0 env refspace_CheckWhite_s (by rfl) ?_
  dsimp only [refspace_CheckWhite_c]
  repeat' (first
    | with_reducible refine Tw.seq ?_
    | with_reducible refine Tw.reg ?_
    | with_reducible refine Tw.block ?_
    | with_reducible refine Tw.scope ?_
    | with_reducible refine Tw.skip ?_
    | with_reducible refine Tw.exit ?_
    | with_reducible refine Tw.ret ?_
    | with_reducible refine seqN ?_
    | with_reducible refine seqR ?_
    | with_reducible refine seqE ?_
    | with_reducible refine blkN ?_
    | with_reducible refine blkR ?_
    | with_reducible refine blkE1 ?_
    | with_reducible refine blkE0 (by kernel_rfl) ?_
    | with_reducible refine scpN ?_
    | with_reducible refine scpR ?_
    | with_reducible refine scpE ?_
    | with_reducible refine TOps.nil ?_
    | with_reducible exact Conj.nil
    | with_reducible refine Conj.cons rfl ?_
    | with_reducible refine Conj.same ?_
    | with_reducible refine Conj.ask ?_ ?_
    | ((with_reducible refine TOps.any ?_); refine TOps.frunP env (by rfl) (by rfl) ?_ ?_)
    | with_reducible refine Tw.regd env ?_
    | ((with_reducible refine TDr.any ?_); refine TDr.frunP env (by rfl) (by rfl) ?_ ?_)
    | with_reducible refine TDr.nil ⟨by kernel_rfl, ?_⟩
    | ((with_reducible refine TOps.any ?_); refine TOps.strip env (by rfl) (by rfl) ?_ ?_)
    | ((with_reducible refine TOps.any ?_); (fail_if_success refine TOps.known (by rfl) ?_); refine TOps.ask (by rfl) (fun h => ?_) (fun h => ?_) <;> (try simp only [decide_eq_true_eq, decide_eq_false_iff_not, Bool.or_eq_true, Bool.and_eq_true, Bool.or_eq_false_iff, Bool.and_eq_false_iff, Bool.not_eq_true', Bool.not_eq_false', Int.not_lt, Int.not_le, Int.toNat_natCast, Int.toNat_zero, cond_false, cond_true, Bool.not_not] at h) <;> (try simp only [rdi, Int.toNat_natCast, Nat.add_zero] at h))
    | ((with_reducible refine Tw.any ?_); refine Tw.condT (by rfl) ?_)
    | ((with_reducible refine Tw.any ?_); refine Tw.condF (by rfl) ?_)
    | ((with_reducible refine Tw.any ?_); refine Tw.cond (by rfl) (fun h => ?_) (fun h => ?_) <;> (try simp only [decide_eq_true_eq, decide_eq_false_iff_not, Bool.or_eq_true, Bool.and_eq_true, Bool.or_eq_false_iff, Bool.and_eq_false_iff, Bool.not_eq_true', Bool.not_eq_false', Int.not_lt, Int.not_le, Int.toNat_natCast, Int.toNat_zero, cond_false, cond_true, Bool.not_not] at h) <;> (try simp only [rdi, Int.toNat_natCast, Nat.add_zero] at h))
    | ((with_reducible refine tret.any ?_); first | refine tret.ok (by rfl) ?_ | refine tret.okN (by rfl) ?_)
    | ((with_reducible refine Due.mk ?_); (first | with_reducible rfl | omega | assumption | decide | ((try simp only [decide_eq_true_eq, decide_eq_false_iff_not, Bool.or_eq_true, Bool.and_eq_true, Bool.or_eq_false_iff, Bool.and_eq_false_iff, Bool.not_eq_true', Bool.not_eq_false', Int.not_lt, Int.not_le, Int.toNat_natCast, Int.toNat_zero, cond_false, cond_true, Bool.not_not] at *) <;> (try intro h) <;> (try intro h') <;> (try simp only [decide_eq_true_eq, decide_eq_false_iff_not, Bool.or_eq_true, Bool.and_eq_true, Bool.or_eq_false_iff, Bool.and_eq_false_iff, Bool.not_eq_true', Bool.not_eq_false', Int.not_lt, Int.not_le, Int.toNat_natCast, Int.toNat_zero, cond_false, cond_true, Bool.not_not] at *) <;> (try simp only [rdi, Int.toNat_natCast, Nat.add_zero] at *) <;> (try simp only [rng]) <;> (first | assumption | omega)) | (intros; simp; done) | (intros; simp; omega)))
    | with_reducible refine Due.mk ?_
    | omega)
  refine Tw.loopK [11] (fun i : Nat => i = 0 ∨ (i = 1 ∧ 80000 ≤ x ∧ x ≤ 120000) ∨ (i = 2 ∧ 80000 ≤ x ∧ x ≤ 120000 ∧ 80000 ≤ y ∧ y ≤ 120000) ∨ (i = 3 ∧ whiteOk x y z)) (fun i => 3 - i) (fun i => [(12, .int .i64 i)]) (fun _ => []) ⟨0, .inl rfl, TWk.fcanon env [] (by rfl) ?_⟩ (fun i hi => ?_)
  · repeat' (first
      | with_reducible refine Tw.seq ?_
      | with_reducible refine Tw.reg ?_
      | with_reducible refine Tw.block ?_
      | with_reducible refine Tw.scope ?_
      | with_reducible refine Tw.skip ?_
      | with_reducible refine Tw.exit ?_
      | with_reducible refine Tw.ret ?_
      | with_reducible refine seqN ?_
      | with_reducible refine seqR ?_
      | with_reducible refine seqE ?_
      | with_reducible refine blkN ?_
      | with_reducible refine blkR ?_
      | with_reducible refine blkE1 ?_
      | with_reducible refine blkE0 (by kernel_rfl) ?_
      | with_reducible refine scpN ?_
      | with_reducible refine scpR ?_
      | with_reducible refine scpE ?_
      | with_reducible refine TOps.nil ?_
      | with_reducible exact Conj.nil
      | with_reducible refine Conj.cons rfl ?_
      | with_reducible refine Conj.same ?_
      | with_reducible refine Conj.ask ?_ ?_
      | ((with_reducible refine TOps.any ?_); refine TOps.frunP env (by rfl) (by rfl) ?_ ?_)
      | with_reducible refine Tw.regd env ?_
      | ((with_reducible refine TDr.any ?_); refine TDr.frunP env (by rfl) (by rfl) ?_ ?_)
      | with_reducible refine TDr.nil ⟨by kernel_rfl, ?_⟩
      | ((with_reducible refine TOps.any ?_); refine TOps.strip env (by rfl) (by rfl) ?_ ?_)
      | ((with_reducible refine TOps.any ?_); (fail_if_success refine TOps.known (by rfl) ?_); refine TOps.ask (by rfl) (fun h => ?_) (fun h => ?_) <;> (try simp only [decide_eq_true_eq, decide_eq_false_iff_not, Bool.or_eq_true, Bool.and_eq_true, Bool.or_eq_false_iff, Bool.and_eq_false_iff, Bool.not_eq_true', Bool.not_eq_false', Int.not_lt, Int.not_le, Int.toNat_natCast, Int.toNat_zero, cond_false, cond_true, Bool.not_not] at h) <;> (try simp only [rdi, Int.toNat_natCast, Nat.add_zero] at h))
      | ((with_reducible refine Tw.any ?_); refine Tw.condT (by rfl) ?_)
      | ((with_reducible refine Tw.any ?_); refine Tw.condF (by rfl) ?_)
      | ((with_reducible refine Tw.any ?_); refine Tw.cond (by rfl) (fun h => ?_) (fun h => ?_) <;> (try simp only [decide_eq_true_eq, decide_eq_false_iff_not, Bool.or_eq_true, Bool.and_eq_true, Bool.or_eq_false_iff, Bool.and_eq_false_iff, Bool.not_eq_true', Bool.not_eq_false', Int.not_lt, Int.not_le, Int.toNat_natCast, Int.toNat_zero, cond_false, cond_true, Bool.not_not] at h) <;> (try simp only [rdi, Int.toNat_natCast, Nat.add_zero] at h))
      | ((with_reducible refine tret.any ?_); first | refine tret.ok (by rfl) ?_ | refine tret.okN (by rfl) ?_)
      | ((with_reducible refine Due.mk ?_); (first | with_reducible rfl | omega | assumption | decide | ((try simp only [decide_eq_true_eq, decide_eq_false_iff_not, Bool.or_eq_true, Bool.and_eq_true, Bool.or_eq_false_iff, Bool.and_eq_false_iff, Bool.not_eq_true', Bool.not_eq_false', Int.not_lt, Int.not_le, Int.toNat_natCast, Int.toNat_zero, cond_false, cond_true, Bool.not_not] at *) <;> (try intro h) <;> (try intro h') <;> (try simp only [decide_eq_true_eq, decide_eq_false_iff_not, Bool.or_eq_true, Bool.and_eq_true, Bool.or_eq_false_iff, Bool.and_eq_false_iff, Bool.not_eq_true', Bool.not_eq_false', Int.not_lt, Int.not_le, Int.toNat_natCast, Int.toNat_zero, cond_false, cond_true, Bool.not_not] at *) <;> (try simp only [rdi, Int.toNat_natCast, Nat.add_zero] at *) <;> (try simp only [rng]) <;> (first | assumption | omega)) | (intros; simp; done) | (intros; simp; omega)))
      | with_reducible refine Due.mk ?_
      | omega)
  rcases hi with rfl | ⟨rfl, hi⟩ | ⟨rfl, hi⟩ | ⟨rfl, hi⟩
  · repeat' (first
      | refine ⟨1, ?_, ?_, TWk.fcanon env [] (by rfl) ?_⟩
      | with_reducible refine Tw.seq ?_
      | with_reducible refine Tw.reg ?_
      | with_reducible refine Tw.block ?_
      | with_reducible refine Tw.scope ?_
      | with_reducible refine Tw.skip ?_
      | with_reducible refine Tw.exit ?_
      | with_reducible refine Tw.ret ?_
      | with_reducible refine seqN ?_
      | with_reducible refine seqR ?_
      | with_reducible refine seqE ?_
      | with_reducible refine blkN ?_
      | with_reducible refine blkR ?_
      | with_reducible refine blkE1 ?_
      | with_reducible refine blkE0 (by kernel_rfl) ?_
      | with_reducible refine scpN ?_
      | with_reducible refine scpR ?_
      | with_reducible refine scpE ?_
      | with_reducible refine TOps.nil ?_
      | with_reducible exact Conj.nil
      | with_reducible refine Conj.cons rfl ?_
      | with_reducible refine Conj.same ?_
      | with_reducible refine Conj.ask ?_ ?_
      | ((with_reducible refine TOps.any ?_); refine TOps.frunP env (by rfl) (by rfl) ?_ ?_)
      | with_reducible refine Tw.regd env ?_
      | ((with_reducible refine TDr.any ?_); refine TDr.frunP env (by rfl) (by rfl) ?_ ?_)
      | with_reducible refine TDr.nil ⟨by kernel_rfl, ?_⟩
      | ((with_reducible refine TOps.any ?_); refine TOps.strip env (by rfl) (by rfl) ?_ ?_)
      | ((with_reducible refine TOps.any ?_); (fail_if_success refine TOps.known (by rfl) ?_); refine TOps.ask (by rfl) (fun h => ?_) (fun h => ?_) <;> (try simp only [decide_eq_true_eq, decide_eq_false_iff_not, Bool.or_eq_true, Bool.and_eq_true, Bool.or_eq_false_iff, Bool.and_eq_false_iff, Bool.not_eq_true', Bool.not_eq_false', Int.not_lt, Int.not_le, Int.toNat_natCast, Int.toNat_zero, cond_false, cond_true, Bool.not_not] at h) <;> (try simp only [rdi, Int.toNat_natCast, Nat.add_zero] at h))
      | ((with_reducible refine Tw.any ?_); refine Tw.condT (by rfl) ?_)
      | ((with_reducible refine Tw.any ?_); refine Tw.condF (by rfl) ?_)
      | ((with_reducible refine Tw.any ?_); refine Tw.cond (by rfl) (fun h => ?_) (fun h => ?_) <;> (try simp only [decide_eq_true_eq, decide_eq_false_iff_not, Bool.or_eq_true, Bool.and_eq_true, Bool.or_eq_false_iff, Bool.and_eq_false_iff, Bool.not_eq_true', Bool.not_eq_false', Int.not_lt, Int.not_le, Int.toNat_natCast, Int.toNat_zero, cond_false, cond_true, Bool.not_not] at h) <;> (try simp only [rdi, Int.toNat_natCast, Nat.add_zero] at h))
      | ((with_reducible refine tret.any ?_); first | refine tret.ok (by rfl) ?_ | refine tret.okN (by rfl) ?_)
      | ((with_reducible refine Due.mk ?_); (first | with_reducible rfl | omega | assumption | decide | ((try simp only [decide_eq_true_eq, decide_eq_false_iff_not, Bool.or_eq_true, Bool.and_eq_true, Bool.or_eq_false_iff, Bool.and_eq_false_iff, Bool.not_eq_true', Bool.not_eq_false', Int.not_lt, Int.not_le, Int.toNat_natCast, Int.toNat_zero, cond_false, cond_true, Bool.not_not] at *) <;> (try intro h) <;> (try intro h') <;> (try simp only [decide_eq_true_eq, decide_eq_false_iff_not, Bool.or_eq_true, Bool.and_eq_true, Bool.or_eq_false_iff, Bool.and_eq_false_iff, Bool.not_eq_true', Bool.not_eq_false', Int.not_lt, Int.not_le, Int.toNat_natCast, Int.toNat_zero, cond_false, cond_true, Bool.not_not] at *) <;> (try simp only [rdi, Int.toNat_natCast, Nat.add_zero] at *) <;> (try simp only [rng]) <;> (first | assumption | omega)) | (intros; simp; done) | (intros; simp; omega)))
      | with_reducible refine Due.mk ?_
      | omega)
    exact ⟨rfl, by rw [if_neg (by unfold whiteOk; omega)], rfl⟩
  · repeat' (first
      | refine ⟨2, ?_, ?_, TWk.fcanon env [] (by rfl) ?_⟩
      | with_reducible refine Tw.seq ?_
      | with_reducible refine Tw.reg ?_
      | with_reducible refine Tw.block ?_
      | with_reducible refine Tw.scope ?_
      | with_reducible refine Tw.skip ?_
      | with_reducible refine Tw.exit ?_
      | with_reducible refine Tw.ret ?_
      | with_reducible refine seqN ?_
      | with_reducible refine seqR ?_
      | with_reducible refine seqE ?_
      | with_reducible refine blkN ?_
      | with_reducible refine blkR ?_
      | with_reducible refine blkE1 ?_
      | with_reducible refine blkE0 (by kernel_rfl) ?_
      | with_reducible refine scpN ?_
      | with_reducible refine scpR ?_
      | with_reducible refine scpE ?_
      | with_reducible refine TOps.nil ?_
      | with_reducible exact Conj.nil
      | with_reducible refine Conj.cons rfl ?_
      | with_reducible refine Conj.same ?_
      | with_reducible refine Conj.ask ?_ ?_
      | ((with_reducible refine TOps.any ?_); refine TOps.frunP env (by rfl) (by rfl) ?_ ?_)
      | with_reducible refine Tw.regd env ?_
      | ((with_reducible refine TDr.any ?_); refine TDr.frunP env (by rfl) (by rfl) ?_ ?_)
      | with_reducible refine TDr.nil ⟨by kernel_rfl, ?_⟩
      | ((with_reducible refine TOps.any ?_); refine TOps.strip env (by rfl) (by rfl) ?_ ?_)
      | ((with_reducible refine TOps.any ?_); (fail_if_success refine TOps.known (by rfl) ?_); refine TOps.ask (by rfl) (fun h => ?_) (fun h => ?_) <;> (try simp only [decide_eq_true_eq, decide_eq_false_iff_not, Bool.or_eq_true, Bool.and_eq_true, Bool.or_eq_false_iff, Bool.and_eq_false_iff, Bool.not_eq_true', Bool.not_eq_false', Int.not_lt, Int.not_le, Int.toNat_natCast, Int.toNat_zero, cond_false, cond_true, Bool.not_not] at h) <;> (try simp only [rdi, Int.toNat_natCast, Nat.add_zero] at h))
      | ((with_reducible refine Tw.any ?_); refine Tw.condT (by rfl) ?_)
      | ((with_reducible refine Tw.any ?_); refine Tw.condF (by rfl) ?_)
      | ((with_reducible refine Tw.any ?_); refine Tw.cond (by rfl) (fun h => ?_) (fun h => ?_) <;> (try simp only [decide_eq_true_eq, decide_eq_false_iff_not, Bool.or_eq_true, Bool.and_eq_true, Bool.or_eq_false_iff, Bool.and_eq_false_iff, Bool.not_eq_true', Bool.not_eq_false', Int.not_lt, Int.not_le, Int.toNat_natCast, Int.toNat_zero, cond_false, cond_true, Bool.not_not] at h) <;> (try simp only [rdi, Int.toNat_natCast, Nat.add_zero] at h))
      | ((with_reducible refine tret.any ?_); first | refine tret.ok (by rfl) ?_ | refine tret.okN (by rfl) ?_)
      | ((with_reducible refine Due.mk ?_); (first | with_reducible rfl | omega | assumption | decide | ((try simp only [decide_eq_true_eq, decide_eq_false_iff_not, Bool.or_eq_true, Bool.and_eq_true, Bool.or_eq_false_iff, Bool.and_eq_false_iff, Bool.not_eq_true', Bool.not_eq_false', Int.not_lt, Int.not_le, Int.toNat_natCast, Int.toNat_zero, cond_false, cond_true, Bool.not_not] at *) <;> (try intro h) <;> (try intro h') <;> (try simp only [decide_eq_true_eq, decide_eq_false_iff_not, Bool.or_eq_true, Bool.and_eq_true, Bool.or_eq_false_iff, Bool.and_eq_false_iff, Bool.not_eq_true', Bool.not_eq_false', Int.not_lt, Int.not_le, Int.toNat_natCast, Int.toNat_zero, cond_false, cond_true, Bool.not_not] at *) <;> (try simp only [rdi, Int.toNat_natCast, Nat.add_zero] at *) <;> (try simp only [rng]) <;> (first | assumption | omega)) | (intros; simp; done) | (intros; simp; omega)))
      | with_reducible refine Due.mk ?_
      | omega)
    exact ⟨rfl, by rw [if_neg (by unfold whiteOk; omega)], rfl⟩
  · repeat' (first
      | refine ⟨3, ?_, ?_, TWk.fcanon env [] (by rfl) ?_⟩
      | with_reducible refine Tw.seq ?_
      | with_reducible refine Tw.reg ?_
      | with_reducible refine Tw.block ?_
      | with_reducible refine Tw.scope ?_
      | with_reducible refine Tw.skip ?_
      | with_reducible refine Tw.exit ?_
      | with_reducible refine Tw.ret ?_
      | with_reducible refine seqN ?_
      | with_reducible refine seqR ?_
      | with_reducible refine seqE ?_
      | with_reducible refine blkN ?_
      | with_reducible refine blkR ?_
      | with_reducible refine blkE1 ?_
      | with_reducible refine blkE0 (by kernel_rfl) ?_
      | with_reducible refine scpN ?_
      | with_reducible refine scpR ?_
      | with_reducible refine scpE ?_
      | with_reducible refine TOps.nil ?_
      | with_reducible exact Conj.nil
      | with_reducible refine Conj.cons rfl ?_
      | with_reducible refine Conj.same ?_
      | with_reducible refine Conj.ask ?_ ?_
      | ((with_reducible refine TOps.any ?_); refine TOps.frunP env (by rfl) (by rfl) ?_ ?_)
      | with_reducible refine Tw.regd env ?_
      | ((with_reducible refine TDr.any ?_); refine TDr.frunP env (by rfl) (by rfl) ?_ ?_)
      | with_reducible refine TDr.nil ⟨by kernel_rfl, ?_⟩
      | ((with_reducible refine TOps.any ?_); refine TOps.strip env (by rfl) (by rfl) ?_ ?_)
      | ((with_reducible refine TOps.any ?_); (fail_if_success refine TOps.known (by rfl) ?_); refine TOps.ask (by rfl) (fun h => ?_) (fun h => ?_) <;> (try simp only [decide_eq_true_eq, decide_eq_false_iff_not, Bool.or_eq_true, Bool.and_eq_true, Bool.or_eq_false_iff, Bool.and_eq_false_iff, Bool.not_eq_true', Bool.not_eq_false', Int.not_lt, Int.not_le, Int.toNat_natCast, Int.toNat_zero, cond_false, cond_true, Bool.not_not] at h) <;> (try simp only [rdi, Int.toNat_natCast, Nat.add_zero] at h))
      | ((with_reducible refine Tw.any ?_); refine Tw.condT (by rfl) ?_)
      | ((with_reducible refine Tw.any ?_); refine Tw.condF (by rfl) ?_)
      | ((with_reducible refine Tw.any ?_); refine Tw.cond (by rfl) (fun h => ?_) (fun h => ?_) <;> (try simp only [decide_eq_true_eq, decide_eq_false_iff_not, Bool.or_eq_true, Bool.and_eq_true, Bool.or_eq_false_iff, Bool.and_eq_false_iff, Bool.not_eq_true', Bool.not_eq_false', Int.not_lt, Int.not_le, Int.toNat_natCast, Int.toNat_zero, cond_false, cond_true, Bool.not_not] at h) <;> (try simp only [rdi, Int.toNat_natCast, Nat.add_zero] at h))
      | ((with_reducible refine tret.any ?_); first | refine tret.ok (by rfl) ?_ | refine tret.okN (by rfl) ?_)
      | ((with_reducible refine Due.mk ?_); (first | with_reducible rfl | omega | assumption | decide | ((try simp only [decide_eq_true_eq, decide_eq_false_iff_not, Bool.or_eq_true, Bool.and_eq_true, Bool.or_eq_false_iff, Bool.and_eq_false_iff, Bool.not_eq_true', Bool.not_eq_false', Int.not_lt, Int.not_le, Int.toNat_natCast, Int.toNat_zero, cond_false, cond_true, Bool.not_not] at *) <;> (try intro h) <;> (try intro h') <;> (try simp only [decide_eq_true_eq, decide_eq_false_iff_not, Bool.or_eq_true, Bool.and_eq_true, Bool.or_eq_false_iff, Bool.and_eq_false_iff, Bool.not_eq_true', Bool.not_eq_false', Int.not_lt, Int.not_le, Int.toNat_natCast, Int.toNat_zero, cond_false, cond_true, Bool.not_not] at *) <;> (try simp only [rdi, Int.toNat_natCast, Nat.add_zero] at *) <;> (try simp only [rng]) <;> (first | assumption | omega)) | (intros; simp; done) | (intros; simp; omega)))
      | with_reducible refine Due.mk ?_
      | omega)
    · exact ⟨rfl, by rw [if_neg (by unfold whiteOk; omega)], rfl⟩
    · unfold whiteOk; omega
  · repeat' (first
      | with_reducible refine Tw.seq ?_
      | with_reducible refine Tw.reg ?_
      | with_reducible refine Tw.block ?_
      | with_reducible refine Tw.scope ?_
      | with_reducible refine Tw.skip ?_
      | with_reducible refine Tw.exit ?_
      | with_reducible refine Tw.ret ?_
      | with_reducible refine seqN ?_
      | with_reducible refine seqR ?_
      | with_reducible refine seqE ?_
      | with_reducible refine blkN ?_
      | with_reducible refine blkR ?_
      | with_reducible refine blkE1 ?_
      | with_reducible refine blkE0 (by kernel_rfl) ?_
      | with_reducible refine scpN ?_
      | with_reducible refine scpR ?_
      | with_reducible refine scpE ?_
      | with_reducible refine TOps.nil ?_
      | with_reducible exact Conj.nil
      | with_reducible refine Conj.cons rfl ?_
      | with_reducible refine Conj.same ?_
      | with_reducible refine Conj.ask ?_ ?_
      | ((with_reducible refine TOps.any ?_); refine TOps.frunP env (by rfl) (by rfl) ?_ ?_)
      | with_reducible refine Tw.regd env ?_
      | ((with_reducible refine TDr.any ?_); refine TDr.frunP env (by rfl) (by rfl) ?_ ?_)
      | with_reducible refine TDr.nil ⟨by kernel_rfl, ?_⟩
      | ((with_reducible refine TOps.any ?_); refine TOps.strip env (by rfl) (by rfl) ?_ ?_)
      | ((with_reducible refine TOps.any ?_); (fail_if_success refine TOps.known (by rfl) ?_); refine TOps.ask (by rfl) (fun h => ?_) (fun h => ?_) <;> (try simp only [decide_eq_true_eq, decide_eq_false_iff_not, Bool.or_eq_true, Bool.and_eq_true, Bool.or_eq_false_iff, Bool.and_eq_false_iff, Bool.not_eq_true', Bool.not_eq_false', Int.not_lt, Int.not_le, Int.toNat_natCast, Int.toNat_zero, cond_false, cond_true, Bool.not_not] at h) <;> (try simp only [rdi, Int.toNat_natCast, Nat.add_zero] at h))
      | ((with_reducible refine Tw.any ?_); refine Tw.condT (by rfl) ?_)
      | ((with_reducible refine Tw.any ?_); refine Tw.condF (by rfl) ?_)
      | ((with_reducible refine Tw.any ?_); refine Tw.cond (by rfl) (fun h => ?_) (fun h => ?_) <;> (try simp only [decide_eq_true_eq, decide_eq_false_iff_not, Bool.or_eq_true, Bool.and_eq_true, Bool.or_eq_false_iff, Bool.and_eq_false_iff, Bool.not_eq_true', Bool.not_eq_false', Int.not_lt, Int.not_le, Int.toNat_natCast, Int.toNat_zero, cond_false, cond_true, Bool.not_not] at h) <;> (try simp only [rdi, Int.toNat_natCast, Nat.add_zero] at h))
      | ((with_reducible refine tret.any ?_); first | refine tret.ok (by rfl) ?_ | refine tret.okN (by rfl) ?_)
      | ((with_reducible refine Due.mk ?_); (first | with_reducible rfl | omega | assumption | decide | ((try simp only [decide_eq_true_eq, decide_eq_false_iff_not, Bool.or_eq_true, Bool.and_eq_true, Bool.or_eq_false_iff, Bool.and_eq_false_iff, Bool.not_eq_true', Bool.not_eq_false', Int.not_lt, Int.not_le, Int.toNat_natCast, Int.toNat_zero, cond_false, cond_true, Bool.not_not] at *) <;> (try intro h) <;> (try intro h') <;> (try simp only [decide_eq_true_eq, decide_eq_false_iff_not, Bool.or_eq_true, Bool.and_eq_true, Bool.or_eq_false_iff, Bool.and_eq_false_iff, Bool.not_eq_true', Bool.not_eq_false', Int.not_lt, Int.not_le, Int.toNat_natCast, Int.toNat_zero, cond_false, cond_true, Bool.not_not] at *) <;> (try simp only [rdi, Int.toNat_natCast, Nat.add_zero] at *) <;> (try simp only [rng]) <;> (first | assumption | omega)) | (intros; simp; done) | (intros; simp; omega)))
      | with_reducible refine Due.mk ?_
      | omega)
    exact ⟨rfl, by rw [if_pos hi], rfl⟩
theorem cut_c (v low high : Int) : TC R Try.prog refspace_cut_f [.int .i64 v, .int .i64 low, .int .i64 high] [] (fun x X => x = .int .i64 (max low (min high v)) ∧ X = []) := by
  refine tc0 env refspace_cut_s (by rfl) ?_
  dsimp only [refspace_cut_c]
  repeat' (first
    | with_reducible refine Tw.seq ?_
    | with_reducible refine Tw.reg ?_
    | with_reducible refine Tw.block ?_
    | with_reducible refine Tw.scope ?_
    | with_reducible refine Tw.skip ?_
    | with_reducible refine Tw.exit ?_
    | with_reducible refine Tw.ret ?_
    | with_reducible refine seqN ?_
    | with_reducible refine seqR ?_
    | with_reducible refine seqE ?_
    | with_reducible refine blkN ?_
    | with_reducible refine blkR ?_
    | with_reducible refine blkE1 ?_
    | with_reducible refine blkE0 (by kernel_rfl) ?_
    | with_reducible refine scpN ?_
    | with_reducible refine scpR ?_
    | with_reducible refine scpE ?_
    | with_reducible refine TOps.nil ?_
    | with_reducible exact Conj.nil
    | with_reducible refine Conj.cons rfl ?_
    | with_reducible refine Conj.same ?_
    | with_reducible refine Conj.ask ?_ ?_
    | ((with_reducible refine TOps.any ?_); refine TOps.frunP env (by rfl) (by rfl) ?_ ?_)
    | with_reducible refine Tw.regd env ?_
    | ((with_reducible refine TDr.any ?_); refine TDr.frunP env (by rfl) (by rfl) ?_ ?_)
    | with_reducible refine TDr.nil ⟨by kernel_rfl, ?_⟩
    | ((with_reducible refine TOps.any ?_); refine TOps.strip env (by rfl) (by rfl) ?_ ?_)
    | ((with_reducible refine TOps.any ?_); (fail_if_success refine TOps.known (by rfl) ?_); refine TOps.ask (by rfl) (fun h => ?_) (fun h => ?_) <;> (try simp only [decide_eq_true_eq, decide_eq_false_iff_not, Bool.or_eq_true, Bool.and_eq_true, Bool.or_eq_false_iff, Bool.and_eq_false_iff, Bool.not_eq_true', Bool.not_eq_false', Int.not_lt, Int.not_le, Int.toNat_natCast, Int.toNat_zero, cond_false, cond_true, Bool.not_not] at h) <;> (try simp only [rdi, Int.toNat_natCast, Nat.add_zero] at h))
    | ((with_reducible refine Tw.any ?_); refine Tw.condT (by rfl) ?_)
    | ((with_reducible refine Tw.any ?_); refine Tw.condF (by rfl) ?_)
    | ((with_reducible refine Tw.any ?_); refine Tw.cond (by rfl) (fun h => ?_) (fun h => ?_) <;> (try simp only [decide_eq_true_eq, decide_eq_false_iff_not, Bool.or_eq_true, Bool.and_eq_true, Bool.or_eq_false_iff, Bool.and_eq_false_iff, Bool.not_eq_true', Bool.not_eq_false', Int.not_lt, Int.not_le, Int.toNat_natCast, Int.toNat_zero, cond_false, cond_true, Bool.not_not] at h) <;> (try simp only [rdi, Int.toNat_natCast, Nat.add_zero] at h))
    | ((with_reducible refine tret.any ?_); first | refine tret.ok (by rfl) ?_ | refine tret.okN (by rfl) ?_)
    | ((with_reducible refine Due.mk ?_); (first | with_reducible rfl | omega | assumption | decide | ((try simp only [decide_eq_true_eq, decide_eq_false_iff_not, Bool.or_eq_true, Bool.and_eq_true, Bool.or_eq_false_iff, Bool.and_eq_false_iff, Bool.not_eq_true', Bool.not_eq_false', Int.not_lt, Int.not_le, Int.toNat_natCast, Int.toNat_zero, cond_false, cond_true, Bool.not_not] at *) <;> (try intro h) <;> (try intro h') <;> (try simp only [decide_eq_true_eq, decide_eq_false_iff_not, Bool.or_eq_true, Bool.and_eq_true, Bool.or_eq_false_iff, Bool.and_eq_false_iff, Bool.not_eq_true', Bool.not_eq_false', Int.not_lt, Int.not_le, Int.toNat_natCast, Int.toNat_zero, cond_false, cond_true, Bool.not_not] at *) <;> (try simp only [rdi, Int.toNat_natCast, Nat.add_zero] at *) <;> (try simp only [rng]) <;> (first | assumption | omega)) | (intros; simp; done) | (intros; simp; omega)))
    | with_reducible refine Due.mk ?_
    | omega)
  exact ⟨rfl, rfl, rfl⟩

def labL (y : Int) : Int := max 0 (min 10000 (116 * y / 100 - 1600))
def labA (x y : Int) : Int := max (-12800) (min 12800 (5 * (x - y)))
def labB (y z : Int) : Int := max (-12800) (min 12800 (2 * (y - z)))
theorem toLab_y (x y z a b c : Int) (h1 : xyzOk x y z) (h2 : whiteOk a b c) : TC R Try.prog refspace_ToLab_f [.agg [.int .i64 x, .int .i64 y, .int .i64 z], .agg [.int .i64 a, .int .i64 b, .int .i64 c]] []
    (fun v X => v = .tup [.agg [.int .i64 (labL (resp y b)), .int .i64 (labA (resp x a) (resp y b)), .int .i64 (labB (resp y b) (resp z c))], .int .i64 0] ∧ X = []) := by
  have k1 : vwOk x a := by unfold xyzOk at h1; unfold whiteOk at h2; unfold vwOk; omega
  have k2 : vwOk y b := by unfold xyzOk at h1; unfold whiteOk at h2; unfold vwOk; omega
  have k3 : vwOk z c := by unfold xyzOk at h1; unfold whiteOk at h2; unfold vwOk; omega
  have r1 := resp_bd k1
  have r2 := resp_bd k2
  have r3 := resp_bd k3
  have e1 := checkXYZ_c x y z
  rw [if_pos h1] at e1
  have e2 := checkWhite_c a b c
  rw [if_pos h2] at e2
  have hq : quo (116 * resp y b) 100 = 116 * resp y b / 100 := quo_nn (by omega)
  refine tc0 env refspace_ToLab_s (by rfl) ?_
  dsimp only [refspace_ToLab_c]
  repeat' (first
    | ((with_reducible refine TOps.any ?_); refine TOps.callV env (by rfl) (by rfl) (by rfl) (e1) ?_)
    | ((with_reducible refine TOps.any ?_); refine TOps.callV env (by rfl) (by rfl) (by rfl) (e2) ?_)
    | ((with_reducible refine TDr.any ?_); refine TDr.callE env (by rfl) (by rfl) (by rfl) ?_ (response_c _ _ ?_) (by rfl) (by rfl) ?_)
    | ((with_reducible refine TOps.any ?_); refine TOps.callV env (by rfl) (by rfl) (by rfl) (cut_c _ _ _) ?_)
    | with_reducible refine Tw.seq ?_
    | with_reducible refine Tw.reg ?_
    | with_reducible refine Tw.block ?_
    | with_reducible refine Tw.scope ?_
    | with_reducible refine Tw.skip ?_
    | with_reducible refine Tw.exit ?_
    | with_reducible refine Tw.ret ?_
    | with_reducible refine seqN ?_
    | with_reducible refine seqR ?_
    | with_reducible refine seqE ?_
    | with_reducible refine blkN ?_
    | with_reducible refine blkR ?_
    | with_reducible refine blkE1 ?_
    | with_reducible refine blkE0 (by kernel_rfl) ?_
    | with_reducible refine scpN ?_
    | with_reducible refine scpR ?_
    | with_reducible refine scpE ?_
    | with_reducible refine TOps.nil ?_
    | with_reducible exact Conj.nil
    | with_reducible refine Conj.cons rfl ?_
    | with_reducible refine Conj.same ?_
    | with_reducible refine Conj.ask ?_ ?_
    | ((with_reducible refine TOps.any ?_); refine TOps.frunP env (by rfl) (by rfl) ?_ ?_)
    | with_reducible refine Tw.regd env ?_
    | ((with_reducible refine TDr.any ?_); refine TDr.frunP env (by rfl) (by rfl) ?_ ?_)
    | with_reducible refine TDr.nil ⟨by kernel_rfl, ?_⟩
    | ((with_reducible refine TOps.any ?_); refine TOps.strip env (by rfl) (by rfl) ?_ ?_)
    | ((with_reducible refine TOps.any ?_); (fail_if_success refine TOps.known (by rfl) ?_); refine TOps.ask (by rfl) (fun h => ?_) (fun h => ?_) <;> (try simp only [decide_eq_true_eq, decide_eq_false_iff_not, Bool.or_eq_true, Bool.and_eq_true, Bool.or_eq_false_iff, Bool.and_eq_false_iff, Bool.not_eq_true', Bool.not_eq_false', Int.not_lt, Int.not_le, Int.toNat_natCast, Int.toNat_zero, cond_false, cond_true, Bool.not_not] at h) <;> (try simp only [rdi, hq, Int.toNat_natCast, Nat.add_zero] at h))
    | ((with_reducible refine Tw.any ?_); refine Tw.condT (by rfl) ?_)
    | ((with_reducible refine Tw.any ?_); refine Tw.condF (by rfl) ?_)
    | ((with_reducible refine Tw.any ?_); refine Tw.cond (by rfl) (fun h => ?_) (fun h => ?_) <;> (try simp only [decide_eq_true_eq, decide_eq_false_iff_not, Bool.or_eq_true, Bool.and_eq_true, Bool.or_eq_false_iff, Bool.and_eq_false_iff, Bool.not_eq_true', Bool.not_eq_false', Int.not_lt, Int.not_le, Int.toNat_natCast, Int.toNat_zero, cond_false, cond_true, Bool.not_not] at h) <;> (try simp only [rdi, hq, Int.toNat_natCast, Nat.add_zero] at h))
    | ((with_reducible refine tret.any ?_); first | refine tret.ok (by rfl) ?_ | refine tret.okN (by rfl) ?_)
    | ((with_reducible refine Due.mk ?_); (first | with_reducible rfl | omega | assumption | decide | ((try simp only [decide_eq_true_eq, decide_eq_false_iff_not, Bool.or_eq_true, Bool.and_eq_true, Bool.or_eq_false_iff, Bool.and_eq_false_iff, Bool.not_eq_true', Bool.not_eq_false', Int.not_lt, Int.not_le, Int.toNat_natCast, Int.toNat_zero, cond_false, cond_true, Bool.not_not] at *) <;> (try intro h) <;> (try intro h') <;> (try simp only [decide_eq_true_eq, decide_eq_false_iff_not, Bool.or_eq_true, Bool.and_eq_true, Bool.or_eq_false_iff, Bool.and_eq_false_iff, Bool.not_eq_true', Bool.not_eq_false', Int.not_lt, Int.not_le, Int.toNat_natCast, Int.toNat_zero, cond_false, cond_true, Bool.not_not] at *) <;> (try simp only [rdi, hq, Int.toNat_natCast, Nat.add_zero] at *) <;> (try simp only [rng]) <;> (first | assumption | omega)) | (intros; simp; done) | (intros; simp; omega)))
    | with_reducible refine Due.mk ?_
    | omega)
  rw [hq]
  exact ⟨rfl, rfl, rfl⟩
theorem toLab_n (x y z a b c : Int) (h : ¬ (xyzOk x y z ∧ whiteOk a b c)) : TC R Try.prog refspace_ToLab_f [.agg [.int .i64 x, .int .i64 y, .int .i64 z], .agg [.int .i64 a, .int .i64 b, .int .i64 c]] []
    (fun v X => v = .tup [.agg [.int .i64 0, .int .i64 0, .int .i64 0], .int .i64 3] ∧ X = []) := by
  refine tc0 env refspace_ToLab_s (by rfl) ?_
  dsimp only [refspace_ToLab_c]
  by_cases h1 : xyzOk x y z
  · have e1 := checkXYZ_c x y z
    rw [if_pos h1] at e1
    have e2 := checkWhite_c a b c
    rw [if_neg (fun hh => h ⟨h1, hh⟩)] at e2
    repeat' (first
      | ((with_reducible refine TOps.any ?_); refine TOps.callV env (by rfl) (by rfl) (by rfl) (e1) ?_)
      | ((with_reducible refine TOps.any ?_); refine TOps.callV env (by rfl) (by rfl) (by rfl) (e2) ?_)
      | with_reducible refine Tw.seq ?_
      | with_reducible refine Tw.reg ?_
      | with_reducible refine Tw.block ?_
      | with_reducible refine Tw.scope ?_
      | with_reducible refine Tw.skip ?_
      | with_reducible refine Tw.exit ?_
      | with_reducible refine Tw.ret ?_
      | with_reducible refine seqN ?_
      | with_reducible refine seqR ?_
      | with_reducible refine seqE ?_
      | with_reducible refine blkN ?_
      | with_reducible refine blkR ?_
      | with_reducible refine blkE1 ?_
      | with_reducible refine blkE0 (by kernel_rfl) ?_
      | with_reducible refine scpN ?_
      | with_reducible refine scpR ?_
      | with_reducible refine scpE ?_
      | with_reducible refine TOps.nil ?_
      | with_reducible exact Conj.nil
      | with_reducible refine Conj.cons rfl ?_
      | with_reducible refine Conj.same ?_
      | with_reducible refine Conj.ask ?_ ?_
      | ((with_reducible refine TOps.any ?_); refine TOps.frunP env (by rfl) (by rfl) ?_ ?_)
      | with_reducible refine Tw.regd env ?_
      | ((with_reducible refine TDr.any ?_); refine TDr.frunP env (by rfl) (by rfl) ?_ ?_)
      | with_reducible refine TDr.nil ⟨by kernel_rfl, ?_⟩
      | ((with_reducible refine TOps.any ?_); refine TOps.strip env (by rfl) (by rfl) ?_ ?_)
      | ((with_reducible refine TOps.any ?_); (fail_if_success refine TOps.known (by rfl) ?_); refine TOps.ask (by rfl) (fun h => ?_) (fun h => ?_) <;> (try simp only [decide_eq_true_eq, decide_eq_false_iff_not, Bool.or_eq_true, Bool.and_eq_true, Bool.or_eq_false_iff, Bool.and_eq_false_iff, Bool.not_eq_true', Bool.not_eq_false', Int.not_lt, Int.not_le, Int.toNat_natCast, Int.toNat_zero, cond_false, cond_true, Bool.not_not] at h) <;> (try simp only [rdi, Int.toNat_natCast, Nat.add_zero] at h))
      | ((with_reducible refine Tw.any ?_); refine Tw.condT (by rfl) ?_)
      | ((with_reducible refine Tw.any ?_); refine Tw.condF (by rfl) ?_)
      | ((with_reducible refine Tw.any ?_); refine Tw.cond (by rfl) (fun h => ?_) (fun h => ?_) <;> (try simp only [decide_eq_true_eq, decide_eq_false_iff_not, Bool.or_eq_true, Bool.and_eq_true, Bool.or_eq_false_iff, Bool.and_eq_false_iff, Bool.not_eq_true', Bool.not_eq_false', Int.not_lt, Int.not_le, Int.toNat_natCast, Int.toNat_zero, cond_false, cond_true, Bool.not_not] at h) <;> (try simp only [rdi, Int.toNat_natCast, Nat.add_zero] at h))
      | ((with_reducible refine tret.any ?_); first | refine tret.ok (by rfl) ?_ | refine tret.okN (by rfl) ?_)
      | ((with_reducible refine Due.mk ?_); (first | with_reducible rfl | omega | assumption | decide | ((try simp only [decide_eq_true_eq, decide_eq_false_iff_not, Bool.or_eq_true, Bool.and_eq_true, Bool.or_eq_false_iff, Bool.and_eq_false_iff, Bool.not_eq_true', Bool.not_eq_false', Int.not_lt, Int.not_le, Int.toNat_natCast, Int.toNat_zero, cond_false, cond_true, Bool.not_not] at *) <;> (try intro h) <;> (try intro h') <;> (try simp only [decide_eq_true_eq, decide_eq_false_iff_not, Bool.or_eq_true, Bool.and_eq_true, Bool.or_eq_false_iff, Bool.and_eq_false_iff, Bool.not_eq_true', Bool.not_eq_false', Int.not_lt, Int.not_le, Int.toNat_natCast, Int.toNat_zero, cond_false, cond_true, Bool.not_not] at *) <;> (try simp only [rdi, Int.toNat_natCast, Nat.add_zero] at *) <;> (try simp only [rng]) <;> (first | assumption | omega)) | (intros; simp; done) | (intros; simp; omega)))
      | with_reducible refine Due.mk ?_
      | omega)
    exact ⟨rfl, rfl, rfl⟩
  · have e1 := checkXYZ_c x y z
    rw [if_neg h1] at e1
    repeat' (first
      | ((with_reducible refine TOps.any ?_); refine TOps.callV env (by rfl) (by rfl) (by rfl) (e1) ?_)
      | with_reducible refine Tw.seq ?_
      | with_reducible refine Tw.reg ?_
      | with_reducible refine Tw.block ?_
      | with_reducible refine Tw.scope ?_
      | with_reducible refine Tw.skip ?_
      | with_reducible refine Tw.exit ?_
      | with_reducible refine Tw.ret ?_
      | with_reducible refine seqN ?_
      | with_reducible refine seqR ?_
      | with_reducible refine seqE ?_
      | with_reducible refine blkN ?_
      | with_reducible refine blkR ?_
      | with_reducible refine blkE1 ?_
      | with_reducible refine blkE0 (by kernel_rfl) ?_
      | with_reducible refine scpN ?_
      | with_reducible refine scpR ?_
      | with_reducible refine scpE ?_
      | with_reducible refine TOps.nil ?_
      | with_reducible exact Conj.nil
      | with_reducible refine Conj.cons rfl ?_
      | with_reducible refine Conj.same ?_
      | with_reducible refine Conj.ask ?_ ?_
      | ((with_reducible refine TOps.any ?_); refine TOps.frunP env (by rfl) (by rfl) ?_ ?_)
      | with_reducible refine Tw.regd env ?_
      | ((with_reducible refine TDr.any ?_); refine TDr.frunP env (by rfl) (by rfl) ?_ ?_)
      | with_reducible refine TDr.nil ⟨by kernel_rfl, ?_⟩
      | ((with_reducible refine TOps.any ?_); refine TOps.strip env (by rfl) (by rfl) ?_ ?_)
      | ((with_reducible refine TOps.any ?_); (fail_if_success refine TOps.known (by rfl) ?_); refine TOps.ask (by rfl) (fun h => ?_) (fun h => ?_) <;> (try simp only [decide_eq_true_eq, decide_eq_false_iff_not, Bool.or_eq_true, Bool.and_eq_true, Bool.or_eq_false_iff, Bool.and_eq_false_iff, Bool.not_eq_true', Bool.not_eq_false', Int.not_lt, Int.not_le, Int.toNat_natCast, Int.toNat_zero, cond_false, cond_true, Bool.not_not] at h) <;> (try simp only [rdi, Int.toNat_natCast, Nat.add_zero] at h))
      | ((with_reducible refine Tw.any ?_); refine Tw.condT (by rfl) ?_)
      | ((with_reducible refine Tw.any ?_); refine Tw.condF (by rfl) ?_)
      | ((with_reducible refine Tw.any ?_); refine Tw.cond (by rfl) (fun h => ?_) (fun h => ?_) <;> (try simp only [decide_eq_true_eq, decide_eq_false_iff_not, Bool.or_eq_true, Bool.and_eq_true, Bool.or_eq_false_iff, Bool.and_eq_false_iff, Bool.not_eq_true', Bool.not_eq_false', Int.not_lt, Int.not_le, Int.toNat_natCast, Int.toNat_zero, cond_false, cond_true, Bool.not_not] at h) <;> (try simp only [rdi, Int.toNat_natCast, Nat.add_zero] at h))
      | ((with_reducible refine tret.any ?_); first | refine tret.ok (by rfl) ?_ | refine tret.okN (by rfl) ?_)
      | ((with_reducible refine Due.mk ?_); (first | with_reducible rfl | omega | assumption | decide | ((try simp only [decide_eq_true_eq, decide_eq_false_iff_not, Bool.or_eq_true, Bool.and_eq_true, Bool.or_eq_false_iff, Bool.and_eq_false_iff, Bool.not_eq_true', Bool.not_eq_false', Int.not_lt, Int.not_le, Int.toNat_natCast, Int.toNat_zero, cond_false, cond_true, Bool.not_not] at *) <;> (try intro h) <;> (try intro h') <;> (try simp only [decide_eq_true_eq, decide_eq_false_iff_not, Bool.or_eq_true, Bool.and_eq_true, Bool.or_eq_false_iff, Bool.and_eq_false_iff, Bool.not_eq_true', Bool.not_eq_false', Int.not_lt, Int.not_le, Int.toNat_natCast, Int.toNat_zero, cond_false, cond_true, Bool.not_not] at *) <;> (try simp only [rdi, Int.toNat_natCast, Nat.add_zero] at *) <;> (try simp only [rng]) <;> (first | assumption | omega)) | (intros; simp; done) | (intros; simp; omega)))
      | with_reducible refine Due.mk ?_
      | omega)
    exact ⟨rfl, rfl, rfl⟩

/-- v is what the search for a response finds. -/
def isVal (f w v : Int) : Prop := 0 ≤ v ∧ v ≤ 300000 ∧ (v = 300000 ∨ f ≤ resp v w) ∧ (v = 0 ∨ resp (v - 1) w < f)
open Classical in
noncomputable def val (f w : Int) : Int := if h : ∃ v, isVal f w v then h.choose else 0
theorem isVal_uniq {f w v v' : Int} (hw : 80000 ≤ w ∧ w ≤ 120000) (h : isVal f w v) (h' : isVal f w v') : v = v' := by
  obtain ⟨a1, a2, a3, a4⟩ := h
  obtain ⟨b1, b2, b3, b4⟩ := h'
  rcases Int.lt_trichotomy v v' with hl | hl | hl
  · have := resp_mono (v := v) (v' := v' - 1) (w := w) (by unfold vwOk; omega) (by unfold vwOk; omega) (by omega)
    omega
  · exact hl
  · have := resp_mono (v := v') (v' := v - 1) (w := w) (by unfold vwOk; omega) (by unfold vwOk; omega) (by omega)
    omega
theorem val_eq {f w v : Int} (hw : 80000 ≤ w ∧ w ≤ 120000) (h : isVal f w v) : val f w = v := by
  have hx : ∃ v, isVal f w v := ⟨v, h⟩
  unfold val
  rw [dif_pos hx]
  exact isVal_uniq hw hx.choose_spec h
theorem value_v (f w : Int) (h : Due (80000 ≤ w ∧ w ≤ 120000)) : TC R Try.prog refspace_value_f [.int .i64 f, .int .i64 w] [] (fun x X => x = .int .i64 (val f w) ∧ X = []) :=
  (value_c f w h).mono fun v X ⟨⟨u, hu, hv⟩, hX⟩ => ⟨by rw [hv, val_eq h hu], hX⟩

theorem toXYZ_y (l m n a b c : Int) (h1 : labOk l m n) (h2 : whiteOk a b c) : TC R Try.prog refspace_ToXYZ_f [.agg [.int .i64 l, .int .i64 m, .int .i64 n], .agg [.int .i64 a, .int .i64 b, .int .i64 c]] []
    (fun v X => v = .tup [.agg [.int .i64 (val ((100 * (l + 1600) + 115) / 116 + near m 5) a), .int .i64 (val ((100 * (l + 1600) + 115) / 116) b), .int .i64 (val ((100 * (l + 1600) + 115) / 116 - near n 2) c)], .int .i64 0] ∧ X = []) := by
  have k1 : 0 ≤ l ∧ l ≤ 10000 ∧ -12800 ≤ m ∧ m ≤ 12800 ∧ -12800 ≤ n ∧ n ≤ 12800 := h1
  have k2 : 80000 ≤ a ∧ a ≤ 120000 ∧ 80000 ≤ b ∧ b ≤ 120000 ∧ 80000 ≤ c ∧ c ≤ 120000 := h2
  have e1 := refCheck_c l m n
  rw [labE, if_pos h1] at e1
  have e2 := checkWhite_c a b c
  rw [if_pos h2] at e2
  have hq : quo (100 * (l + 1600) + 115) 116 = (100 * (l + 1600) + 115) / 116 := quo_nn (by omega)
  have n1 : -12801 ≤ near m 5 ∧ near m 5 ≤ 12801 := by unfold near; omega
  have n2 : -12801 ≤ near n 2 ∧ near n 2 ≤ 12801 := by unfold near; omega
  refine tc0 env refspace_ToXYZ_s (by rfl) ?_
  dsimp only [refspace_ToXYZ_c]
  repeat' (first
    | ((with_reducible refine TOps.any ?_); refine TOps.callV env (by rfl) (by rfl) (by rfl) (e1) ?_)
    | ((with_reducible refine TOps.any ?_); refine TOps.callV env (by rfl) (by rfl) (by rfl) (e2) ?_)
    | ((with_reducible refine TDr.any ?_); refine TDr.callE env (by rfl) (by rfl) (by rfl) ?_ (value_v _ _ ?_) (by rfl) (by rfl) ?_)
    | ((with_reducible refine TDr.any ?_); refine TDr.callE env (by rfl) (by rfl) (by rfl) ?_ (nearest_c _ _ ?_) (by rfl) (by rfl) ?_)
    | with_reducible refine Tw.seq ?_
    | with_reducible refine Tw.reg ?_
    | with_reducible refine Tw.block ?_
    | with_reducible refine Tw.scope ?_
    | with_reducible refine Tw.skip ?_
    | with_reducible refine Tw.exit ?_
    | with_reducible refine Tw.ret ?_
    | with_reducible refine seqN ?_
    | with_reducible refine seqR ?_
    | with_reducible refine seqE ?_
    | with_reducible refine blkN ?_
    | with_reducible refine blkR ?_
    | with_reducible refine blkE1 ?_
    | with_reducible refine blkE0 (by kernel_rfl) ?_
    | with_reducible refine scpN ?_
    | with_reducible refine scpR ?_
    | with_reducible refine scpE ?_
    | with_reducible refine TOps.nil ?_
    | with_reducible exact Conj.nil
    | with_reducible refine Conj.cons rfl ?_
    | with_reducible refine Conj.same ?_
    | with_reducible refine Conj.ask ?_ ?_
    | ((with_reducible refine TOps.any ?_); refine TOps.frunP env (by rfl) (by rfl) ?_ ?_)
    | with_reducible refine Tw.regd env ?_
    | ((with_reducible refine TDr.any ?_); refine TDr.frunP env (by rfl) (by rfl) ?_ ?_)
    | with_reducible refine TDr.nil ⟨by kernel_rfl, ?_⟩
    | ((with_reducible refine TOps.any ?_); refine TOps.strip env (by rfl) (by rfl) ?_ ?_)
    | ((with_reducible refine TOps.any ?_); (fail_if_success refine TOps.known (by rfl) ?_); refine TOps.ask (by rfl) (fun h => ?_) (fun h => ?_) <;> (try simp only [decide_eq_true_eq, decide_eq_false_iff_not, Bool.or_eq_true, Bool.and_eq_true, Bool.or_eq_false_iff, Bool.and_eq_false_iff, Bool.not_eq_true', Bool.not_eq_false', Int.not_lt, Int.not_le, Int.toNat_natCast, Int.toNat_zero, cond_false, cond_true, Bool.not_not] at h) <;> (try simp only [rdi, hq, Int.toNat_natCast, Nat.add_zero] at h))
    | ((with_reducible refine Tw.any ?_); refine Tw.condT (by rfl) ?_)
    | ((with_reducible refine Tw.any ?_); refine Tw.condF (by rfl) ?_)
    | ((with_reducible refine Tw.any ?_); refine Tw.cond (by rfl) (fun h => ?_) (fun h => ?_) <;> (try simp only [decide_eq_true_eq, decide_eq_false_iff_not, Bool.or_eq_true, Bool.and_eq_true, Bool.or_eq_false_iff, Bool.and_eq_false_iff, Bool.not_eq_true', Bool.not_eq_false', Int.not_lt, Int.not_le, Int.toNat_natCast, Int.toNat_zero, cond_false, cond_true, Bool.not_not] at h) <;> (try simp only [rdi, hq, Int.toNat_natCast, Nat.add_zero] at h))
    | ((with_reducible refine tret.any ?_); first | refine tret.ok (by rfl) ?_ | refine tret.okN (by rfl) ?_)
    | ((with_reducible refine Due.mk ?_); (first | with_reducible rfl | omega | assumption | decide | ((try simp only [decide_eq_true_eq, decide_eq_false_iff_not, Bool.or_eq_true, Bool.and_eq_true, Bool.or_eq_false_iff, Bool.and_eq_false_iff, Bool.not_eq_true', Bool.not_eq_false', Int.not_lt, Int.not_le, Int.toNat_natCast, Int.toNat_zero, cond_false, cond_true, Bool.not_not] at *) <;> (try intro h) <;> (try intro h') <;> (try simp only [decide_eq_true_eq, decide_eq_false_iff_not, Bool.or_eq_true, Bool.and_eq_true, Bool.or_eq_false_iff, Bool.and_eq_false_iff, Bool.not_eq_true', Bool.not_eq_false', Int.not_lt, Int.not_le, Int.toNat_natCast, Int.toNat_zero, cond_false, cond_true, Bool.not_not] at *) <;> (try simp only [rdi, hq, Int.toNat_natCast, Nat.add_zero] at *) <;> (try simp only [rng]) <;> (first | assumption | omega)) | (intros; simp; done) | (intros; simp; omega)))
    | with_reducible refine Due.mk ?_
    | omega)
  rw [hq]
  exact ⟨rfl, rfl, rfl⟩
end Go.Proofs.Ytfgaefpdccdfiaa
