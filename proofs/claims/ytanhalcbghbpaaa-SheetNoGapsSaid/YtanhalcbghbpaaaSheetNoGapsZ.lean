/- The law SheetNoGaps: a sheet has no gaps in comparison with itself, and a greater reach never has more. -/
import Derived.Test.YtanhalcbghbpaaaSheet2
import Derived.Test.YtanhalcbghbpaaaSheetW
import Derived.Test.YtanhalcbghbpaaaRMod
import Derived.Test.YtanhalcbghbpaaaXSheetNoGaps0
namespace Go.Proofs.Ytanhalcbghbpaaa
open Go Go.Lite
set_option linter.unusedVariables false
set_option linter.unusedSimpArgs false
set_option maxRecDepth 100000
set_option maxHeartbeats 4000000
-- @simp rdi rdy

theorem SheetNoGaps_law (a b : Int) (p : List Int) (c d : Int) (q : List Int) (r0 : Int) (_ : rng .i64 a) (_ : rng .i64 b) (wp : p.length ≤ 9223372036854775807 ∧ ∀ y ∈ p, Wy y) (_ : rng .i64 c) (_ : rng .i64 d) (wq : q.length ≤ 9223372036854775807 ∧ ∀ y ∈ q, Wy y) (_ : rng .i64 r0) :
    TC R Try.prog K2_SheetNoGaps_f [.agg [.int .i64 a, .int .i64 b, .lst Ey p], .agg [.int .i64 c, .int .i64 d, .lst Ey q], .int .i64 r0] [] (fun v X => v = .bool true ∧ X = []) := by
  rename_i ra rb rc rd rr
  simp only [rng] at rr
  have m1 := rMod_c r0 16 (by unfold Due; omega)
  obtain ⟨r, hr⟩ : ∃ n : Nat, r0 % 16 = n := ⟨(r0 % 16).toNat, by omega⟩
  rw [hr] at m1
  have g1 := gaps_c a b p c d q r (by omega)
  have g2 := gaps_c a b p c d q (r + 1) (by omega)
  have g3 := gaps_c a b p a b p r (by omega)
  rw [show ((r + 1 : Nat) : Int) = (r : Int) + 1 by omega] at g2
  have k1 := gapN_bd a.toNat b.toNat p q r q.length
  have k2 := gapN_bd a.toNat b.toNat p q (r + 1) q.length
  have k3 := gap_less (w := a.toNat) (k := b.toNat) (p := p) (q := q) (r := r) (n := q.length)
  have k4 := gap_self (w := a.toNat) (k := b.toNat) (p := p) (r := r) (n := p.length)
  have e3 : gapE a b p c d q = 0 → gapE a b p a b p = 0 := fun h => by
    have h0 : mskE a b p = 0 := by
      refine Decidable.byContradiction fun hn => ?_
      unfold gapE at h; rw [if_pos hn] at h; exact hn h
    unfold gapE
    rw [if_neg (by simp [h0]), if_neg (by simp [h0]), if_pos ⟨rfl, rfl⟩]
  have wq' := wq.1
  rw [k4] at g3
  refine tc0 env K2_SheetNoGaps_s (by rfl) ?_
  dsimp only [K2_SheetNoGaps_c]
  by_cases h : gapE a b p c d q = 0
  · rw [e3 h] at g3
    rw [h] at g1 g2
    simp only [if_true] at g1 g2 g3
    repeat' (first
      | ((with_reducible refine TOps.any ?_); refine TOps.callV env (by rfl) (by rfl) (by rfl) (sheetWorks_c) ?_)
      | ((with_reducible refine TOps.any ?_); refine TOps.callV env (by rfl) (by rfl) (by rfl) (m1) ?_)
      | ((with_reducible refine TOps.any ?_); refine TOps.callV env (by rfl) (by rfl) (by rfl) (g1) ?_)
      | ((with_reducible refine TOps.any ?_); refine TOps.callV env (by rfl) (by rfl) (by rfl) (g2) ?_)
      | ((with_reducible refine TOps.any ?_); refine TOps.callV env (by rfl) (by rfl) (by rfl) (g3) ?_)
      | with_reducible first | refine Tw.seq ?_ | refine Tw.reg ?_ | refine Tw.block ?_ | refine Tw.scope ?_ | refine Tw.skip ?_ | refine Tw.exit ?_ | refine Tw.ret ?_ | refine seqN ?_ | refine seqR ?_ | refine seqE ?_ | refine blkN ?_ | refine blkR ?_ | refine blkE1 ?_ | refine blkE0 (by kernel_rfl) ?_ | refine scpN ?_ | refine scpR ?_ | refine scpE ?_ | refine TOps.nil ?_ | exact Conj.nil | refine Conj.cons rfl ?_ | refine Conj.same ?_ | refine Conj.ask ?_ ?_ | refine Tw.regd env ?_ | refine TDr.nil ⟨by kernel_rfl, ?_⟩
      | ((with_reducible refine TOps.any ?_); first | refine TOps.frunP env (by rfl) (by rfl) ?_ ?_ | refine TOps.strip env (by rfl) (by rfl) ?_ ?_)
      | ((with_reducible refine TDr.any ?_); refine TDr.frunP env (by rfl) (by rfl) ?_ ?_)
      | ((with_reducible refine Tw.any ?_); first | refine Tw.condT (by rfl) ?_ | refine Tw.condF (by rfl) ?_)
      | ((first | ((with_reducible refine TOps.any ?_); (fail_if_success refine TOps.known (by rfl) ?_); refine TOps.ask (by rfl) (fun h => ?_) (fun h => ?_)) | ((with_reducible refine TDr.any ?_); (fail_if_success refine TDr.known (by first | rfl | assumption) ?_); refine TDr.ask (by rfl) (fun h hk => ?_) (fun h => ?_)) | ((with_reducible refine Tw.any ?_); refine Tw.cond (by rfl) (fun h => ?_) (fun h => ?_))) <;> (try simp only [goS] at h) <;> (try simp only [rdi, rdy, Int.toNat_natCast, Nat.add_zero] at h) <;> (try (exfalso; (try simp only [goP, reduceCtorEq] at h) <;> (first | assumption | omega | contradiction | (rcases h with ⟨_, _⟩ <;> first | contradiction | omega) | (rcases h with h | h <;> first | contradiction | omega)))))
      | ((with_reducible refine tret.any ?_); first | refine tret.ok (by rfl) ?_ | refine tret.okN (by rfl) ?_)
      | ((with_reducible refine Due.mk ?_); (first | with_reducible rfl | omega | assumption | decide | ((try simp only [goS] at *) <;> (try intro h) <;> (try intro h') <;> (try simp only [goS] at *) <;> (try simp only [rdi, rdy, Int.toNat_natCast, Nat.add_zero] at *) <;> (try simp only [rng]) <;> (first | assumption | omega)) | (exact due_app0 (by omega)) | (exact due_app (by omega)) | (intros; simp; done) | (intros; simp; omega)))
      | with_reducible refine Due.mk ?_
      | omega)
    refine ⟨rfl, congrArg TV.bool ?_, rfl⟩
    simp; omega
  · simp only [if_neg h] at g1 g2
    have e4 : (if gapE a b p a b p = 0 then (0 : Int) else 0) = 0 := by split <;> rfl
    rw [e4] at g3
    repeat' (first
      | ((with_reducible refine TOps.any ?_); refine TOps.callV env (by rfl) (by rfl) (by rfl) (sheetWorks_c) ?_)
      | ((with_reducible refine TOps.any ?_); refine TOps.callV env (by rfl) (by rfl) (by rfl) (m1) ?_)
      | ((with_reducible refine TOps.any ?_); refine TOps.callV env (by rfl) (by rfl) (by rfl) (g1) ?_)
      | ((with_reducible refine TOps.any ?_); refine TOps.callV env (by rfl) (by rfl) (by rfl) (g2) ?_)
      | ((with_reducible refine TOps.any ?_); refine TOps.callV env (by rfl) (by rfl) (by rfl) (g3) ?_)
      | with_reducible first | refine Tw.seq ?_ | refine Tw.reg ?_ | refine Tw.block ?_ | refine Tw.scope ?_ | refine Tw.skip ?_ | refine Tw.exit ?_ | refine Tw.ret ?_ | refine seqN ?_ | refine seqR ?_ | refine seqE ?_ | refine blkN ?_ | refine blkR ?_ | refine blkE1 ?_ | refine blkE0 (by kernel_rfl) ?_ | refine scpN ?_ | refine scpR ?_ | refine scpE ?_ | refine TOps.nil ?_ | exact Conj.nil | refine Conj.cons rfl ?_ | refine Conj.same ?_ | refine Conj.ask ?_ ?_ | refine Tw.regd env ?_ | refine TDr.nil ⟨by kernel_rfl, ?_⟩
      | ((with_reducible refine TOps.any ?_); first | refine TOps.frunP env (by rfl) (by rfl) ?_ ?_ | refine TOps.strip env (by rfl) (by rfl) ?_ ?_)
      | ((with_reducible refine TDr.any ?_); refine TDr.frunP env (by rfl) (by rfl) ?_ ?_)
      | ((with_reducible refine Tw.any ?_); first | refine Tw.condT (by rfl) ?_ | refine Tw.condF (by rfl) ?_)
      | ((first | ((with_reducible refine TOps.any ?_); (fail_if_success refine TOps.known (by rfl) ?_); refine TOps.ask (by rfl) (fun h => ?_) (fun h => ?_)) | ((with_reducible refine TDr.any ?_); (fail_if_success refine TDr.known (by first | rfl | assumption) ?_); refine TDr.ask (by rfl) (fun h hk => ?_) (fun h => ?_)) | ((with_reducible refine Tw.any ?_); refine Tw.cond (by rfl) (fun h => ?_) (fun h => ?_))) <;> (try simp only [goS] at h) <;> (try simp only [rdi, rdy, Int.toNat_natCast, Nat.add_zero] at h) <;> (try (exfalso; (try simp only [goP, reduceCtorEq] at h) <;> (first | assumption | omega | contradiction | (rcases h with ⟨_, _⟩ <;> first | contradiction | omega) | (rcases h with h | h <;> first | contradiction | omega)))))
      | ((with_reducible refine tret.any ?_); first | refine tret.ok (by rfl) ?_ | refine tret.okN (by rfl) ?_)
      | ((with_reducible refine Due.mk ?_); (first | with_reducible rfl | omega | assumption | decide | ((try simp only [goS] at *) <;> (try intro h) <;> (try intro h') <;> (try simp only [goS] at *) <;> (try simp only [rdi, rdy, Int.toNat_natCast, Nat.add_zero] at *) <;> (try simp only [rng]) <;> (first | assumption | omega)) | (exact due_app0 (by omega)) | (exact due_app (by omega)) | (intros; simp; done) | (intros; simp; omega)))
      | with_reducible refine Due.mk ?_
      | omega)
    refine ⟨rfl, congrArg TV.bool ?_, rfl⟩
    simp
end Go.Proofs.Ytanhalcbghbpaaa
