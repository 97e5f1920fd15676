/- Presses: what a check says of a setup; a press that is not made. -/
import Derived.Test.YtbaepacihkgalaaPrsE
namespace Go.Proofs.Ytbaepacihkgalaa
open Go Go.Lite
set_option linter.unusedVariables false
set_option linter.unusedSimpArgs false
set_option maxRecDepth 100000
set_option maxHeartbeats 4000000
-- @simp rdi rd6i rdLiJ

theorem row_ok {Z most : Int} {l : List Int} (h : rowE Z most l = 0) : (l.length : Int) = Z ∧ ∀ z, z < l.length → 0 ≤ l.getD z 0 ∧ l.getD z 0 ≤ most := by
  unfold rowE at h
  split at h
  · omega
  · refine ⟨by omega, fun z hz => ?_⟩
    have := fstE_zero.1 h z hz
    split at this
    · omega
    · omega
theorem tbl_ok {l : List (List Int)} {u Z most : Int} (h : tblE l u Z most = 0) : (l.length : Int) = u ∧ ∀ i, i < l.length → rowE Z most (l.getD i []) = 0 := by
  unfold tblE at h
  split at h
  · omega
  · exact ⟨by omega, fun i hi => fstE_zero.1 h i hi⟩
theorem chk_ok {Z mr rg tol : Int} {tg : List Int} {ks ld : List (List Int)} (h : chkE Z mr rg tol tg ks ld = 0) : ((Z.toNat : Int) = Z) ∧ SuOk ⟨Z.toNat, mr, rg, tol, tg, ks, ld⟩ tg.length := by
  unfold chkE at h
  split at h
  · omega
  rename_i h1
  split at h
  · omega
  rename_i h2
  split at h
  · omega
  rename_i h3
  split at h
  · omega
  rename_i h4
  split at h
  · contradiction
  rename_i h5
  have k := tbl_ok (Decidable.not_not.1 h5)
  have l := tbl_ok h
  have t := fstE_zero.1 (Decidable.not_not.1 h4)
  refine ⟨by omega, ⟨by omega, by dsimp only; omega, by dsimp only; omega, by dsimp only; omega, by dsimp only; omega, rfl, by dsimp only; omega, by dsimp only; omega, fun i hi => ?_, fun i hi => ?_, fun i hi => ?_⟩⟩
  · have := t i hi
    split at this
    · omega
    · dsimp only; omega
  · have r := row_ok (k.2 i (by omega))
    exact ⟨by dsimp only; omega, fun z hz => r.2 z (by dsimp only at hz; omega)⟩
  · have r := row_ok (l.2 i (by omega))
    exact ⟨by dsimp only; omega, fun z hz => r.2 z (by dsimp only at hz; omega)⟩
theorem newBad_c (Z mr rg tol : Int) (tg : List Int) (ks ld : List (List Int)) (h0 : Due (tg.length ≤ 9223372036854775807)) (hk : Due (ks.length ≤ 9223372036854775807)) (hl : Due (ld.length ≤ 9223372036854775807)) (hkr : ∀ i, i < ks.length → (ks.getD i []).length ≤ 9223372036854775807) (hlr : ∀ i, i < ld.length → (ld.getD i []).length ≤ 9223372036854775807) (hc : chkE Z mr rg tol tg ks ld ≠ 0) :
    TC R Try.prog press_New_f [.agg [.int .i64 Z, .int .i64 mr, .int .i64 rg, .int .i64 tol, .lst Ei tg, .lst ELiJ ks, .lst ELiJ ld]] [] (fun v X => v = .tup [.nilp, .int .i64 (chkE Z mr rg tol tg ks ld)] ∧ X = []) := by
  have pc := pcheck_c Z mr rg tol tg ks ld h0 hk hl hkr hlr
  generalize chkE Z mr rg tol tg ks ld = q at *
  refine tc0 env press_New_s (by rfl) ?_
  dsimp only [press_New_c]
  repeat' (first
    | ((with_reducible refine TOps.any ?_); refine TOps.callV env (by rfl) (by rfl) (by rfl) (pc) ?_)
    | with_reducible first | refine Tw.seq ?_ | refine Tw.reg ?_ | refine Tw.block ?_ | refine Tw.scope ?_ | refine Tw.skip ?_ | refine Tw.exit ?_ | refine Tw.ret ?_ | refine seqN ?_ | refine seqR ?_ | refine seqE ?_ | refine rndN ?_ | refine blkN ?_ | refine blkR ?_ | refine blkE1 ?_ | refine blkE0 (by kernel_rfl) ?_ | refine scpN ?_ | refine scpR ?_ | refine scpE ?_ | refine TOps.nil ?_ | exact Conj.nil | refine Conj.cons rfl ?_ | refine Conj.same ?_ | refine Conj.ask ?_ ?_ | refine Tw.regd env ?_ | refine TDr.nil ⟨by kernel_rfl, ?_⟩
    | ((with_reducible refine TOps.any ?_); first | refine TOps.frunP env (by rfl) (by rfl) ?_ ?_ | (refine TOps.known (by rfl) ?_; refine TOps.strip env (by rfl) (by rfl) ?_ ?_) | refine TOps.on (by rfl) (by rfl) ?_)
    | ((with_reducible refine TDr.any ?_); refine TDr.frunP env (by rfl) (by rfl) ?_ ?_)
    | ((with_reducible refine Tw.any ?_); first | refine Tw.condT (by rfl) ?_ | refine Tw.condF (by rfl) ?_)
    | ((first | ((with_reducible refine TOps.any ?_); (fail_if_success refine TOps.known (by rfl) ?_); refine TOps.ask (by rfl) (fun h => ?_) (fun h => ?_)) | ((with_reducible refine TDr.any ?_); (fail_if_success refine TDr.known (by first | rfl | assumption) ?_); refine TDr.ask (by rfl) (fun h hk => ?_) (fun h => ?_)) | ((with_reducible refine Tw.any ?_); refine Tw.cond (by rfl) (fun h => ?_) (fun h => ?_))) <;> (try simp only [goS] at h) <;> (try simp only [rdi, rd6i, rdLiJ, Int.toNat_natCast, Nat.add_zero] at h) <;> (try (exfalso; (try simp only [goP, reduceCtorEq] at h) <;> (first | assumption | omega | contradiction | (rcases h with ⟨_, _⟩ <;> first | contradiction | omega) | (rcases h with h | h <;> first | contradiction | omega)))))
    | ((with_reducible refine tret.any ?_); first | refine tret.ok (by rfl) ?_ | refine tret.okN (by rfl) ?_)
    | ((with_reducible refine Due.mk ?_); (first | with_reducible rfl | omega | assumption | decide | ((try simp only [goS] at *) <;> (try intro h) <;> (try intro h') <;> (try simp only [goS] at *) <;> (try simp only [rdi, rd6i, rdLiJ, Int.toNat_natCast, Nat.add_zero] at *) <;> (try simp only [rng]) <;> (first | assumption | omega)) | (exact due_app0 (by omega)) | (exact due_app (by omega)) | (intros; simp; done) | (intros; simp; omega)))
    | with_reducible refine Due.mk ?_
    | omega)
  exact ⟨rfl, rfl, rfl⟩
end Go.Proofs.Ytbaepacihkgalaa
