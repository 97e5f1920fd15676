/- Presses: runs that are refused. -/
import Derived.Test.YtbaepacihkgalaaPrsR
namespace Go.Proofs.Ytbaepacihkgalaa
open Go Go.Lite
set_option linter.unusedVariables false
set_option linter.unusedSimpArgs false
set_option maxRecDepth 100000
set_option maxHeartbeats 4000000
-- @simp rdi rd6i rdLiJ

theorem runC_c (Z mr rg tol n : Int) (tg : List Int) (ks ld : List (List Int)) (l : List Ev) (h0 : Due (tg.length ≤ 9223372036854775807)) (hk : Due (ks.length ≤ 9223372036854775807)) (hl : Due (ld.length ≤ 9223372036854775807)) (hkr : ∀ i, i < ks.length → (ks.getD i []).length ≤ 9223372036854775807) (hlr : ∀ i, i < ld.length → (ld.getD i []).length ≤ 9223372036854775807) (hc : chkE Z mr rg tol tg ks ld ≠ 0) :
    TC R Try.prog press_Run_f [.agg [.int .i64 Z, .int .i64 mr, .int .i64 rg, .int .i64 tol, .lst Ei tg, .lst ELiJ ks, .lst ELiJ ld], .lst E6i l, .int .i64 n] [] (fun v X => v = .tup [.nils, .int .i64 (chkE Z mr rg tol tg ks ld)] ∧ X = []) := by
  have nc := newBad_c Z mr rg tol tg ks ld h0 hk hl hkr hlr hc
  generalize chkE Z mr rg tol tg ks ld = q at *
  refine tc0 env press_Run_s (by rfl) ?_
  dsimp only [press_Run_c]
  repeat' (first
    | ((with_reducible refine TOps.any ?_); refine TOps.callV env (by rfl) (by rfl) (by rfl) (nc) ?_)
    | with_reducible first | refine Tw.seq ?_ | refine Tw.reg ?_ | refine Tw.block ?_ | refine Tw.scope ?_ | refine Tw.skip ?_ | refine Tw.exit ?_ | refine Tw.ret ?_ | refine seqN ?_ | refine seqR ?_ | refine seqE ?_ | refine rndN ?_ | refine blkN ?_ | refine blkR ?_ | refine blkE1 ?_ | refine blkE0 (by kernel_rfl) ?_ | refine scpN ?_ | refine scpR ?_ | refine scpE ?_ | refine TOps.nil ?_ | exact Conj.nil | refine Conj.cons rfl ?_ | refine Conj.same ?_ | refine Conj.ask ?_ ?_ | refine Tw.regd env ?_ | refine TDr.nil ⟨by kernel_rfl, ?_⟩
    | ((with_reducible refine TOps.any ?_); first | refine TOps.frunP env (by rfl) (by rfl) ?_ ?_ | (refine TOps.known (by rfl) ?_; refine TOps.strip env (by rfl) (by rfl) ?_ ?_) | refine TOps.on (by rfl) (by rfl) ?_)
    | ((with_reducible refine TDr.any ?_); refine TDr.frunP env (by rfl) (by rfl) ?_ ?_)
    | ((with_reducible refine Tw.any ?_); first | refine Tw.condT (by rfl) ?_ | refine Tw.condF (by rfl) ?_)
    | ((first | ((with_reducible refine TOps.any ?_); (fail_if_success refine TOps.known (by rfl) ?_); refine TOps.ask (by rfl) (fun h => ?_) (fun h => ?_)) | ((with_reducible refine TDr.any ?_); (fail_if_success refine TDr.known (by first | rfl | assumption) ?_); refine TDr.ask (by rfl) (fun h hk => ?_) (fun h => ?_)) | ((with_reducible refine Tw.any ?_); refine Tw.cond (by rfl) (fun h => ?_) (fun h => ?_))) <;> (try simp only [goS] at h) <;> (try simp only [rdi, rd6i, rdLiJ, Int.toNat_natCast, Nat.add_zero] at h) <;> (try (exfalso; (try simp only [goP, reduceCtorEq] at h) <;> (first | assumption | omega | contradiction | (rcases h with ⟨_, _⟩ <;> first | contradiction | omega) | (rcases h with h | h <;> first | contradiction | omega)))))
    | ((with_reducible refine tret.any ?_); first | refine tret.ok (by rfl) ?_ | refine tret.okN (by rfl) ?_)
    | ((with_reducible refine Due.mk ?_); (first | with_reducible rfl | omega | assumption | decide | ((try simp only [goS] at *) <;> (try intro h) <;> (try intro h') <;> (try simp only [goS] at *) <;> (try simp only [rdi, rd6i, rdLiJ, Int.toNat_natCast, Nat.add_zero] at *) <;> (try simp only [rng]) <;> (first | assumption | omega)) | (exact due_app0 (by omega)) | (exact due_app (by omega)) | (intros; simp; done) | (intros; simp; omega)))
    | with_reducible refine Due.mk ?_
    | omega)
  exact ⟨rfl, rfl, rfl⟩
def runS_c_P (n8 : Nat) : Prop := ∀ (S : Su) (u : Nat) (l : List Ev) (n : Int) (so : SuOk S u) (hc : chkE S.Z S.mr S.rg S.tol S.tg S.ks S.ld = 0) (hs : scE l u S.Z ≠ 0) (hl : Due (l.length ≤ 9223372036854775807)) (e8 : u = n8), TC R Try.prog press_Run_f [.agg [.int .i64 S.Z, .int .i64 S.mr, .int .i64 S.rg, .int .i64 S.tol, .lst Ei S.tg, .lst ELiJ S.ks, .lst ELiJ S.ld], .lst E6i l, .int .i64 n] [] (fun v X => v = .tup [.nils, .int .i64 (scE l u S.Z)] ∧ X = [])
theorem runS_c_A {n8 : Nat} (h8 : runS_c_P n8 := by
    intro S u l n so hc hs hl e8
    have tl := so.tl
    have hu := so.un
    have nc := new_c S u so hc
    have sh := prB_sh (b := 1) (S := S) (u := u) (p := newP S)
    have sc := script_c l S.tg.length S.Z hl
    rw [tl] at sc
    refine tc0 env press_Run_s (by rfl) ?_
    dsimp only [press_Run_c]
    generalize scE l u S.Z = q at *
    rw [← tl] at sc
    subst e8
    simp only [prB, prD, unsB, unC, unR, List.cons_append, List.nil_append, Nat.reduceAdd, Nat.reduceMul] at sh
    repeat' (first
      | ((with_reducible refine TOps.any ?_); refine callS env _ (nc) (sh) (by rfl) (by rfl) (by rfl) (by rfl) (by rfl) ?_)
      | ((with_reducible refine TOps.any ?_); refine TOps.callV env (by rfl) (by rfl) (by rfl) (sc) ?_)
      | with_reducible first | refine Tw.seq ?_ | refine Tw.reg ?_ | refine Tw.block ?_ | refine Tw.scope ?_ | refine Tw.skip ?_ | refine Tw.exit ?_ | refine Tw.ret ?_ | refine seqN ?_ | refine seqR ?_ | refine seqE ?_ | refine rndN ?_ | refine blkN ?_ | refine blkR ?_ | refine blkE1 ?_ | refine blkE0 (by kernel_rfl) ?_ | refine scpN ?_ | refine scpR ?_ | refine scpE ?_ | refine TOps.nil ?_ | exact Conj.nil | refine Conj.cons rfl ?_ | refine Conj.same ?_ | refine Conj.ask ?_ ?_ | refine Tw.regd env ?_ | refine TDr.nil ⟨by kernel_rfl, ?_⟩
      | ((with_reducible refine TOps.any ?_); first | refine TOps.frunP env (by rfl) (by rfl) ?_ ?_ | (refine TOps.known (by rfl) ?_; refine TOps.strip env (by rfl) (by rfl) ?_ ?_) | refine TOps.on (by rfl) (by rfl) ?_)
      | ((with_reducible refine TDr.any ?_); refine TDr.frunP env (by rfl) (by rfl) ?_ ?_)
      | ((with_reducible refine Tw.any ?_); first | refine Tw.condT (by rfl) ?_ | refine Tw.condF (by rfl) ?_)
      | ((first | ((with_reducible refine TOps.any ?_); (fail_if_success refine TOps.known (by rfl) ?_); refine TOps.ask (by rfl) (fun h => ?_) (fun h => ?_)) | ((with_reducible refine TDr.any ?_); (fail_if_success refine TDr.known (by first | rfl | assumption) ?_); refine TDr.ask (by rfl) (fun h hk => ?_) (fun h => ?_)) | ((with_reducible refine Tw.any ?_); refine Tw.cond (by rfl) (fun h => ?_) (fun h => ?_))) <;> (try simp only [goS] at h) <;> (try simp only [rdi, rd6i, rdLiJ, Int.toNat_natCast, Nat.add_zero] at h) <;> (try (exfalso; (try simp only [goP, reduceCtorEq] at h) <;> (first | assumption | omega | contradiction | (rcases h with ⟨_, _⟩ <;> first | contradiction | omega) | (rcases h with h | h <;> first | contradiction | omega)))))
      | ((with_reducible refine tret.any ?_); first | refine tret.ok (by rfl) ?_ | refine tret.okN (by rfl) ?_)
      | ((with_reducible refine Due.mk ?_); (first | with_reducible rfl | omega | assumption | decide | ((try simp only [goS] at *) <;> (try intro h) <;> (try intro h') <;> (try simp only [goS] at *) <;> (try simp only [rdi, rd6i, rdLiJ, Int.toNat_natCast, Nat.add_zero] at *) <;> (try simp only [rng]) <;> (first | assumption | omega)) | (exact due_app0 (by omega)) | (exact due_app (by omega)) | (intros; simp; done) | (intros; simp; omega)))
      | with_reducible refine Due.mk ?_
      | omega)
    exact ⟨rfl, rfl, rfl⟩) : runS_c_P n8 := h8
theorem runS_c_1 : runS_c_P 1 := runS_c_A
theorem runS_c_2 : runS_c_P 2 := runS_c_A
theorem runS_c_3 : runS_c_P 3 := runS_c_A
theorem runS_c_4 : runS_c_P 4 := runS_c_A
theorem runS_c_5 : runS_c_P 5 := runS_c_A
theorem runS_c_6 : runS_c_P 6 := runS_c_A
theorem runS_c_7 : runS_c_P 7 := runS_c_A
theorem runS_c_8 : runS_c_P 8 := runS_c_A
theorem runS_c (S : Su) (u : Nat) (l : List Ev) (n : Int) (so : SuOk S u) (hc : chkE S.Z S.mr S.rg S.tol S.tg S.ks S.ld = 0) (hs : scE l u S.Z ≠ 0) (hl : Due (l.length ≤ 9223372036854775807)) : TC R Try.prog press_Run_f [.agg [.int .i64 S.Z, .int .i64 S.mr, .int .i64 S.rg, .int .i64 S.tol, .lst Ei S.tg, .lst ELiJ S.ks, .lst ELiJ S.ld], .lst E6i l, .int .i64 n] [] (fun v X => v = .tup [.nils, .int .i64 (scE l u S.Z)] ∧ X = []) := by
  rcases eight (u := u) (so.un) with e8 | e8 | e8 | e8 | e8 | e8 | e8 | e8
  · exact runS_c_1 S u l n so hc hs hl e8
  · exact runS_c_2 S u l n so hc hs hl e8
  · exact runS_c_3 S u l n so hc hs hl e8
  · exact runS_c_4 S u l n so hc hs hl e8
  · exact runS_c_5 S u l n so hc hs hl e8
  · exact runS_c_6 S u l n so hc hs hl e8
  · exact runS_c_7 S u l n so hc hs hl e8
  · exact runS_c_8 S u l n so hc hs hl e8
end Go.Proofs.Ytbaepacihkgalaa
