/- The law ControlIdle. -/
import Derived.Test.YtbaepacihkgalaaCtl6
import Derived.Test.YtbaepacihkgalaaCtl7
import Derived.Test.YtbaepacihkgalaaCtlW
import Derived.Test.YtbaepacihkgalaaRRec
import Derived.Test.YtbaepacihkgalaaLControlIdle
import Derived.Test.YtbaepacihkgalaaGo
namespace Go.Proofs.Ytbaepacihkgalaa
open Go Go.Lite
set_option linter.unusedVariables false
set_option linter.unusedSimpArgs false
set_option maxRecDepth 100000
set_option maxHeartbeats 100000000
-- @simp rdi rd6i rdLiJ

theorem same0_c : TC R Try.prog R2_SameRecords_f [.nils, .nils] [] (fun v X => v = .bool true ∧ X = []) := by
  refine TC.args ?_ ?_ (sameRec_c [] (by dsimp only [Due]; simp) (fun i hi => absurd hi (by simp)) (fun i hi => absurd hi (by simp)) (fun i j hi => absurd hi (by simp)))
  · rfl
  · intro i h1 h2
    match i, h1, h2 with
    | 0, _, _ => exact Less.nil (R := R) (e := E2iL2iJLLiJJi)
    | 1, _, _ => exact Less.nil (R := R) (e := E2iL2iJLLiJJi)
theorem ControlIdle_law (Z mr rg tol : Int) (tg : List Int) (ks ld : List (List Int)) (l : List Ev) (n : Int) (_ : rng .i64 Z) (_ : rng .i64 mr) (_ : rng .i64 rg) (_ : rng .i64 tol) (wt : tg.length ≤ 9223372036854775807 ∧ ∀ y ∈ tg, Wi y) (wk : ks.length ≤ 9223372036854775807 ∧ ∀ y ∈ ks, WLiJ y) (wl : ld.length ≤ 9223372036854775807 ∧ ∀ y ∈ ld, WLiJ y) (ws : l.length ≤ 9223372036854775807 ∧ ∀ y ∈ l, W6i y) (wn : rng .i64 n) :
    TC R Try.prog K2_ControlIdle_f [.agg [.int .i64 Z, .int .i64 mr, .int .i64 rg, .int .i64 tol, .lst Ei tg, .lst ELiJ ks, .lst ELiJ ld], .lst E6i l, .int .i64 n] [] (fun v X => v = .bool true ∧ X = []) := by
  have hkr : ∀ i, i < ks.length → (ks.getD i []).length ≤ 9223372036854775807 := fun i hi => (wk.2 _ (getD_mem hi)).1
  have hlr : ∀ i, i < ld.length → (ld.getD i []).length ≤ 9223372036854775807 := fun i hi => (wl.2 _ (getD_mem hi)).1
  have md := rMod_c n 50 (by dsimp only [Due]; have := wn; simp only [rng] at this; omega)
  refine tc0 env K2_ControlIdle_s (by rfl) ?_
  dsimp only [K2_ControlIdle_c]
  by_cases hc : chkE Z mr rg tol tg ks ld = 0
  rotate_left
  · have rc := runC_c Z mr rg tol (n % 50) tg ks ld l wt.1 wk.1 wl.1 hkr hlr hc
    have lc := loopC_c Z mr rg tol 4000 4000 (n % 50) tg ks ld l wt.1 wk.1 wl.1 hkr hlr hc
    generalize chkE Z mr rg tol tg ks ld = q at *
    repeat' (first
      | ((with_reducible refine TOps.any ?_); refine TOps.callV env (by rfl) (by rfl) (by rfl) (controlWorks_c) ?_)
      | ((with_reducible refine TOps.any ?_); refine TOps.callV env (by rfl) (by rfl) (by rfl) (md) ?_)
      | ((with_reducible refine TOps.any ?_); refine TOps.callV env (by rfl) (by rfl) (by rfl) (rc) ?_)
      | ((with_reducible refine TOps.any ?_); refine TOps.callV env (by rfl) (by rfl) (by rfl) (lc) ?_)
      | ((with_reducible refine TOps.any ?_); refine TOps.callE env (by rfl) (by rfl) (by rfl) ?_ (same0_c) (by rfl) ?_)
      | refine GZp_i_6i_LiJ ?_ ?_ ?_ ?_ ?_ ?_ ?_ ?_
      | with_reducible first | exact BzZq.mk | refine Tw.ret ?_ | refine ImZq.i fun h => ?_ | refine IkZq.i fun hk => ?_)
    exact ⟨rfl, congrArg _ (by simp), rfl⟩
  obtain ⟨eZ, so⟩ := chk_ok hc
  obtain ⟨S, eS⟩ : ∃ S : Su, S = ⟨Z.toNat, mr, rg, tol, tg, ks, ld⟩ := ⟨_, rfl⟩
  rw [← eS] at so
  have hc' : chkE S.Z S.mr S.rg S.tol S.tg S.ks S.ld = 0 := by rw [eS]; dsimp only; rw [eZ]; exact hc
  obtain ⟨N, eN⟩ : ∃ N : Nat, n % 50 = N := ⟨(n % 50).toNat, by omega⟩
  rw [eN] at md
  have e1 : Z = S.Z := by rw [eS]; exact eZ.symm
  have e2 : mr = S.mr := by rw [eS]
  have e3 : rg = S.rg := by rw [eS]
  have e4 : tol = S.tol := by rw [eS]
  have e5 : tg = S.tg := by rw [eS]
  have e6 : ks = S.ks := by rw [eS]
  have e7 : ld = S.ld := by rw [eS]
  rw [e1, e2, e3, e4, e5, e6, e7]
  rw [e5] at so
  obtain ⟨u, eu⟩ : ∃ u, u = S.tg.length := ⟨_, rfl⟩
  rw [← eu] at so
  clear eS e1 e2 e3 e4 e5 e6 e7 hkr hlr
  by_cases hs : scE l u S.Z = 0
  rotate_left
  · have rs := runS_c S u l N so hc' hs ws.1
    have ls := loopS_c S u 4000 4000 l N so hc' rfl hs ws.1
    generalize scE l u S.Z = q at *
    repeat' (first
      | ((with_reducible refine TOps.any ?_); refine TOps.callV env (by rfl) (by rfl) (by rfl) (controlWorks_c) ?_)
      | ((with_reducible refine TOps.any ?_); refine TOps.callV env (by rfl) (by rfl) (by rfl) (md) ?_)
      | ((with_reducible refine TOps.any ?_); refine TOps.callV env (by rfl) (by rfl) (by rfl) (rs) ?_)
      | ((with_reducible refine TOps.any ?_); refine TOps.callV env (by rfl) (by rfl) (by rfl) (ls) ?_)
      | ((with_reducible refine TOps.any ?_); refine TOps.callE env (by rfl) (by rfl) (by rfl) ?_ (same0_c) (by rfl) ?_)
      | refine GZp_i_6i_LiJ ?_ ?_ ?_ ?_ ?_ ?_ ?_ ?_
      | with_reducible first | exact BzZq.mk | refine Tw.ret ?_ | refine ImZq.i fun h => ?_ | refine IkZq.i fun hk => ?_)
    exact ⟨rfl, congrArg _ (by simp), rfl⟩
  have hl : l.length ≤ 200 := by
    unfold scE at hs
    split at hs
    · omega
    · omega
  have hN : N < 50 := by omega
  have va := scE_all hs hl
  have rc := run_c S u l N so hc' hs hl (by dsimp only [Due]; omega)
  have lc := loop_c S u 4000 4000 l N so hc' rfl hs hl (by dsimp only [Due]; omega)
  rw [lpL_idle (c := newCt S 4000 4000) idle4000 rfl (by omega)] at lc
  have ro := fun k hk => run_ok (l := l) so va (n := N) (k := k) hk (by omega)
  have ou := so.un
  have oZ := so.Z
  have lL : (runL S u l N).length = N := tab_len
  have sm := sameRec_c (runL S u l N) (by dsimp only [Due]; omega) (fun i hi => by rw [(ro i (by omega)).sl]; omega) (fun i hi => by rw [(ro i (by omega)).fl]; omega) (fun i j hi hj => by
    have := (ro i (by omega)).fz j (by rw [← (ro i (by omega)).fl]; exact hj)
    rw [this.1]; omega)
  clear ro
  repeat' (first
    | ((with_reducible refine TOps.any ?_); refine TOps.callV env (by rfl) (by rfl) (by rfl) (controlWorks_c) ?_)
    | ((with_reducible refine TOps.any ?_); refine TOps.callV env (by rfl) (by rfl) (by rfl) (md) ?_)
    | ((with_reducible refine TOps.any ?_); refine TOps.callV env (by rfl) (by rfl) (by rfl) (rc) ?_)
    | ((with_reducible refine TOps.any ?_); refine TOps.callV env (by rfl) (by rfl) (by rfl) (lc) ?_)
    | ((with_reducible refine TOps.any ?_); refine TOps.callV env (by rfl) (by rfl) (by rfl) (sm) ?_)
    | refine GZp_i_6i_LiJ ?_ ?_ ?_ ?_ ?_ ?_ ?_ ?_
    | with_reducible first | exact BzZq.mk | refine Tw.ret ?_ | refine ImZq.i fun h => ?_ | refine IkZq.i fun hk => ?_)
  exact ⟨rfl, rfl, rfl⟩
end Go.Proofs.Ytbaepacihkgalaa
