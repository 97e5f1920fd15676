/- The law PressSteady. -/
import Derived.Test.YtbaepacihkgalaaPrsS
import Derived.Test.YtbaepacihkgalaaPressW
import Derived.Test.YtbaepacihkgalaaRMod
import Derived.Test.YtbaepacihkgalaaLPressSteady
namespace Go.Proofs.Ytbaepacihkgalaa
open Go Go.Lite
set_option linter.unusedVariables false
set_option linter.unusedSimpArgs false
set_option maxRecDepth 100000
set_option maxHeartbeats 4000000
-- @simp rdi rd6i rdLiJ

theorem nil3 {f e : Nat} {x y : TV A} {Q : TV A → TH A → Prop} (hx : thfree x = true) (hy : thfree y = true) (k : TC R Try.prog f [x, .lst e [], y] [] Q) : TC R Try.prog f [x, .nils, y] [] Q :=
  by
  refine TC.args ?_ ?_ k
  · rfl
  · intro i h1 h2
    match i, h1, h2 with
    | 0, _, _ => exact Less.same hx
    | 1, _, _ => exact Less.nil (R := R) (e := e)
    | 2, _, _ => exact Less.same hy
theorem PressSteady_law (Z mr rg tol : Int) (tg : List Int) (ks ld : List (List Int)) (un zn : Int) (_ : rng .i64 Z) (_ : rng .i64 mr) (_ : rng .i64 rg) (_ : rng .i64 tol) (wt : tg.length ≤ 9223372036854775807 ∧ ∀ y ∈ tg, Wi y) (wk : ks.length ≤ 9223372036854775807 ∧ ∀ y ∈ ks, WLiJ y) (wl : ld.length ≤ 9223372036854775807 ∧ ∀ y ∈ ld, WLiJ y) (wu : rng .i64 un) (wz : rng .i64 zn) :
    TC R Try.prog K2_PressSteady_f [.agg [.int .i64 Z, .int .i64 mr, .int .i64 rg, .int .i64 tol, .lst Ei tg, .lst ELiJ ks, .lst ELiJ ld], .int .i64 un, .int .i64 zn] [] (fun v X => v = .bool true ∧ X = []) := by
  have hkr : ∀ i, i < ks.length → (ks.getD i []).length ≤ 9223372036854775807 := fun i hi => (wk.2 _ (getD_mem hi)).1
  have hlr : ∀ i, i < ld.length → (ld.getD i []).length ≤ 9223372036854775807 := fun i hi => (wl.2 _ (getD_mem hi)).1
  refine tc0 env K2_PressSteady_s (by rfl) ?_
  dsimp only [K2_PressSteady_c]
  by_cases hc : chkE Z mr rg tol tg ks ld = 0
  rotate_left
  · have rc := nil3 rfl rfl (runC_c Z mr rg tol 203 tg ks ld [] wt.1 wk.1 wl.1 hkr hlr hc)
    generalize chkE Z mr rg tol tg ks ld = q at *
    repeat' (first
      | ((with_reducible refine TOps.any ?_); refine TOps.callV env (by rfl) (by rfl) (by rfl) (pressWorks_c) ?_)
      | ((with_reducible refine TOps.any ?_); refine TOps.callV env (by rfl) (by rfl) (by rfl) (rc) ?_)
      | with_reducible first | refine Tw.seq ?_ | refine Tw.reg ?_ | refine Tw.block ?_ | refine Tw.scope ?_ | refine Tw.skip ?_ | refine Tw.exit ?_ | refine Tw.ret ?_ | refine seqN ?_ | refine seqR ?_ | refine seqE ?_ | refine rndN ?_ | refine blkN ?_ | refine blkR ?_ | refine blkE1 ?_ | refine blkE0 (by kernel_rfl) ?_ | refine scpN ?_ | refine scpR ?_ | refine scpE ?_ | refine TOps.nil ?_ | exact Conj.nil | refine Conj.cons rfl ?_ | refine Conj.same ?_ | refine Conj.ask ?_ ?_ | refine Tw.regd env ?_ | refine TDr.nil ⟨by kernel_rfl, ?_⟩
      | ((with_reducible refine TOps.any ?_); first | refine TOps.frunP env (by rfl) (by rfl) ?_ ?_ | (refine TOps.known (by rfl) ?_; refine TOps.strip env (by rfl) (by rfl) ?_ ?_) | refine TOps.on (by rfl) (by rfl) ?_)
      | ((with_reducible refine TDr.any ?_); refine TDr.frunP env (by rfl) (by rfl) ?_ ?_)
      | ((with_reducible refine Tw.any ?_); first | refine Tw.condT (by rfl) ?_ | refine Tw.condF (by rfl) ?_)
      | ((first | ((with_reducible refine TOps.any ?_); (fail_if_success refine TOps.known (by rfl) ?_); refine TOps.ask (by rfl) (fun h => ?_) (fun h => ?_)) | ((with_reducible refine TDr.any ?_); (fail_if_success refine TDr.known (by first | rfl | assumption) ?_); refine TDr.ask (by rfl) (fun h hk => ?_) (fun h => ?_)) | ((with_reducible refine Tw.any ?_); refine Tw.cond (by rfl) (fun h => ?_) (fun h => ?_))) <;> (try simp only [goS] at h) <;> (try simp only [rdi, rd6i, rdLiJ, Int.toNat_natCast, Nat.add_zero] at h) <;> (try (exfalso; (try simp only [goP, reduceCtorEq] at h) <;> (first | assumption | omega | contradiction | (rcases h with ⟨_, _⟩ <;> first | contradiction | omega) | (rcases h with h | h <;> first | contradiction | omega)))))
      | ((with_reducible refine tret.any ?_); first | refine tret.ok (by rfl) ?_ | refine tret.okN (by rfl) ?_)
      | ((with_reducible refine Due.mk ?_); (first | with_reducible rfl | omega | assumption | decide | ((try simp only [goS] at *) <;> (try intro h) <;> (try intro h') <;> (try simp only [goS] at *) <;> (try simp only [rdi, rd6i, rdLiJ, Int.toNat_natCast, Nat.add_zero] at *) <;> (try simp only [rng]) <;> (first | assumption | omega)) | (exact due_app0 (by omega)) | (exact due_app (by omega)) | (intros; simp; done) | (intros; simp; omega)))
      | with_reducible refine Due.mk ?_
      | omega)
    exact ⟨rfl, rfl, rfl⟩
  obtain ⟨eZ, so⟩ := chk_ok hc
  obtain ⟨S, eS⟩ : ∃ S : Su, S = ⟨Z.toNat, mr, rg, tol, tg, ks, ld⟩ := ⟨_, rfl⟩
  rw [← eS] at so
  have hc' : chkE S.Z S.mr S.rg S.tol S.tg S.ks S.ld = 0 := by rw [eS]; dsimp only; rw [eZ]; exact hc
  have e1 : Z = S.Z := by rw [eS]; exact eZ.symm
  have e2 : mr = S.mr := by rw [eS]
  have e3 : rg = S.rg := by rw [eS]
  have e4 : tol = S.tol := by rw [eS]
  have e5 : tg = S.tg := by rw [eS]
  have e6 : ks = S.ks := by rw [eS]
  have e7 : ld = S.ld := by rw [eS]
  rw [e1, e2, e3, e4, e5, e6, e7]
  rw [e5] at so
  obtain ⟨u, eu⟩ : ∃ u, u = S.tg.length := ⟨_, rfl⟩
  rw [← eu] at so
  clear eS e1 e2 e3 e4 e5 e6 e7 hkr hlr
  have hs : scE [] u S.Z = 0 := rfl
  have ou := so.un
  have oZ := so.Z
  have tl := so.tl
  have kl := so.kl
  have ll := so.ll
  have rc := run_c S u [] 203 so hc' hs (by simp) (by dsimp only [Due]; omega)
  have rc := nil3 rfl rfl rc
  obtain ⟨i, ei⟩ : ∃ i : Nat, un % (u : Int) = i := ⟨(un % (u : Int)).toNat, by have := Int.emod_nonneg un (show (u : Int) ≠ 0 by omega); omega⟩
  obtain ⟨z, ez⟩ : ∃ z : Nat, zn % (S.Z : Int) = z := ⟨(zn % (S.Z : Int)).toNat, by have := Int.emod_nonneg zn (show (S.Z : Int) ≠ 0 by omega); omega⟩
  have hi : i < u := by have := Int.emod_lt_of_pos un (show (0 : Int) < u by omega); omega
  have hz : z < S.Z := by have := Int.emod_lt_of_pos zn (show (0 : Int) < S.Z by omega); omega
  have m1 := rMod_c un S.tg.length (by dsimp only [Due]; simp only [rng] at wu; omega)
  have ei' : un % (S.tg.length : Int) = i := by rw [tl]; exact ei
  have m2 := rMod_c zn S.Z (by dsimp only [Due]; simp only [rng] at wz; omega)
  rw [ei'] at m1
  rw [ez] at m2
  have ro := fun k hk => run_ok (l := []) so (scE_all hs (by simp)) (n := 203) (k := k) hk (by omega)
  have s1 := runL_st so hi hz (show 201 < 203 by omega) (by omega)
  have s2 := runL_st so hi hz (show 202 < 203 by omega) (by omega)
  obtain ⟨L, eL⟩ : ∃ L, L = runL S u [] 203 := ⟨_, rfl⟩
  have lL : L.length = 203 := by rw [eL]; exact tab_len
  rw [← eL] at rc s1 s2
  have r1 : RecOk S u 201 (L.getD 201 dRec) := by rw [eL]; exact ro 201 (by omega)
  have r2 : RecOk S u 202 (L.getD 202 dRec) := by rw [eL]; exact ro 202 (by omega)
  have oK := (so.k i hi)
  have oL := (so.l i hi)
  have oKz := oK.2 z hz
  have oLz := oL.2 z hz
  have st := stD_rest oKz oLz
  clear ro eL
  obtain ⟨a1, b1, c1, F1, d1, e1⟩ : ∃ a st sh fm dr, L.getD 201 dRec = (a, st, sh, fm, dr) := ⟨_, _, _, _, _, rfl⟩
  obtain ⟨a2, b2, c2, F2, d2, e2⟩ : ∃ a st sh fm dr, L.getD 202 dRec = (a, st, sh, fm, dr) := ⟨_, _, _, _, _, rfl⟩
  rw [e1] at r1 s1
  rw [e2] at r2 s2
  have f1 : F1.length = u := r1.fl
  have f2 : F2.length = u := r2.fl
  have g1 : (F1.getD i []).length = S.Z := (r1.fz i hi).1
  have g2 : (F2.getD i []).length = S.Z := (r2.fz i hi).1
  have v2 : 0 ≤ (F2.getD i []).getD z 0 ∧ (F2.getD i []).getD z 0 ≤ 24000 := (r2.fz i hi).2 z hz
  dsimp only at s1 s2
  have e1 : L.getD (Int.toNat 201) (R.d E2iL2iJLLiJJi) = (a1, b1, c1, F1, d1) := e1
  have e2 : L.getD (Int.toNat 202) (R.d E2iL2iJLLiJJi) = (a2, b2, c2, F2, d2) := e2
  clear r1 r2
  rw [st.1, ← s1] at s2
  rw [st.1, ← s1] at st
  obtain ⟨X1, eX1⟩ : ∃ X1, X1 = List.getD ((L.getD (Int.toNat 201) (R.d E2iL2iJLLiJJi)).2.2.2.1.getD (i : Int).toNat (R.d ELiJ)) (z : Int).toNat (R.d Ei) := ⟨_, rfl⟩
  obtain ⟨X2, eX2⟩ : ∃ X2, X2 = List.getD ((L.getD (Int.toNat 202) (R.d E2iL2iJLLiJJi)).2.2.2.1.getD (i : Int).toNat (R.d ELiJ)) (z : Int).toNat (R.d Ei) := ⟨_, rfl⟩
  obtain ⟨Y, eY⟩ : ∃ Y, Y = List.getD (S.ld.getD (i : Int).toNat (R.d ELiJ)) (z : Int).toNat (R.d Ei) := ⟨_, rfl⟩
  obtain ⟨K, eK⟩ : ∃ K, K = List.getD (S.ks.getD (i : Int).toNat (R.d ELiJ)) (z : Int).toNat (R.d Ei) := ⟨_, rfl⟩
  have p2 : X2 = (F2.getD i []).getD z 0 := by rw [eX2, e2]; rfl
  have p1 : X1 = (F1.getD i []).getD z 0 := by rw [eX1, e1]; rfl
  have pY : Y = (S.ld.getD i []).getD z 0 := eY
  have pK : K = (S.ks.getD i []).getD z 0 := eK
  rw [← pY] at oLz st s1
  rw [← pK] at oKz st s1
  rw [← p1] at st s1 s2
  rw [← p2] at v2 s2
  have pb : 0 ≤ X2 * (8 + Y) ∧ X2 * (8 + Y) ≤ 24000 * 16 := ⟨Int.mul_nonneg v2.1 (by omega), Int.mul_le_mul v2.2 (by omega) (by omega) (by omega)⟩
  have pb' : -9223372036854775808 ≤ X2 * (8 + Y) ∧ X2 * (8 + Y) ≤ 9223372036854775807 := by omega
  have fc := rFloor_c (X2 * (8 + Y)) 8 (by dsimp only [Due]; omega)
  have pd : -9223372036854775808 ≤ 16 * K - X2 * (8 + Y) / 8 ∧ 16 * K - X2 * (8 + Y) / 8 ≤ 9223372036854775807 := by omega
  have ek : -9223372036854775808 ≤ 16 * K ∧ 16 * K ≤ 9223372036854775807 := by omega
  have ey : -9223372036854775808 ≤ 8 + Y ∧ 8 + Y ≤ 9223372036854775807 := by omega
  have fin : (decide (X2 = X1) && decide (0 ≤ 16 * K - X2 * (8 + Y) / 8) && decide (16 * K - X2 * (8 + Y) / 8 < 8)) = true := by
    rw [← s2] at st
    rw [decide_eq_true s2, decide_eq_true st.2.1, decide_eq_true st.2.2]; rfl
  clear p1 p2 pY pK oKz oLz
  rw [eK, eY, eX2] at pd
  rw [eK] at ek
  rw [eY] at ey
  rw [eY, eX2] at pb' fc
  rw [eK, eY, eX2, eX1] at fin
  clear eK eY eX1 eX2 st s1 s2 v2 pb
  repeat' (first
    | ((with_reducible refine TOps.any ?_); refine TOps.callV env (by rfl) (by rfl) (by rfl) (pressWorks_c) ?_)
    | ((with_reducible refine TOps.any ?_); refine TOps.callV env (by rfl) (by rfl) (by rfl) (rc) ?_)
    | ((with_reducible refine TDr.any ?_); refine TDr.callE env (by first | rfl | assumption) (by rfl) (by rfl) ?_ (m1) (by rfl) (by rfl) ?_)
    | ((with_reducible refine TDr.any ?_); refine TDr.callE env (by first | rfl | assumption) (by rfl) (by rfl) ?_ (m2) (by rfl) (by rfl) ?_)
    | ((with_reducible refine TDr.any ?_); refine TDr.callE env (by first | rfl | assumption) (by rfl) (by rfl) ?_ (fc) (by rfl) (by rfl) ?_)
    | exact pb'
    | exact pd
    | exact ek
    | exact ey
    | with_reducible first | refine Tw.seq ?_ | refine Tw.reg ?_ | refine Tw.block ?_ | refine Tw.scope ?_ | refine Tw.skip ?_ | refine Tw.exit ?_ | refine Tw.ret ?_ | refine seqN ?_ | refine seqR ?_ | refine seqE ?_ | refine rndN ?_ | refine blkN ?_ | refine blkR ?_ | refine blkE1 ?_ | refine blkE0 (by kernel_rfl) ?_ | refine scpN ?_ | refine scpR ?_ | refine scpE ?_ | refine TOps.nil ?_ | exact Conj.nil | refine Conj.cons rfl ?_ | refine Conj.same ?_ | refine Conj.ask ?_ ?_ | refine Tw.regd env ?_ | refine TDr.nil ⟨by kernel_rfl, ?_⟩
    | ((with_reducible refine TOps.any ?_); first | refine TOps.frunP env (by rfl) (by rfl) ?_ ?_ | (refine TOps.known (by rfl) ?_; refine TOps.strip env (by rfl) (by rfl) ?_ ?_) | refine TOps.on (by rfl) (by rfl) ?_)
    | ((with_reducible refine TDr.any ?_); refine TDr.frunP env (by rfl) (by rfl) ?_ ?_)
    | ((with_reducible refine Tw.any ?_); first | refine Tw.condT (by rfl) ?_ | refine Tw.condF (by rfl) ?_)
    | ((first | ((with_reducible refine TOps.any ?_); (fail_if_success refine TOps.known (by rfl) ?_); refine TOps.ask (by rfl) (fun h => ?_) (fun h => ?_)) | ((with_reducible refine TDr.any ?_); (fail_if_success refine TDr.known (by first | rfl | assumption) ?_); refine TDr.ask (by rfl) (fun h hk => ?_) (fun h => ?_)) | ((with_reducible refine Tw.any ?_); refine Tw.cond (by rfl) (fun h => ?_) (fun h => ?_))) <;> (try simp only [goS] at h) <;> (try simp only [rdi, rd6i, rdLiJ, lL, e1, e2, f1, f2, tl, Int.toNat_natCast, Nat.add_zero] at h) <;> (try (exfalso; (try simp only [goP, reduceCtorEq] at h) <;> (first | assumption | omega | contradiction | (rcases h with ⟨_, _⟩ <;> first | contradiction | omega) | (rcases h with h | h <;> first | contradiction | omega)))))
    | ((with_reducible refine tret.any ?_); first | refine tret.ok (by rfl) ?_ | refine tret.okN (by rfl) ?_)
    | ((with_reducible refine Due.mk ?_); (first | with_reducible rfl | omega | assumption | decide | ((try simp only [goS] at *) <;> (try intro h) <;> (try intro h') <;> (try simp only [goS] at *) <;> (try simp only [rdi, rd6i, rdLiJ, lL, e1, e2, f1, f2, tl, Int.toNat_natCast, Nat.add_zero] at *) <;> (try simp only [rng]) <;> (first | assumption | omega)) | (exact due_app0 (by omega)) | (exact due_app (by omega)) | (intros; simp; done) | (intros; simp; omega)))
    | with_reducible refine Due.mk ?_
    | omega)
  exact ⟨rfl, congrArg _ fin, rfl⟩
end Go.Proofs.Ytbaepacihkgalaa
