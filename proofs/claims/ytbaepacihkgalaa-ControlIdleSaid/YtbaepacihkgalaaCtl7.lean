/- Controllers: runs that are refused. -/
import Derived.Test.YtbaepacihkgalaaCtl5
import Derived.Test.YtbaepacihkgalaaCtl4
import Derived.Test.YtbaepacihkgalaaGo
namespace Go.Proofs.Ytbaepacihkgalaa
open Go Go.Lite
set_option linter.unusedVariables false
set_option linter.unusedSimpArgs false
set_option maxRecDepth 100000
set_option maxHeartbeats 100000000
-- @simp rdi rd6i rdLiJ rd2i

theorem loopC_c (Z mr rg tol ci cr n : Int) (tg : List Int) (ks ld : List (List Int)) (l : List Ev) (h0 : Due (tg.length ≤ 9223372036854775807)) (hk : Due (ks.length ≤ 9223372036854775807)) (hl : Due (ld.length ≤ 9223372036854775807)) (hkr : ∀ i, i < ks.length → (ks.getD i []).length ≤ 9223372036854775807) (hlr : ∀ i, i < ld.length → (ld.getD i []).length ≤ 9223372036854775807) (hc : chkE Z mr rg tol tg ks ld ≠ 0) :
    TC R Try.prog control_Loop_f [.agg [.int .i64 Z, .int .i64 mr, .int .i64 rg, .int .i64 tol, .lst Ei tg, .lst ELiJ ks, .lst ELiJ ld], .agg [.int .i64 ci, .int .i64 cr], .lst E6i l, .int .i64 n] [] (fun v X => v = .tup [.nils, .int .i64 (chkE Z mr rg tol tg ks ld)] ∧ X = []) := by
  have nc := newBad_c Z mr rg tol tg ks ld h0 hk hl hkr hlr hc
  generalize chkE Z mr rg tol tg ks ld = q at *
  refine tc0 env control_Loop_s (by rfl) ?_
  dsimp only [control_Loop_c]
  repeat' (first
    | ((with_reducible refine TOps.any ?_); refine TOps.callV env (by rfl) (by rfl) (by rfl) (nc) ?_)
    | refine GZp_i_6i_LiJ_2i ?_ ?_ ?_ ?_ ?_ ?_ ?_ ?_
    | with_reducible first | exact BzZq.mk | refine Tw.ret ?_ | refine ImZq.i fun h => ?_ | refine IkZq.i fun hk => ?_)
  exact ⟨rfl, rfl, rfl⟩
def loopS_c_P (n8 : Nat) : Prop := ∀ (S : Su) (u : Nat) (ci cr : Int) (l : List Ev) (n : Int) (so : SuOk S u) (hc : chkE S.Z S.mr S.rg S.tol S.tg S.ks S.ld = 0) (h0 : ctlE ci cr = 0) (hs : scE l u S.Z ≠ 0) (hl : Due (l.length ≤ 9223372036854775807)) (e8 : u = n8), TC R Try.prog control_Loop_f [.agg [.int .i64 S.Z, .int .i64 S.mr, .int .i64 S.rg, .int .i64 S.tol, .lst Ei S.tg, .lst ELiJ S.ks, .lst ELiJ S.ld], .agg [.int .i64 ci, .int .i64 cr], .lst E6i l, .int .i64 n] [] (fun v X => v = .tup [.nils, .int .i64 (scE l u S.Z)] ∧ X = [])
theorem loopS_c_A {n8 : Nat} (h8 : loopS_c_P n8 := by
    intro S u ci cr l n so hc h0 hs hl e8
    have tl := so.tl
    have hu := so.un
    have nc := new_c S u so hc
    have sh := prB_sh (b := 2) (S := S) (u := u) (p := newP S)
    have cn := cnew_c S u ci cr so hc h0
    have shc := ctB_sh (b := 2 * u + 4) (S := S) (u := u) (c := newCt S ci cr)
    have sc := script_c l S.tg.length S.Z hl
    rw [tl] at sc
    refine tc0 env control_Loop_s (by rfl) ?_
    dsimp only [control_Loop_c]
    generalize scE l u S.Z = q at *
    rw [← tl] at sc
    subst e8
    simp only [prB, prD, unsB, unC, unR, List.cons_append, List.nil_append, Nat.reduceAdd, Nat.reduceMul] at sh
    simp only [ctB, ctD, ksB, ksR, List.cons_append, List.nil_append, Nat.reduceAdd, Nat.reduceMul] at shc
    repeat' (first
      | ((with_reducible refine TOps.any ?_); refine callS env _ (nc) (sh) (by rfl) (by rfl) (by rfl) (by rfl) (by rfl) ?_)
      | ((with_reducible refine TOps.any ?_); refine callS env _ (cn) (shc) (by rfl) (by rfl) (by rfl) (by rfl) (by rfl) ?_)
      | ((with_reducible refine TOps.any ?_); refine TOps.callV env (by rfl) (by rfl) (by rfl) (sc) ?_)
      | refine GZp_i_6i_LiJ_2i ?_ ?_ ?_ ?_ ?_ ?_ ?_ ?_
      | with_reducible first | exact BzZq.mk | refine Tw.ret ?_ | refine ImZq.i fun h => ?_ | refine IkZq.i fun hk => ?_)
    exact ⟨rfl, rfl, rfl⟩) : loopS_c_P n8 := h8
theorem loopS_c_1 : loopS_c_P 1 := loopS_c_A
theorem loopS_c_2 : loopS_c_P 2 := loopS_c_A
theorem loopS_c_3 : loopS_c_P 3 := loopS_c_A
theorem loopS_c_4 : loopS_c_P 4 := loopS_c_A
theorem loopS_c_5 : loopS_c_P 5 := loopS_c_A
theorem loopS_c_6 : loopS_c_P 6 := loopS_c_A
theorem loopS_c_7 : loopS_c_P 7 := loopS_c_A
theorem loopS_c_8 : loopS_c_P 8 := loopS_c_A
theorem loopS_c (S : Su) (u : Nat) (ci cr : Int) (l : List Ev) (n : Int) (so : SuOk S u) (hc : chkE S.Z S.mr S.rg S.tol S.tg S.ks S.ld = 0) (h0 : ctlE ci cr = 0) (hs : scE l u S.Z ≠ 0) (hl : Due (l.length ≤ 9223372036854775807)) : TC R Try.prog control_Loop_f [.agg [.int .i64 S.Z, .int .i64 S.mr, .int .i64 S.rg, .int .i64 S.tol, .lst Ei S.tg, .lst ELiJ S.ks, .lst ELiJ S.ld], .agg [.int .i64 ci, .int .i64 cr], .lst E6i l, .int .i64 n] [] (fun v X => v = .tup [.nils, .int .i64 (scE l u S.Z)] ∧ X = []) := by
  rcases eight (u := u) (so.un) with e8 | e8 | e8 | e8 | e8 | e8 | e8 | e8
  · exact loopS_c_1 S u ci cr l n so hc h0 hs hl e8
  · exact loopS_c_2 S u ci cr l n so hc h0 hs hl e8
  · exact loopS_c_3 S u ci cr l n so hc h0 hs hl e8
  · exact loopS_c_4 S u ci cr l n so hc h0 hs hl e8
  · exact loopS_c_5 S u ci cr l n so hc h0 hs hl e8
  · exact loopS_c_6 S u ci cr l n so hc h0 hs hl e8
  · exact loopS_c_7 S u ci cr l n so hc h0 hs hl e8
  · exact loopS_c_8 S u ci cr l n so hc h0 hs hl e8
end Go.Proofs.Ytbaepacihkgalaa
