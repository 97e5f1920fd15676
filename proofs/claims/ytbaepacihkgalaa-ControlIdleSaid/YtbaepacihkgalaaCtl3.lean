/- Controllers: one is made. -/
import Derived.Test.YtbaepacihkgalaaCtl2b
import Derived.Test.YtbaepacihkgalaaCtl2f
import Derived.Test.YtbaepacihkgalaaCtl2g
import Derived.Test.YtbaepacihkgalaaPrsW
import Derived.Test.YtbaepacihkgalaaPrsD
import Derived.Test.YtbaepacihkgalaaGo
namespace Go.Proofs.Ytbaepacihkgalaa
open Go Go.Lite
set_option linter.unusedVariables false
set_option linter.unusedSimpArgs false
set_option maxRecDepth 100000
set_option maxHeartbeats 100000000
-- @simp rdi rd6i rdLiJ rd2i

def newCt (S : Su) (ci cr : Int) : Ct := { ci := ci, cr := cr, n := 0, ks := fun i => S.ks.getD i [] }
def ldC (S : Su) : Nat → Nat → List (TV A)
  | 0, _ => []
  | n + 1, i => .lst Ei (S.ld.getD i []) :: ldC S n (i + 1)
def nwC (S : Su) (u : Nat) (ci cr : Int) (v : TV A) : List (TV A) := [.int .i64 S.Z, .int .i64 (0 : Int), .int .i64 (0 : Int), .int .i64 (0 : Int), .lst Ei S.tg, .nils, v, .int .i64 ci, .int .i64 cr, .sl 1 1 0 u, .int .i64 (0 : Int)]
/-- The rows while the loads are copied. -/
def nwR (S : Su) (u : Nat) (ci cr : Int) : Nat → List (Option (TRow A))
  | 0 => some (.cells (nwC S u ci cr .nils)) :: some (.cells (ksC S.Z u 0)) :: ksR (fun i => S.ks.getD i []) u 0
  | k + 1 => (some (.cells (nwC S u ci cr (.sl 1 (u + 2) 0 (k + 1)))) :: some (.cells (ksC S.Z u 0)) :: ksR (fun i => S.ks.getD i []) u 0) ++ [some (.cells (ldC S (k + 1) 0))]
def nwE (S : Su) (u : Nat) (ci cr : Int) : List (Option (TRow A)) := (some (.cells (nwC S u ci cr (.sla 1 (u + 2) 0 u))) :: some (.cells (ksC S.Z u 0)) :: ksR (fun i => S.ks.getD i []) u 0) ++ [some (.arr ELiJ (glL (fun j => S.ld.getD j []) u 0))]
def cnew_c_P (n8 : Nat) : Prop := ∀ (S : Su) (u : Nat) (ci cr : Int) (so : SuOk S u) (hc : chkE S.Z S.mr S.rg S.tol S.tg S.ks S.ld = 0) (h0 : ctlE ci cr = 0) (e8 : u = n8), TC R Try.prog control_New_f [.agg [.int .i64 S.Z, .int .i64 S.mr, .int .i64 S.rg, .int .i64 S.tol, .lst Ei S.tg, .lst ELiJ S.ks, .lst ELiJ S.ld], .agg [.int .i64 ci, .int .i64 cr]] [] (fun v X => v = .tup [.ptr 0 0, .int .i64 0] ∧ X = ctR S u (newCt S ci cr))
theorem cnew_c_A {n8 : Nat} (h8 : cnew_c_P n8 := by
    intro S u ci cr so hc h0 e8
    have hu := so.un
    have oZ := so.Z
    have tl := so.tl
    have ll := so.ll
    have nc := new_c S u so hc
    have sh := prB_sh (b := 2) (S := S) (u := u) (p := newP S)
    have sk := kyB_sh (b := 2) (S := S) (u := u) (p := newP S) u
    have pok0 := (newP_ok so : PsOk S u (newP S))
    have kc := keys_c S u (newP S) hu (by dsimp only [Due]; omega) (fun i hi => (pok0.un i hi).kl)
    have cc := ccheck_c ci cr
    rw [h0] at cc
    have c1 : S.tg.length * 8 ≤ 140737488355328 ∧ S.tg.length ≤ 140737488355328 := by omega
    refine tc env control_New_s (by rfl) ?_
    dsimp only [control_New_c]
    have lz : ∀ i, i < u → (S.ld.getD i []).length = S.Z := fun i hi => (so.l i hi).1
    obtain ⟨hp, ehp⟩ : ∃ hp : Nat → List (Option (TRow A)), hp = nwR S u ci cr := ⟨_, rfl⟩
    obtain ⟨hd, ehd⟩ : ∃ hd : List (Option (TRow A)), hd = nwE S u ci cr := ⟨_, rfl⟩
    obtain ⟨w, hw⟩ : ∃ w, w = u := ⟨_, rfl⟩
    subst e8
    simp only [prB, prD, unsB, unC, unR, List.cons_append, List.nil_append, Nat.reduceAdd, Nat.reduceMul] at sh
    simp only [kyB, kyA, kyD, prB, prD, unsB, unC, unR, List.cons_append, List.nil_append, Nat.reduceAdd, Nat.reduceMul] at sk
    simp only [kyV] at kc
    repeat' (first
      | ((with_reducible refine TOps.any ?_); refine callS env _ (nc) (sh) (by rfl) (by rfl) (by rfl) (by rfl) (by rfl) ?_)
      | ((with_reducible refine TOps.any ?_); refine TOps.callV env (by rfl) (by rfl) (by rfl) (cc) ?_)
      | ((with_reducible refine TDr.any ?_); refine callQ2 env 2 _ (kc) (sh) (sk) (by rfl) (by rfl) (by first | (simp only [List.length_cons, List.length_nil, Nat.reduceAdd]; rfl) | (simp only [prR_len, Nat.reduceMul, Nat.reduceAdd]; rfl) | rfl) (by first | rfl | assumption) (by rfl) (by rfl) (by rfl) (by rfl) (by rfl) (by rfl) ?_)
      | exact c1
      | refine GZp_i_6i_LiJ_2i ?_ ?_ ?_ ?_ ?_ ?_ ?_ ?_
      | with_reducible first | exact BzZq.mk | refine Tw.ret ?_ | refine ImZq.i fun h => ?_ | refine IkZq.i fun hk => ?_)
    refine Tw.frzD env 1 (by rfl) (by rfl) (by rfl) ?_ ?_ ?_
    · repeat' (first
        | refine GZ_i_6i_LiJ_2i ?_ ?_ ?_ ?_ ?_ ?_ ?_ ?_
        | with_reducible first | exact BzZq.mk | refine Tw.ret ?_ | refine ImZq.i fun h => ?_ | refine IkZq.i fun hk => ?_)
    · repeat' (first
        | refine GZ_i_6i_LiJ_2i ?_ ?_ ?_ ?_ ?_ ?_ ?_ ?_
        | with_reducible first | exact BzZq.mk | refine Tw.ret ?_ | refine ImZq.i fun h => ?_ | refine IkZq.i fun hk => ?_)
    rw [cut_all rfl]
    refine Tw.loopK [46] (fun k : Nat => k ≤ w) (fun k => w - k) (fun k => [(48, .int .i64 k), (47, .int .i64 w), (9, .ptr 0 0)]) (fun k => hp k) ⟨0, by omega, ?_⟩ (fun k hk => ?_)
    · refine TWk.hE (by simp only [ehp, nwR, nwC, ldC, ksC, ksR, List.cons_append, List.nil_append, Nat.reduceAdd]; rfl) (TWk.fcanonG env (fun n => [some (3 * n - 1), some (3 * n - 2)] ++ (List.range' (2 * n) (n - 2)).map some) (by rfl) ?_)
      repeat' (first
        | refine GZx_i_6i_LiJ_2i (And.intro ll hw) ?_ ?_ ?_ ?_ ?_ ?_ ?_ ?_
        | with_reducible first | exact BzZq.mk | refine Tw.ret ?_ | refine ImZq.i fun h => ?_ | refine IkZq.i fun hk => ?_)
    clear nc sh sk kc
    rcases Nat.lt_or_ge k w with hk | hk
    · have b := below (i := k) (u := w) ⟨hk, by omega⟩
      have lk := (lz k (by omega))
      have d1 : (S.ld.getD k []).length * 8 ≤ 140737488355328 ∧ (S.ld.getD k []).length ≤ 140737488355328 := by omega
      have c2 : cut (S.ld.getD k []) 0 (S.ld.getD k []).length = S.ld.getD k [] := cut_all rfl
      obtain ⟨j, ej⟩ : ∃ j, j = k := ⟨_, rfl⟩
      rcases b with ⟨rfl, b⟩ | ⟨rfl, b⟩ | ⟨rfl, b⟩ | ⟨rfl, b⟩ | ⟨rfl, b⟩ | ⟨rfl, b⟩ | ⟨rfl, b⟩ | ⟨rfl, b⟩
      all_goals first | (exfalso; omega) | refine Tw.hE (by simp only [ehp, nwR, nwC, ldC, ksC, ksR, List.cons_append, List.nil_append, Nat.reduceAdd]; rfl) ?_
      all_goals
        repeat' (first
          | exact d1
          | refine GZy_i_6i_LiJ_2i (And.intro hw ll) ?_ ?_ ?_ ?_ ?_ ?_ ?_ ?_
          | with_reducible first | exact BzZq.mk | refine Tw.ret ?_ | refine ImZq.i fun h => ?_ | refine IkZq.i fun hk => ?_)
        refine ⟨j + 1, by omega, by omega, ?_⟩
        refine TWk.frzD env 3 (by rfl) (by rfl) (by rfl) ?_ ?_ ?_
        · repeat' (first
            | refine GZ_i_6i_LiJ_2i ?_ ?_ ?_ ?_ ?_ ?_ ?_ ?_
            | with_reducible first | exact BzZq.mk | refine Tw.ret ?_ | refine ImZq.i fun h => ?_ | refine IkZq.i fun hk => ?_)
        · repeat' (first
            | refine GZ_i_6i_LiJ_2i ?_ ?_ ?_ ?_ ?_ ?_ ?_ ?_
            | with_reducible first | exact BzZq.mk | refine Tw.ret ?_ | refine ImZq.i fun h => ?_ | refine IkZq.i fun hk => ?_)
        rw [ej]
        refine TWk.hE (by simp only [ehp, nwR, nwC, ldC, ksC, ksR, List.cons_append, List.nil_append, Nat.reduceAdd]; rfl) ?_
        first | refine TWk.fcanonG env (fun n => (List.range (n - 1)).map some ++ [some (n + 1)]) (by rfl) ?_ | refine TWk.fcanonG env (fun n => (List.range (n - 1)).map some ++ [some (n + 2)]) (by rfl) ?_ | trace_state
        repeat' (first
          | exact c2.symm
          | exact rfl
          | refine GZ_i_6i_LiJ_2i ?_ ?_ ?_ ?_ ?_ ?_ ?_ ?_
          | with_reducible first | exact BzZq.mk | refine Tw.ret ?_ | refine ImZq.i fun h => ?_ | refine IkZq.i fun hk => ?_)
    · obtain rfl : w = k := by omega
      refine Tw.hE (by simp only [ehp, hw, nwR, nwC, ldC, ksC, ksR, List.cons_append, List.nil_append, Nat.reduceAdd]; rfl) ?_
      refine Tw.reP (H' := hd) (by rw [ehd]; rfl) ?_
      refine Tw.hE (by simp only [ehd, nwE, glL_all ll, nwC, ksC, ksR, List.cons_append, List.nil_append, Nat.reduceAdd]; rfl) ?_
      refine Tw.frzD env 1 (by rfl) (by rfl) (by rfl) ?_ ?_ ?_
      · repeat' (first
          | refine GZx_i_6i_LiJ_2i ll ?_ ?_ ?_ ?_ ?_ ?_ ?_ ?_
          | with_reducible first | exact BzZq.mk | refine Tw.ret ?_ | refine ImZq.i fun h => ?_ | refine IkZq.i fun hk => ?_)
      · repeat' (first
          | refine GZx_i_6i_LiJ_2i ll ?_ ?_ ?_ ?_ ?_ ?_ ?_ ?_
          | with_reducible first | exact BzZq.mk | refine Tw.ret ?_ | refine ImZq.i fun h => ?_ | refine IkZq.i fun hk => ?_)
      rw [cut_all ll.symm]
      repeat' (first
        | ((with_reducible refine Tw.retI ?_); refine Tw.gcN env 4 [0, 1, 2] [4, 5] (by rfl) (by rfl) (by rfl) ?_ (Tw.ret ?_))
        | ((with_reducible refine Tw.retI ?_); refine Tw.gcN env 5 [0, 1, 2, 3] [4, 5] (by rfl) (by rfl) (by rfl) ?_ (Tw.ret ?_))
        | ((with_reducible refine Tw.retI ?_); refine Tw.gcN env 6 [0, 1, 2, 3, 4] [4, 5] (by rfl) (by rfl) (by rfl) ?_ (Tw.ret ?_))
        | ((with_reducible refine Tw.retI ?_); refine Tw.gcN env 7 [0, 1, 2, 3, 4, 5] [4, 5] (by rfl) (by rfl) (by rfl) ?_ (Tw.ret ?_))
        | ((with_reducible refine Tw.retI ?_); refine Tw.gcN env 8 [0, 1, 2, 3, 4, 5, 6] [4, 5] (by rfl) (by rfl) (by rfl) ?_ (Tw.ret ?_))
        | ((with_reducible refine Tw.retI ?_); refine Tw.gcN env 9 [0, 1, 2, 3, 4, 5, 6, 7] [4, 5] (by rfl) (by rfl) (by rfl) ?_ (Tw.ret ?_))
        | ((with_reducible refine Tw.retI ?_); refine Tw.gcN env 10 [0, 1, 2, 3, 4, 5, 6, 7, 8] [4, 5] (by rfl) (by rfl) (by rfl) ?_ (Tw.ret ?_))
        | ((with_reducible refine Tw.retI ?_); refine Tw.gcN env 11 [0, 1, 2, 3, 4, 5, 6, 7, 8, 9] [4, 5] (by rfl) (by rfl) (by rfl) ?_ (Tw.ret ?_))
        | refine GZp_i_6i_LiJ_2i ?_ ?_ ?_ ?_ ?_ ?_ ?_ ?_
        | with_reducible first | exact BzZq.mk | refine Tw.ret ?_ | refine ImZq.i fun h => ?_ | refine IkZq.i fun hk => ?_)
      all_goals exact ⟨rfl, rfl⟩) : cnew_c_P n8 := h8
theorem cnew_c_1 : cnew_c_P 1 := cnew_c_A
theorem cnew_c_2 : cnew_c_P 2 := cnew_c_A
theorem cnew_c_3 : cnew_c_P 3 := cnew_c_A
theorem cnew_c_4 : cnew_c_P 4 := cnew_c_A
theorem cnew_c_5 : cnew_c_P 5 := cnew_c_A
theorem cnew_c_6 : cnew_c_P 6 := cnew_c_A
theorem cnew_c_7 : cnew_c_P 7 := cnew_c_A
theorem cnew_c_8 : cnew_c_P 8 := cnew_c_A
theorem cnew_c (S : Su) (u : Nat) (ci cr : Int) (so : SuOk S u) (hc : chkE S.Z S.mr S.rg S.tol S.tg S.ks S.ld = 0) (h0 : ctlE ci cr = 0) : TC R Try.prog control_New_f [.agg [.int .i64 S.Z, .int .i64 S.mr, .int .i64 S.rg, .int .i64 S.tol, .lst Ei S.tg, .lst ELiJ S.ks, .lst ELiJ S.ld], .agg [.int .i64 ci, .int .i64 cr]] [] (fun v X => v = .tup [.ptr 0 0, .int .i64 0] ∧ X = ctR S u (newCt S ci cr)) := by
  rcases eight (u := u) (so.un) with e8 | e8 | e8 | e8 | e8 | e8 | e8 | e8
  · exact cnew_c_1 S u ci cr so hc h0 e8
  · exact cnew_c_2 S u ci cr so hc h0 e8
  · exact cnew_c_3 S u ci cr so hc h0 e8
  · exact cnew_c_4 S u ci cr so hc h0 e8
  · exact cnew_c_5 S u ci cr so hc h0 e8
  · exact cnew_c_6 S u ci cr so hc h0 e8
  · exact cnew_c_7 S u ci cr so hc h0 e8
  · exact cnew_c_8 S u ci cr so hc h0 e8
theorem cfeed_c (S : Su) (u : Nat) (c : Ct) (st dr : Int) (sh : List (Int × Int)) (fm : List (List Int)) (so : SuOk S u) (ck : CtOk S u c) (hn : Due (c.n < 3999)) (ok : RcOk S u sh fm) : TC R Try.prog __control_Controller__Feed_f [.ptr 0 0, .agg [.int .i64 (c.n + 1), .int .i64 st, .lst E2i sh, .lst ELiJ fm, .int .i64 dr]] (ctR S u c) (fun v X => v = .tup [.sla 6 (u + 2) 0 (feE S c sh fm u).length, .int .i64 0] ∧ X = ctR S u { c with n := c.n + 1, ks := keK S c fm u } ++ [some (.arr E6i (feE S c sh fm u))]) := by
  rcases eight (u := u) (so.un) with e8 | e8 | e8 | e8 | e8 | e8 | e8 | e8
  · exact cfeed_c_1 S u c st dr sh fm so ck hn ok e8
  · exact cfeed_c_2 S u c st dr sh fm so ck hn ok e8
  · exact cfeed_c_3 S u c st dr sh fm so ck hn ok e8
  · exact cfeed_c_4 S u c st dr sh fm so ck hn ok e8
  · exact cfeed_c_5 S u c st dr sh fm so ck hn ok e8
  · exact cfeed_c_6 S u c st dr sh fm so ck hn ok e8
  · exact cfeed_c_7 S u c st dr sh fm so ck hn ok e8
  · exact cfeed_c_8 S u c st dr sh fm so ck hn ok e8
end Go.Proofs.Ytbaepacihkgalaa
