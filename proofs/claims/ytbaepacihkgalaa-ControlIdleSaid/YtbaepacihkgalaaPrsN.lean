/- Presses: a press is made. -/
import Derived.Test.YtbaepacihkgalaaPrsD
import Derived.Test.YtbaepacihkgalaaPrs4
import Derived.Test.YtbaepacihkgalaaGo
namespace Go.Proofs.Ytbaepacihkgalaa
open Go Go.Lite
set_option linter.unusedVariables false
set_option linter.unusedSimpArgs false
set_option maxRecDepth 100000
set_option maxHeartbeats 100000000
-- @simp rdi rd6i rdLiJ

def newU (S : Su) (i : Nat) : Un := { x := 0, y := 0, dx := 0, dy := 0, gn := 8, ks := S.ks.getD i [], fl := List.replicate S.Z 0 }
def newP (S : Su) : Ps := { n := 0, s := 0, j := 0, us := newU S }
def kcC (Z : Nat) : Nat → Nat → List (TV A)
  | 0, _ => []
  | n + 1, i => .sla 1 (3 + i) 0 Z :: kcC Z n (i + 1)
def nwF (Z : Nat) : Nat → List (Option (TRow A))
  | 0 => []
  | n + 1 => some (.arr Ei (List.replicate Z (0 : Int))) :: nwF Z n
def nwU (Z u : Nat) : Nat → Nat → List (TV A)
  | 0, _ => []
  | n + 1, i => [.int .i64 (0 : Int), .int .i64 (0 : Int), .int .i64 (0 : Int), .int .i64 (0 : Int), .int .i64 (8 : Int), .sla 1 (3 + i) 0 Z, .sla 1 (3 + u + i) 0 Z] ++ nwU Z u n (i + 1)
/-- The rows while a press is made. -/
def newR (S : Su) (u : Nat) : Nat → List (Option (TRow A))
  | 0 => [some (.cells [.int .i64 S.Z, .int .i64 S.mr, .int .i64 S.rg, .int .i64 S.tol, .lst Ei S.tg, .lst ELiJ S.ks, .lst ELiJ S.ld]), some (.cells [.int .i64 (0 : Int), .int .i64 (0 : Int), .int .i64 (0 : Int), .int .i64 S.Z, .int .i64 S.mr, .int .i64 S.rg, .int .i64 S.tol, .lst Ei S.tg, .lst ELiJ S.ks, .lst ELiJ S.ld, .nils]), some (.cells (kcC S.Z u 0))] ++ cpA (fun i => S.ks.getD i []) u 0
  | k + 1 => [some (.cells [.int .i64 S.Z, .int .i64 S.mr, .int .i64 S.rg, .int .i64 S.tol, .lst Ei S.tg, .lst ELiJ S.ks, .lst ELiJ S.ld]), some (.cells [.int .i64 (0 : Int), .int .i64 (0 : Int), .int .i64 (0 : Int), .int .i64 S.Z, .int .i64 S.mr, .int .i64 S.rg, .int .i64 S.tol, .lst Ei S.tg, .lst ELiJ S.ks, .lst ELiJ S.ld, .sl 7 (3 + u + (k + 1)) 0 (k + 1)]), some (.cells (kcC S.Z u 0))] ++ cpA (fun i => S.ks.getD i []) u 0 ++ nwF S.Z (k + 1) ++ [some (.cells (nwU S.Z u (k + 1) 0))]
def new_c_P (n8 : Nat) : Prop := ∀ (S : Su) (u : Nat) (so : SuOk S u) (hc : chkE S.Z S.mr S.rg S.tol S.tg S.ks S.ld = 0) (e8 : u = n8), TC R Try.prog press_New_f [.agg [.int .i64 S.Z, .int .i64 S.mr, .int .i64 S.rg, .int .i64 S.tol, .lst Ei S.tg, .lst ELiJ S.ks, .lst ELiJ S.ld]] [] (fun v X => v = .tup [.ptr 0 0, .int .i64 0] ∧ X = prR S u (newP S))
theorem new_c_A {n8 : Nat} (h8 : new_c_P n8 := by
    intro S u so hc e8
    have hu := so.un
    have oZ := so.Z
    have tl := so.tl
    have kl := so.kl
    have ll := so.ll
    have pc := pcheck_c S.Z S.mr S.rg S.tol S.tg S.ks S.ld (by dsimp only [Due]; omega) (by dsimp only [Due]; omega) (by dsimp only [Due]; omega) (fun i hi => by have := (so.k i (by omega)).1; omega) (fun i hi => by have := (so.l i (by omega)).1; omega)
    rw [hc] at pc
    have ck := copied_c (fun i => S.ks.getD i []) u S.Z hu (by dsimp only [Due]; omega) (fun i hi => (so.k i hi).1)
    have cl := copiedL_c (fun i => S.ld.getD i []) u S.Z hu (by dsimp only [Due]; omega) (fun i hi => (so.l i hi).1)
    rw [glL_all kl] at ck
    rw [glL_all ll] at cl
    have c1 : S.tg.length * 8 ≤ 140737488355328 ∧ S.tg.length ≤ 140737488355328 := by omega
    refine tc env press_New_s (by rfl) ?_
    dsimp only [press_New_c]
    obtain ⟨w, hw⟩ : ∃ w, w = u := ⟨_, rfl⟩
    obtain ⟨hp, ehp⟩ : ∃ hp : Nat → List (Option (TRow A)), hp = newR S u := ⟨_, rfl⟩
    obtain ⟨hF, ehF⟩ : ∃ hF : Nat → List (Nat × TV A), hF = fun k : Nat => [(34, .int .i64 (k : Int)), (33, .int .i64 (u : Int)), (32, .sl 1 2 0 u)] := ⟨_, rfl⟩
    subst e8
    simp only [cpR, cpC, cpA, Nat.reduceLT, Nat.reduceAdd, reduceIte] at ck
    repeat' (first
      | ((with_reducible refine TOps.any ?_); refine TOps.callV env (by rfl) (by rfl) (by rfl) (pc) ?_)
      | ((with_reducible refine TOps.any ?_); refine TOps.callV env (by rfl) (by rfl) (by rfl) (cl) ?_)
      | ((with_reducible refine TOps.any ?_); refine callHK env 0 (ck) (by simp only [List.length_cons, List.length_nil, Nat.reduceAdd, List.range']; rfl) (by rfl) (by rfl) (by rfl) (by rfl) (by rfl) (by rfl) (by repeat' (first | exact trivial | refine ⟨rfl, ?_⟩)) ?_)
      | exact c1
      | refine GZp_i_6i_LiJ ?_ ?_ ?_ ?_ ?_ ?_ ?_ ?_
      | with_reducible first | exact BzZq.mk | refine Tw.ret ?_ | refine ImZq.i fun h => ?_ | refine IkZq.i fun hk => ?_)
    refine Tw.frz env 2 (by rfl) (by rfl) (by rfl) ?_ ?_ ?_
    · repeat' (first
        | refine GZ_i_6i_LiJ ?_ ?_ ?_ ?_ ?_ ?_ ?_ ?_
        | with_reducible first | exact BzZq.mk | refine Tw.ret ?_ | refine ImZq.i fun h => ?_ | refine IkZq.i fun hk => ?_)
    · repeat' (first
        | refine GZ_i_6i_LiJ ?_ ?_ ?_ ?_ ?_ ?_ ?_ ?_
        | with_reducible first | exact BzZq.mk | refine Tw.ret ?_ | refine ImZq.i fun h => ?_ | refine IkZq.i fun hk => ?_)
    rw [cut_all rfl]
    refine Tw.loopK [1, 5] (fun k : Nat => k ≤ w) (fun k => w - k) (fun k => hF k) (fun k => hp k) ⟨0, by omega, ?_⟩ (fun k hk => ?_)
    · rw [ehF]
      refine TWk.hE (by simp only [ehp, newR, kcC, cpA, nwF, nwU, List.cons_append, List.nil_append, Nat.reduceAdd]; rfl) (TWk.fcanonG env (fun n => [some 0, some 1] ++ (List.range' 3 (n - 2)).map some) (by rfl) ?_)
      repeat' (first
        | refine GZ_i_6i_LiJ ?_ ?_ ?_ ?_ ?_ ?_ ?_ ?_
        | with_reducible first | exact BzZq.mk | refine Tw.ret ?_ | refine ImZq.i fun h => ?_ | refine IkZq.i fun hk => ?_)
    rw [ehF]
    rcases Nat.lt_or_ge k w with hk | hk
    · have b := below (i := k) (u := w) ⟨hk, by omega⟩
      obtain ⟨j, ej⟩ : ∃ j, j = k := ⟨_, rfl⟩
      rcases b with ⟨rfl, b⟩ | ⟨rfl, b⟩ | ⟨rfl, b⟩ | ⟨rfl, b⟩ | ⟨rfl, b⟩ | ⟨rfl, b⟩ | ⟨rfl, b⟩ | ⟨rfl, b⟩
      all_goals first | (exfalso; omega) | refine Tw.hE (by simp only [ehp, newR, kcC, cpA, nwF, nwU, List.cons_append, List.nil_append, Nat.reduceAdd]; rfl) ?_
      all_goals
        repeat' (first
          | refine GZp_i_6i_LiJ ?_ ?_ ?_ ?_ ?_ ?_ ?_ ?_
          | with_reducible first | exact BzZq.mk | refine Tw.ret ?_ | refine ImZq.i fun h => ?_ | refine IkZq.i fun hk => ?_)
        refine ⟨j + 1, by omega, by omega, TWk.hE (by simp only [ehp, ej, newR, kcC, cpA, nwF, nwU, List.cons_append, List.nil_append, Nat.reduceAdd]; rfl) ?_⟩
        first | refine TWk.fcanonG env (fun n => (List.range (n - 1)).map some ++ [some n]) (by rfl) ?_ | refine TWk.fcanonG env (fun n => (List.range (n - 2)).map some ++ [some (n - 1), some (n + 1)]) (by rfl) ?_
        repeat' (first
          | exact rfl
          | refine GZ_i_6i_LiJ ?_ ?_ ?_ ?_ ?_ ?_ ?_ ?_
          | with_reducible first | exact BzZq.mk | refine Tw.ret ?_ | refine ImZq.i fun h => ?_ | refine IkZq.i fun hk => ?_)
    · obtain rfl : w = k := by omega
      refine Tw.hE (by simp only [ehp, hw, newR, kcC, cpA, nwF, nwU, List.cons_append, List.nil_append, Nat.reduceAdd]; rfl) ?_
      repeat' (first
        | ((with_reducible refine Tw.retI ?_); refine Tw.gcN env 6 [1, 5, 3, 4] [2, 3] (by rfl) (by rfl) (by rfl) ?_ (Tw.ret ?_))
        | ((with_reducible refine Tw.retI ?_); refine Tw.gcN env 8 [1, 7, 3, 5, 4, 6] [2, 3] (by rfl) (by rfl) (by rfl) ?_ (Tw.ret ?_))
        | ((with_reducible refine Tw.retI ?_); refine Tw.gcN env 10 [1, 9, 3, 6, 4, 7, 5, 8] [2, 3] (by rfl) (by rfl) (by rfl) ?_ (Tw.ret ?_))
        | ((with_reducible refine Tw.retI ?_); refine Tw.gcN env 12 [1, 11, 3, 7, 4, 8, 5, 9, 6, 10] [2, 3] (by rfl) (by rfl) (by rfl) ?_ (Tw.ret ?_))
        | ((with_reducible refine Tw.retI ?_); refine Tw.gcN env 14 [1, 13, 3, 8, 4, 9, 5, 10, 6, 11, 7, 12] [2, 3] (by rfl) (by rfl) (by rfl) ?_ (Tw.ret ?_))
        | ((with_reducible refine Tw.retI ?_); refine Tw.gcN env 16 [1, 15, 3, 9, 4, 10, 5, 11, 6, 12, 7, 13, 8, 14] [2, 3] (by rfl) (by rfl) (by rfl) ?_ (Tw.ret ?_))
        | ((with_reducible refine Tw.retI ?_); refine Tw.gcN env 18 [1, 17, 3, 10, 4, 11, 5, 12, 6, 13, 7, 14, 8, 15, 9, 16] [2, 3] (by rfl) (by rfl) (by rfl) ?_ (Tw.ret ?_))
        | ((with_reducible refine Tw.retI ?_); refine Tw.gcN env 20 [1, 19, 3, 11, 4, 12, 5, 13, 6, 14, 7, 15, 8, 16, 9, 17, 10, 18] [2, 3] (by rfl) (by rfl) (by rfl) ?_ (Tw.ret ?_))
        | refine GZy_i_6i_LiJ hw ?_ ?_ ?_ ?_ ?_ ?_ ?_ ?_
        | with_reducible first | exact BzZq.mk | refine Tw.ret ?_ | refine ImZq.i fun h => ?_ | refine IkZq.i fun hk => ?_)
      exact ⟨rfl, rfl⟩) : new_c_P n8 := h8
theorem new_c_1 : new_c_P 1 := new_c_A
theorem new_c_2 : new_c_P 2 := new_c_A
theorem new_c_3 : new_c_P 3 := new_c_A
theorem new_c_4 : new_c_P 4 := new_c_A
theorem new_c_5 : new_c_P 5 := new_c_A
theorem new_c_6 : new_c_P 6 := new_c_A
theorem new_c_7 : new_c_P 7 := new_c_A
theorem new_c_8 : new_c_P 8 := new_c_A
theorem new_c (S : Su) (u : Nat) (so : SuOk S u) (hc : chkE S.Z S.mr S.rg S.tol S.tg S.ks S.ld = 0) : TC R Try.prog press_New_f [.agg [.int .i64 S.Z, .int .i64 S.mr, .int .i64 S.rg, .int .i64 S.tol, .lst Ei S.tg, .lst ELiJ S.ks, .lst ELiJ S.ld]] [] (fun v X => v = .tup [.ptr 0 0, .int .i64 0] ∧ X = prR S u (newP S)) := by
  rcases eight (u := u) (so.un) with e8 | e8 | e8 | e8 | e8 | e8 | e8 | e8
  · exact new_c_1 S u so hc e8
  · exact new_c_2 S u so hc e8
  · exact new_c_3 S u so hc e8
  · exact new_c_4 S u so hc e8
  · exact new_c_5 S u so hc e8
  · exact new_c_6 S u so hc e8
  · exact new_c_7 S u so hc e8
  · exact new_c_8 S u so hc e8
end Go.Proofs.Ytbaepacihkgalaa
