/- Presses: what a check says of a setup; a press that is not made. -/
import Derived.Test.YtbaepacihkgalaaPrsC
import Derived.Test.YtbaepacihkgalaaGo
import Derived.Test.YtbaepacihkgalaaPrs4
import Derived.Test.YtbaepacihkgalaaPrsO
namespace Go.Proofs.Ytbaepacihkgalaa
open Go Go.Lite
set_option linter.unusedVariables false
set_option linter.unusedSimpArgs false
set_option maxRecDepth 100000
set_option maxHeartbeats 100000000
-- @simp rdi rd6i rdLiJ

def cpL (f : Nat → List Int) (k : Nat) : Nat → Nat → List (TV A)
  | 0, _ => []
  | n + 1, i => (if i < k then .lst Ei (f i) else .nils) :: cpL f k n (i + 1)
def copiedL_c_P (n8 : Nat) : Prop := ∀ (f : Nat → List Int) (u Z : Nat) (hu : 1 ≤ u ∧ u ≤ 3) (hZ : Due (1 ≤ Z ∧ Z ≤ 16)) (hr : ∀ i, i < u → (f i).length = Z) (e8 : u = n8), TC R Try.prog press_copied_f [.lst ELiJ (glL f u 0)] [] (fun v X => v = .lst ELiJ (glL f u 0) ∧ X = [])
theorem copiedL_c_A {n8 : Nat} (h8 : copiedL_c_P n8 := by
    intro f u Z hu hZ hr e8
    dsimp only [Due] at hZ
    refine tc0 env press_copied_s (by rfl) ?_
    dsimp only [press_copied_c]
    obtain ⟨hp, ehp⟩ : ∃ hp : Nat → List (Option (TRow A)), hp = fun k => [some (.cells (cpL f k u 0))] := ⟨_, rfl⟩
    obtain ⟨hd, ehd⟩ : ∃ hd : List (Option (TRow A)), hd = [some (.arr ELiJ (glL f u 0))] := ⟨_, rfl⟩
    obtain ⟨hF, ehF⟩ : ∃ hF : List (Nat × TV A), hF = [(10, .int .i64 (u : Int)), (9, .int .i64 (u : Int)), (0, .lst ELiJ (glL f u 0)), (3, .sla 1 0 0 u)] := ⟨_, rfl⟩
    obtain ⟨w, hw⟩ : ∃ w, w = u := ⟨_, rfl⟩
    rw [← hw] at hr
    subst e8
    simp only [glL, Nat.reduceAdd]
    repeat' (first
      | refine GZp_i_6i_LiJ ?_ ?_ ?_ ?_ ?_ ?_ ?_ ?_
      | with_reducible first | exact BzZq.mk | refine Tw.ret ?_ | refine ImZq.i fun h => ?_ | refine IkZq.i fun hk => ?_)
    refine Tw.loopK [0, 3] (fun k : Nat => k ≤ w) (fun k => w - k) (fun k => [(10, .int .i64 k), (9, .int .i64 w)]) (fun k => hp k) ⟨0, by omega, ?_⟩ (fun k hk => ?_)
    · refine TWk.hE (by simp only [ehp, cpL, Nat.not_lt_zero, reduceIte]; rfl) (TWk.fcanonR env 0 (by rfl) ?_)
      repeat' (first
        | refine GZx_i_6i_LiJ hw ?_ ?_ ?_ ?_ ?_ ?_ ?_ ?_
        | with_reducible first | exact BzZq.mk | refine Tw.ret ?_ | refine ImZq.i fun h => ?_ | refine IkZq.i fun hk => ?_)
    rcases Nat.lt_or_ge k w with hk | hk
    · have b := below (i := k) (u := w) ⟨hk, by omega⟩
      have hrk := hr k hk
      have c1 : f k = cut (f k) 0 (f k).length := (cut_all rfl).symm
      have le1 : 0 + (f k).length ≤ (f k).length := by omega
      have le2 : (f k).length * 8 ≤ 140737488355328 ∧ (f k).length ≤ 140737488355328 := by omega
      obtain ⟨j, ej⟩ : ∃ j, j = k := ⟨_, rfl⟩
      rcases b with ⟨rfl, b⟩ | ⟨rfl, b⟩ | ⟨rfl, b⟩ | ⟨rfl, b⟩ | ⟨rfl, b⟩ | ⟨rfl, b⟩ | ⟨rfl, b⟩ | ⟨rfl, b⟩
      all_goals first | (exfalso; omega) | refine Tw.hE (by simp only [ehp, cpL, Nat.reduceLT, Nat.reduceAdd, Nat.lt_irrefl, Nat.not_lt_zero, reduceIte]; rfl) ?_
      all_goals
        repeat' (first
          | exact le2
          | refine GZy_i_6i_LiJ hw ?_ ?_ ?_ ?_ ?_ ?_ ?_ ?_
          | with_reducible first | exact BzZq.mk | refine Tw.ret ?_ | refine ImZq.i fun h => ?_ | refine IkZq.i fun hk => ?_)
        refine ⟨j + 1, by omega, by omega, ?_⟩
        refine TWk.frzD env 1 (by rfl) (by rfl) (by rfl) ?_ ?_ ?_
        · repeat' (first
            | exact le1
            | refine GZ_i_6i_LiJ ?_ ?_ ?_ ?_ ?_ ?_ ?_ ?_
            | with_reducible first | exact BzZq.mk | refine Tw.ret ?_ | refine ImZq.i fun h => ?_ | refine IkZq.i fun hk => ?_)
        · repeat' (first
            | exact le1
            | refine GZ_i_6i_LiJ ?_ ?_ ?_ ?_ ?_ ?_ ?_ ?_
            | with_reducible first | exact BzZq.mk | refine Tw.ret ?_ | refine ImZq.i fun h => ?_ | refine IkZq.i fun hk => ?_)
        refine TWk.hE (by simp only [ehp, ej, cpL, Nat.reduceLT, Nat.reduceAdd, Nat.lt_irrefl, Nat.not_lt_zero, reduceIte]; rfl) (TWk.fcanonR env 0 (by rfl) ?_)
        repeat' (first
          | exact c1
          | refine GZ_i_6i_LiJ ?_ ?_ ?_ ?_ ?_ ?_ ?_ ?_
          | with_reducible first | exact BzZq.mk | refine Tw.ret ?_ | refine ImZq.i fun h => ?_ | refine IkZq.i fun hk => ?_)
    · obtain rfl : w = k := by omega
      refine Tw.hE (by simp only [ehp, hw, cpL, Nat.reduceLT, Nat.reduceAdd, Nat.lt_irrefl, Nat.not_lt_zero, reduceIte]; rfl) ?_
      refine Tw.reFP (F' := hF) (H' := hd) (by rw [ehF, hw]; rfl) (by rw [ehd]; rfl) ?_
      rw [ehF, ehd]
      simp only [glL, Nat.reduceAdd]
      repeat' (first
        | ((with_reducible refine Tw.retI ?_); refine Tw.frz env 0 (by rfl) (by rfl) (by rfl) ?_ ?_ (Tw.ret ?_))
        | refine GZp_i_6i_LiJ ?_ ?_ ?_ ?_ ?_ ?_ ?_ ?_
        | with_reducible first | exact BzZq.mk | refine Tw.ret ?_ | refine ImZq.i fun h => ?_ | refine IkZq.i fun hk => ?_)
      exact ⟨rfl, rfl, trivial⟩) : copiedL_c_P n8 := h8
theorem copiedL_c_1 : copiedL_c_P 1 := copiedL_c_A
theorem copiedL_c_2 : copiedL_c_P 2 := copiedL_c_A
theorem copiedL_c_3 : copiedL_c_P 3 := copiedL_c_A
theorem copiedL_c (f : Nat → List Int) (u Z : Nat) (hu : 1 ≤ u ∧ u ≤ 3) (hZ : Due (1 ≤ Z ∧ Z ≤ 16)) (hr : ∀ i, i < u → (f i).length = Z) : TC R Try.prog press_copied_f [.lst ELiJ (glL f u 0)] [] (fun v X => v = .lst ELiJ (glL f u 0) ∧ X = []) := by
  rcases eight (u := u) (hu) with e8 | e8 | e8
  · exact copiedL_c_1 f u Z hu hZ hr e8
  · exact copiedL_c_2 f u Z hu hZ hr e8
  · exact copiedL_c_3 f u Z hu hZ hr e8
end Go.Proofs.Ytbaepacihkgalaa
namespace Go.Proofs.Ytbaepacihkgalaa
open Go Go.Lite
set_option linter.unusedVariables false
set_option linter.unusedSimpArgs false
set_option maxRecDepth 100000
set_option maxHeartbeats 100000000
-- @simp rdi rd6i rdLiJ

def newU (S : Su) (i : Nat) : Un := { x := 0, y := 0, dx := 0, dy := 0, gn := 8, ks := S.ks.getD i [], fl := List.replicate S.Z 0 }
def newP (S : Su) : Ps := { n := 0, s := 0, j := 0, us := newU S }
def kcC (Z : Nat) : Nat → Nat → List (TV A)
  | 0, _ => []
  | n + 1, i => .sla 1 (3 + i) 0 Z :: kcC Z n (i + 1)
def nwF (Z : Nat) : Nat → List (Option (TRow A))
  | 0 => []
  | n + 1 => some (.arr Ei (List.replicate Z (0 : Int))) :: nwF Z n
def nwU (Z u : Nat) : Nat → Nat → List (TV A)
  | 0, _ => []
  | n + 1, i => [.int .i64 (0 : Int), .int .i64 (0 : Int), .int .i64 (0 : Int), .int .i64 (0 : Int), .int .i64 (8 : Int), .sla 1 (3 + i) 0 Z, .sla 1 (3 + u + i) 0 Z] ++ nwU Z u n (i + 1)
/-- The rows while a press is made. -/
def newR (S : Su) (u : Nat) : Nat → List (Option (TRow A))
  | 0 => [some (.cells [.int .i64 S.Z, .int .i64 S.mr, .int .i64 S.rg, .int .i64 S.tol, .lst Ei S.tg, .lst ELiJ S.ks, .lst ELiJ S.ld]), some (.cells [.int .i64 (0 : Int), .int .i64 (0 : Int), .int .i64 (0 : Int), .int .i64 S.Z, .int .i64 S.mr, .int .i64 S.rg, .int .i64 S.tol, .lst Ei S.tg, .lst ELiJ S.ks, .lst ELiJ S.ld, .nils]), some (.cells (kcC S.Z u 0))] ++ cpA (fun i => S.ks.getD i []) u 0
  | k + 1 => [some (.cells [.int .i64 S.Z, .int .i64 S.mr, .int .i64 S.rg, .int .i64 S.tol, .lst Ei S.tg, .lst ELiJ S.ks, .lst ELiJ S.ld]), some (.cells [.int .i64 (0 : Int), .int .i64 (0 : Int), .int .i64 (0 : Int), .int .i64 S.Z, .int .i64 S.mr, .int .i64 S.rg, .int .i64 S.tol, .lst Ei S.tg, .lst ELiJ S.ks, .lst ELiJ S.ld, .sl 7 (3 + u + (k + 1)) 0 (k + 1)]), some (.cells (kcC S.Z u 0))] ++ cpA (fun i => S.ks.getD i []) u 0 ++ nwF S.Z (k + 1) ++ [some (.cells (nwU S.Z u (k + 1) 0))]
def new_c_P (n8 : Nat) : Prop := ∀ (S : Su) (u : Nat) (so : SuOk S u) (hc : chkE S.Z S.mr S.rg S.tol S.tg S.ks S.ld = 0) (e8 : u = n8), TC R Try.prog press_New_f [.agg [.int .i64 S.Z, .int .i64 S.mr, .int .i64 S.rg, .int .i64 S.tol, .lst Ei S.tg, .lst ELiJ S.ks, .lst ELiJ S.ld]] [] (fun v X => v = .tup [.ptr 0 0, .int .i64 0] ∧ X = prR S u (newP S))
theorem new_c_A {n8 : Nat} (h8 : new_c_P n8 := by
    intro S u so hc e8
    have hu := so.un
    have oZ := so.Z
    have tl := so.tl
    have kl := so.kl
    have ll := so.ll
    have pc := pcheck_c S.Z S.mr S.rg S.tol S.tg S.ks S.ld (by dsimp only [Due]; omega) (by dsimp only [Due]; omega) (by dsimp only [Due]; omega) (fun i hi => by have := (so.k i (by omega)).1; omega) (fun i hi => by have := (so.l i (by omega)).1; omega)
    rw [hc] at pc
    have ck := copied_c (fun i => S.ks.getD i []) u S.Z hu (by dsimp only [Due]; omega) (fun i hi => (so.k i hi).1)
    have cl := copiedL_c (fun i => S.ld.getD i []) u S.Z hu (by dsimp only [Due]; omega) (fun i hi => (so.l i hi).1)
    rw [glL_all kl] at ck
    rw [glL_all ll] at cl
    have c1 : S.tg.length * 8 ≤ 140737488355328 ∧ S.tg.length ≤ 140737488355328 := by omega
    refine tc env press_New_s (by rfl) ?_
    dsimp only [press_New_c]
    obtain ⟨w, hw⟩ : ∃ w, w = u := ⟨_, rfl⟩
    obtain ⟨hp, ehp⟩ : ∃ hp : Nat → List (Option (TRow A)), hp = newR S u := ⟨_, rfl⟩
    obtain ⟨hF, ehF⟩ : ∃ hF : Nat → List (Nat × TV A), hF = fun k : Nat => [(34, .int .i64 (k : Int)), (33, .int .i64 (u : Int)), (32, .sl 1 2 0 u)] := ⟨_, rfl⟩
    subst e8
    simp only [cpR, cpC, cpA, Nat.reduceLT, Nat.reduceAdd, reduceIte] at ck
    repeat' (first
      | ((with_reducible refine TOps.any ?_); refine TOps.callV env (by rfl) (by rfl) (by rfl) (pc) ?_)
      | ((with_reducible refine TOps.any ?_); refine TOps.callV env (by rfl) (by rfl) (by rfl) (cl) ?_)
      | ((with_reducible refine TOps.any ?_); refine callHK env 0 (ck) (by simp only [List.length_cons, List.length_nil, Nat.reduceAdd, List.range']; rfl) (by rfl) (by rfl) (by rfl) (by rfl) (by rfl) (by rfl) (by repeat' (first | exact trivial | refine ⟨rfl, ?_⟩)) ?_)
      | exact c1
      | refine GZp_i_6i_LiJ ?_ ?_ ?_ ?_ ?_ ?_ ?_ ?_
      | with_reducible first | exact BzZq.mk | refine Tw.ret ?_ | refine ImZq.i fun h => ?_ | refine IkZq.i fun hk => ?_)
    refine Tw.frz env 2 (by rfl) (by rfl) (by rfl) ?_ ?_ ?_
    · repeat' (first
        | refine GZ_i_6i_LiJ ?_ ?_ ?_ ?_ ?_ ?_ ?_ ?_
        | with_reducible first | exact BzZq.mk | refine Tw.ret ?_ | refine ImZq.i fun h => ?_ | refine IkZq.i fun hk => ?_)
    · repeat' (first
        | refine GZ_i_6i_LiJ ?_ ?_ ?_ ?_ ?_ ?_ ?_ ?_
        | with_reducible first | exact BzZq.mk | refine Tw.ret ?_ | refine ImZq.i fun h => ?_ | refine IkZq.i fun hk => ?_)
    rw [cut_all rfl]
    refine Tw.loopK [1, 5] (fun k : Nat => k ≤ w) (fun k => w - k) (fun k => hF k) (fun k => hp k) ⟨0, by omega, ?_⟩ (fun k hk => ?_)
    · rw [ehF]
      refine TWk.hE (by simp only [ehp, newR, kcC, cpA, nwF, nwU, List.cons_append, List.nil_append, Nat.reduceAdd]; rfl) (TWk.fcanonG env (fun n => [some 0, some 1] ++ (List.range' 3 (n - 2)).map some) (by rfl) ?_)
      repeat' (first
        | refine GZ_i_6i_LiJ ?_ ?_ ?_ ?_ ?_ ?_ ?_ ?_
        | with_reducible first | exact BzZq.mk | refine Tw.ret ?_ | refine ImZq.i fun h => ?_ | refine IkZq.i fun hk => ?_)
    rw [ehF]
    rcases Nat.lt_or_ge k w with hk | hk
    · have b := below (i := k) (u := w) ⟨hk, by omega⟩
      obtain ⟨j, ej⟩ : ∃ j, j = k := ⟨_, rfl⟩
      rcases b with ⟨rfl, b⟩ | ⟨rfl, b⟩ | ⟨rfl, b⟩ | ⟨rfl, b⟩ | ⟨rfl, b⟩ | ⟨rfl, b⟩ | ⟨rfl, b⟩ | ⟨rfl, b⟩
      all_goals first | (exfalso; omega) | refine Tw.hE (by simp only [ehp, newR, kcC, cpA, nwF, nwU, List.cons_append, List.nil_append, Nat.reduceAdd]; rfl) ?_
      all_goals
        repeat' (first
          | refine GZp_i_6i_LiJ ?_ ?_ ?_ ?_ ?_ ?_ ?_ ?_
          | with_reducible first | exact BzZq.mk | refine Tw.ret ?_ | refine ImZq.i fun h => ?_ | refine IkZq.i fun hk => ?_)
        refine ⟨j + 1, by omega, by omega, TWk.hE (by simp only [ehp, ej, newR, kcC, cpA, nwF, nwU, List.cons_append, List.nil_append, Nat.reduceAdd]; rfl) ?_⟩
        first | refine TWk.fcanonG env (fun n => (List.range (n - 1)).map some ++ [some n]) (by rfl) ?_ | refine TWk.fcanonG env (fun n => (List.range (n - 2)).map some ++ [some (n - 1), some (n + 1)]) (by rfl) ?_
        repeat' (first
          | exact rfl
          | refine GZ_i_6i_LiJ ?_ ?_ ?_ ?_ ?_ ?_ ?_ ?_
          | with_reducible first | exact BzZq.mk | refine Tw.ret ?_ | refine ImZq.i fun h => ?_ | refine IkZq.i fun hk => ?_)
    · obtain rfl : w = k := by omega
      refine Tw.hE (by simp only [ehp, hw, newR, kcC, cpA, nwF, nwU, List.cons_append, List.nil_append, Nat.reduceAdd]; rfl) ?_
      repeat' (first
        | ((with_reducible refine Tw.retI ?_); refine Tw.gcN env 6 [1, 5, 3, 4] [2, 3] (by rfl) (by rfl) (by rfl) ?_ (Tw.ret ?_))
        | ((with_reducible refine Tw.retI ?_); refine Tw.gcN env 8 [1, 7, 3, 5, 4, 6] [2, 3] (by rfl) (by rfl) (by rfl) ?_ (Tw.ret ?_))
        | ((with_reducible refine Tw.retI ?_); refine Tw.gcN env 10 [1, 9, 3, 6, 4, 7, 5, 8] [2, 3] (by rfl) (by rfl) (by rfl) ?_ (Tw.ret ?_))
        | ((with_reducible refine Tw.retI ?_); refine Tw.gcN env 12 [1, 11, 3, 7, 4, 8, 5, 9, 6, 10] [2, 3] (by rfl) (by rfl) (by rfl) ?_ (Tw.ret ?_))
        | ((with_reducible refine Tw.retI ?_); refine Tw.gcN env 14 [1, 13, 3, 8, 4, 9, 5, 10, 6, 11, 7, 12] [2, 3] (by rfl) (by rfl) (by rfl) ?_ (Tw.ret ?_))
        | ((with_reducible refine Tw.retI ?_); refine Tw.gcN env 16 [1, 15, 3, 9, 4, 10, 5, 11, 6, 12, 7, 13, 8, 14] [2, 3] (by rfl) (by rfl) (by rfl) ?_ (Tw.ret ?_))
        | ((with_reducible refine Tw.retI ?_); refine Tw.gcN env 18 [1, 17, 3, 10, 4, 11, 5, 12, 6, 13, 7, 14, 8, 15, 9, 16] [2, 3] (by rfl) (by rfl) (by rfl) ?_ (Tw.ret ?_))
        | ((with_reducible refine Tw.retI ?_); refine Tw.gcN env 20 [1, 19, 3, 11, 4, 12, 5, 13, 6, 14, 7, 15, 8, 16, 9, 17, 10, 18] [2, 3] (by rfl) (by rfl) (by rfl) ?_ (Tw.ret ?_))
        | refine GZy_i_6i_LiJ hw ?_ ?_ ?_ ?_ ?_ ?_ ?_ ?_
        | with_reducible first | exact BzZq.mk | refine Tw.ret ?_ | refine ImZq.i fun h => ?_ | refine IkZq.i fun hk => ?_)
      exact ⟨rfl, rfl⟩) : new_c_P n8 := h8
theorem new_c_1 : new_c_P 1 := new_c_A
theorem new_c_2 : new_c_P 2 := new_c_A
theorem new_c_3 : new_c_P 3 := new_c_A
theorem new_c (S : Su) (u : Nat) (so : SuOk S u) (hc : chkE S.Z S.mr S.rg S.tol S.tg S.ks S.ld = 0) : TC R Try.prog press_New_f [.agg [.int .i64 S.Z, .int .i64 S.mr, .int .i64 S.rg, .int .i64 S.tol, .lst Ei S.tg, .lst ELiJ S.ks, .lst ELiJ S.ld]] [] (fun v X => v = .tup [.ptr 0 0, .int .i64 0] ∧ X = prR S u (newP S)) := by
  rcases eight (u := u) (so.un) with e8 | e8 | e8
  · exact new_c_1 S u so hc e8
  · exact new_c_2 S u so hc e8
  · exact new_c_3 S u so hc e8
end Go.Proofs.Ytbaepacihkgalaa
namespace Go.Proofs.Ytbaepacihkgalaa
open Go Go.Lite
set_option linter.unusedVariables false
set_option linter.unusedSimpArgs false
set_option maxRecDepth 100000
set_option maxHeartbeats 4000000
-- @simp rdi rd6i rdLiJ

theorem pev_c (S : Su) (u : Nat) (p : Ps) (so : SuOk S u) (ok : PsOk S u p) (s k un zn x y : Int) :
    TC R Try.prog __press_Press__Event_f [.ptr 0 0, .agg [.int .i64 s, .int .i64 k, .int .i64 un, .int .i64 zn, .int .i64 x, .int .i64 y]] (prR S u p) (fun v X => v = .int .i64 (evS (s, k, un, zn, x, y) p.n u S.Z) ∧ X = prR S u (if evS (s, k, un, zn, x, y) p.n u S.Z = 0 then evP S.Z p (s, k, un, zn, x, y) else p)) := by
  have hn : Due (0 ≤ p.n ∧ p.n ≤ 4000) := ok.n
  by_cases hb : evS (s, k, un, zn, x, y) p.n u S.Z = 0
  rotate_left
  · rw [if_neg hb]
    exact evBad_c S u p s k un zn x y so.un hn hb
  rw [if_pos hb, hb]
  obtain ⟨⟨_, _, hk0, hk6⟩, hf, hi⟩ := evE_ok (evS_ok hb).2
  unfold frmK at hf
  unfold inK at hi
  obtain ⟨f1, f2, f3, f4⟩ := hf
  have hu := so.un
  have hk : k = 0 ∨ k = 1 ∨ k = 2 ∨ k = 3 ∨ k = 4 ∨ k = 5 ∨ k = 6 := by omega
  by_cases h3 : k = 3
  · subst h3
    obtain rfl := f1 (Or.inl rfl)
    obtain rfl := f2 (by omega)
    obtain rfl := f4 (by omega)
    exact ev3_c S u p s x so.un hn hb
  by_cases h6 : k = 6
  · subst h6
    obtain rfl := f1 (Or.inr rfl)
    obtain rfl := f2 (by omega)
    obtain rfl := f3 (by omega)
    obtain rfl := f4 (by omega)
    exact ev6_c S u p s so.un hn hb (show S.Z ≤ 16 from so.Z.2) (fun i hi => ⟨(ok.un i hi).fl, (ok.un i hi).f⟩)
  have iu := hi.1 ⟨h3, h6⟩
  obtain ⟨i, rfl⟩ : ∃ i : Nat, un = i := ⟨un.toNat, by omega⟩
  have hiu : i < u ∧ u ≤ 3 := by omega
  have oi := ok.un i hiu.1
  by_cases h4 : k = 4
  · subst h4
    obtain rfl := f2 (by omega)
    exact ev4_c S u i p s x y hiu hn hb oi
  by_cases h5 : k = 5
  · subst h5
    obtain rfl := f2 (by omega)
    obtain rfl := f3 (by omega)
    obtain rfl := f4 (by omega)
    exact ev5_c S u i p s hiu hn hb oi.fl
  exact ev0_c S u i p s k zn x y hiu (by omega) hn hb oi.kl

theorem evP_ok {S : Su} {u : Nat} {p : Ps} (so : SuOk S u) (ok : PsOk S u p) {s k un zn x y : Int} (hb : evS (s, k, un, zn, x, y) p.n u S.Z = 0) : PsOk S u (evP S.Z p (s, k, un, zn, x, y)) := by
  obtain ⟨⟨_, _, hk0, hk6⟩, hf, hi⟩ := evE_ok (evS_ok hb).2
  unfold inK at hi
  obtain ⟨i1, i2, i3, i4, i5⟩ := hi
  have on := ok.n
  have os := ok.s
  have oj := ok.j
  unfold evP
  dsimp only
  by_cases h3 : k = 3
  · subst h3
    rw [if_pos rfl]
    simp [lowK, topK] at i3 i4
    exact ⟨on, os, by dsimp only; omega, ok.un⟩
  rw [if_neg h3]
  by_cases h6 : k = 6
  · rw [if_pos h6]
    refine ⟨on, os, oj, fun i hi => ?_⟩
    have o := ok.un i hi
    refine ⟨o.x, o.y, o.dx, o.dy, o.gn, o.kl, by simp only [halfU, List.length_map]; exact o.fl, o.k, fun z hz => ?_⟩
    have e : (halfU (p.us i)).fl.getD z 0 = quo ((p.us i).fl.getD z 0) 2 := by
      have hl : z < (p.us i).fl.length := by rw [o.fl]; exact hz
      simp only [halfU, List.getD_eq_getElem?_getD, List.getElem?_map, List.getElem?_eq_getElem hl, Option.map_some, Option.getD_some]
    rw [e]
    have f := o.f z hz
    have := (quo_bd (a := (p.us i).fl.getD z 0) (b := 2) (by omega)).1 f.1
    omega
  rw [if_neg h6]
  have iu := i1 ⟨h3, h6⟩
  refine ⟨on, by dsimp only; split <;> omega, oj, fun i hi => ?_⟩
  dsimp only [upU]
  split
  · rename_i e
    subst e
    have o := ok.un un.toNat hi
    unfold evU
    by_cases h0 : k = 0
    · rw [if_pos h0]
      subst h0
      have i5 := i5 (Or.inl rfl)
      simp [lowK, topK] at i3 i4 i5
      exact ⟨o.x, o.y, ⟨i3, i4⟩, i5, o.gn, o.kl, o.fl, o.k, o.f⟩
    rw [if_neg h0]
    by_cases h1 : k = 1
    · rw [if_pos h1]
      subst h1
      have i2 := i2 rfl
      simp [lowK, topK] at i3 i4
      refine ⟨o.x, o.y, o.dx, o.dy, o.gn, by simp only [List.length_set]; exact o.kl, o.fl, fun z hz => ?_, o.f⟩
      dsimp only
      by_cases e : zn.toNat = z
      · subst e
        rw [getD_set_eq (by rw [o.kl]; omega)]
        omega
      · rw [getD_set_ne e]
        exact o.k z hz
    rw [if_neg h1]
    by_cases h2 : k = 2
    · rw [if_pos h2]
      subst h2
      simp [lowK, topK] at i3 i4
      exact ⟨o.x, o.y, o.dx, o.dy, ⟨i3, i4⟩, o.kl, o.fl, o.k, o.f⟩
    rw [if_neg h2]
    by_cases h4 : k = 4
    · rw [if_pos h4]
      exact mv_ok o
    rw [if_neg h4]
    have ef : (p.us un.toNat).fl.take 0 ++ List.replicate S.Z (0 : Int) ++ (p.us un.toNat).fl.drop (0 + S.Z) = List.replicate S.Z 0 := by
      rw [List.take_zero, List.nil_append, List.drop_of_length_le (by rw [o.fl]; omega), List.append_nil]
    refine ⟨o.x, o.y, o.dx, o.dy, o.gn, o.kl, by dsimp only; rw [ef]; exact List.length_replicate, o.k, fun z hz => ?_⟩
    dsimp only
    rw [ef, getD_repl hz]
    omega
  · exact ok.un i hi
theorem fedP_ok {S : Su} {u : Nat} {p : Ps} (so : SuOk S u) (ok : PsOk S u p) (hn : p.n < 4000) : PsOk S u (fedP S u p) := by
  have on := ok.n
  have os := ok.s
  have oj := ok.j
  refine ⟨by dsimp only [fedP]; omega, by dsimp only [fedP]; omega, by dsimp only [fedP]; split <;> omega, fun i hi => ?_⟩
  show UOk S.Z (fe0 S p.us u i)
  unfold fe0
  rw [if_pos hi]
  exact nk_ok (mv_ok (ok.un i hi)) (so.l i hi).2 S.Z (Nat.le_refl _)
theorem newP_ok {S : Su} {u : Nat} (so : SuOk S u) : PsOk S u (newP S) := by
  refine ⟨by dsimp only [newP]; omega, by dsimp only [newP]; omega, by dsimp only [newP]; omega, fun i hi => ?_⟩
  have k := so.k i hi
  refine ⟨by simp only [newP, newU]; omega, by simp only [newP, newU]; omega, by simp only [newP, newU]; omega, by simp only [newP, newU]; omega, by simp only [newP, newU]; omega, k.1, List.length_replicate, k.2, fun z hz => ?_⟩
  have : (List.replicate S.Z (0 : Int)).getD z 0 = 0 := getD_repl hz
  simp only [newP, newU]
  omega
end Go.Proofs.Ytbaepacihkgalaa
namespace Go.Proofs.Ytbaepacihkgalaa
open Go Go.Lite
set_option linter.unusedVariables false
set_option linter.unusedSimpArgs false
set_option maxRecDepth 100000
set_option maxHeartbeats 4000000
-- @simp rdi rd6i rdLiJ

end Go.Proofs.Ytbaepacihkgalaa
