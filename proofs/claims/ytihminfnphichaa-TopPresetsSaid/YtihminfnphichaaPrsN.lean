/- Presses: a press is made. -/
import Derived.Test.YtihminfnphichaaPrsO
import Derived.Test.YtihminfnphichaaGo
import Derived.Test.YtihminfnphichaaPrs3
namespace Go.Proofs.Ytihminfnphichaa
open Go Go.Lite
set_option linter.unusedVariables false
set_option linter.unusedSimpArgs false
set_option maxRecDepth 100000
set_option maxHeartbeats 100000000
-- @simp rdi rd6i rdLiJ

def cpC (Z k : Nat) : Nat → Nat → List (TV A)
  | 0, _ => []
  | n + 1, i => (if i < k then .sla 1 (i + 1) 0 Z else .nils) :: cpC Z k n (i + 1)
def cpA (f : Nat → List Int) : Nat → Nat → List (Option (TRow A))
  | 0, _ => []
  | n + 1, i => some (.arr Ei (f i)) :: cpA f n (i + 1)
/-- A table that is copied, when k rows are done. -/
def cpR (Z : Nat) (f : Nat → List Int) (u k : Nat) : List (Option (TRow A)) := some (.cells (cpC Z k u 0)) :: cpA f k 0
def glL (f : Nat → List Int) : Nat → Nat → List (List Int)
  | 0, _ => []
  | n + 1, i => f i :: glL f n (i + 1)
theorem glL_eq {l : List (List Int)} : ∀ {n i : Nat}, l.length = i + n → glL (fun j => l.getD j []) n i = l.drop i
  | 0, i, h => by rw [glL, List.drop_of_length_le (by omega)]
  | n + 1, i, h => by
    rw [glL, glL_eq (by omega), List.drop_eq_getElem_cons (by omega : i < l.length), List.getD_eq_getElem?_getD, List.getElem?_eq_getElem (by omega)]; rfl
theorem glL_all {l : List (List Int)} {n : Nat} (h : l.length = n) : glL (fun j => l.getD j []) n 0 = l := glL_eq (by omega)
def copied_c_P (n8 : Nat) : Prop := ∀ (f : Nat → List Int) (u Z : Nat) (hu : 1 ≤ u ∧ u ≤ 3) (hZ : Due (1 ≤ Z ∧ Z ≤ 16)) (hr : ∀ i, i < u → (f i).length = Z) (e8 : u = n8), TC R Try.prog press_copied_f [.lst ELiJ (glL f u 0)] [] (fun v X => v = .sl 1 0 0 u ∧ X = cpR Z f u u)
theorem copied_c_A {n8 : Nat} (h8 : copied_c_P n8 := by
    intro f u Z hu hZ hr e8
    dsimp only [Due] at hZ
    refine tc env press_copied_s (by rfl) ?_
    dsimp only [press_copied_c]
    obtain ⟨hp, ehp⟩ : ∃ hp : Nat → List (Option (TRow A)), hp = cpR Z f u := ⟨_, rfl⟩
    obtain ⟨w, hw⟩ : ∃ w, w = u := ⟨_, rfl⟩
    rw [← hw] at hr
    subst e8
    simp only [glL, Nat.reduceAdd]
    repeat' (first
      | refine GZp_i_6i_LiJ ?_ ?_ ?_ ?_ ?_ ?_ ?_ ?_
      | with_reducible first | exact BzZq.mk | refine Tw.ret ?_ | refine ImZq.i fun h => ?_ | refine IkZq.i fun hk => ?_)
    refine Tw.loopK [0, 3] (fun k : Nat => k ≤ w) (fun k => w - k) (fun k => [(10, .int .i64 k), (9, .int .i64 w)]) (fun k => hp k) ⟨0, by omega, ?_⟩ (fun k hk => ?_)
    · refine TWk.hE (by simp only [ehp, cpR, cpC, cpA, Nat.not_lt_zero, reduceIte]; rfl) (TWk.fcanonR env 0 (by rfl) ?_)
      repeat' (first
        | refine GZx_i_6i_LiJ hw ?_ ?_ ?_ ?_ ?_ ?_ ?_ ?_
        | with_reducible first | exact BzZq.mk | refine Tw.ret ?_ | refine ImZq.i fun h => ?_ | refine IkZq.i fun hk => ?_)
    rcases Nat.lt_or_ge k w with hk | hk
    · have b := below (i := k) (u := w) ⟨hk, by omega⟩
      have hrk := hr k hk
      have c1 : cut (f k) 0 (f k).length = f k := cut_all rfl
      have le2 : (f k).length * 8 ≤ 140737488355328 ∧ (f k).length ≤ 140737488355328 := by omega
      obtain ⟨j, ej⟩ : ∃ j, j = k := ⟨_, rfl⟩
      rcases b with ⟨rfl, b⟩ | ⟨rfl, b⟩ | ⟨rfl, b⟩ | ⟨rfl, b⟩ | ⟨rfl, b⟩ | ⟨rfl, b⟩ | ⟨rfl, b⟩ | ⟨rfl, b⟩
      all_goals first | (exfalso; omega) | refine Tw.hE (by simp only [ehp, cpR, cpC, cpA, Nat.reduceLT, Nat.reduceAdd, Nat.lt_irrefl, Nat.not_lt_zero, reduceIte]; rfl) ?_
      all_goals
        repeat' (first
          | exact le2
          | refine GZy_i_6i_LiJ hw ?_ ?_ ?_ ?_ ?_ ?_ ?_ ?_
          | with_reducible first | exact BzZq.mk | refine Tw.ret ?_ | refine ImZq.i fun h => ?_ | refine IkZq.i fun hk => ?_)
        refine ⟨j + 1, by omega, by omega, TWk.hE (by simp only [ehp, ej, cpR, cpC, cpA, Nat.reduceLT, Nat.reduceAdd, Nat.lt_irrefl, Nat.not_lt_zero, reduceIte]; rfl) (TWk.fcanonR env 0 (by rfl) ?_)⟩

        repeat' (first
          | refine GZx_i_6i_LiJ hrk ?_ ?_ ?_ ?_ ?_ ?_ ?_ ?_
          | with_reducible first | exact BzZq.mk | refine Tw.ret ?_ | refine ImZq.i fun h => ?_ | refine IkZq.i fun hk => ?_)
    · obtain rfl : w = k := by omega
      refine Tw.hE (by simp only [ehp, hw, cpR, cpC, cpA, Nat.reduceLT, Nat.reduceAdd, Nat.lt_irrefl, Nat.not_lt_zero, reduceIte]; rfl) ?_
      repeat' (first
        | refine GZy_i_6i_LiJ hw ?_ ?_ ?_ ?_ ?_ ?_ ?_ ?_
        | with_reducible first | exact BzZq.mk | refine Tw.ret ?_ | refine ImZq.i fun h => ?_ | refine IkZq.i fun hk => ?_)
      exact ⟨rfl, rfl⟩) : copied_c_P n8 := h8
theorem copied_c_1 : copied_c_P 1 := copied_c_A
theorem copied_c_2 : copied_c_P 2 := copied_c_A
theorem copied_c_3 : copied_c_P 3 := copied_c_A
theorem copied_c (f : Nat → List Int) (u Z : Nat) (hu : 1 ≤ u ∧ u ≤ 3) (hZ : Due (1 ≤ Z ∧ Z ≤ 16)) (hr : ∀ i, i < u → (f i).length = Z) : TC R Try.prog press_copied_f [.lst ELiJ (glL f u 0)] [] (fun v X => v = .sl 1 0 0 u ∧ X = cpR Z f u u) := by
  rcases eight (u := u) (hu) with e8 | e8 | e8
  · exact copied_c_1 f u Z hu hZ hr e8
  · exact copied_c_2 f u Z hu hZ hr e8
  · exact copied_c_3 f u Z hu hZ hr e8
end Go.Proofs.Ytihminfnphichaa
namespace Go.Proofs.Ytihminfnphichaa
open Go Go.Lite
set_option linter.unusedVariables false
set_option linter.unusedSimpArgs false
set_option maxRecDepth 100000
set_option maxHeartbeats 100000000
-- @simp rdi rd6i rdLiJ

def cpL (f : Nat → List Int) (k : Nat) : Nat → Nat → List (TV A)
  | 0, _ => []
  | n + 1, i => (if i < k then .lst Ei (f i) else .nils) :: cpL f k n (i + 1)
def copiedL_c_P (n8 : Nat) : Prop := ∀ (f : Nat → List Int) (u Z : Nat) (hu : 1 ≤ u ∧ u ≤ 3) (hZ : Due (1 ≤ Z ∧ Z ≤ 16)) (hr : ∀ i, i < u → (f i).length = Z) (e8 : u = n8), TC R Try.prog press_copied_f [.lst ELiJ (glL f u 0)] [] (fun v X => v = .lst ELiJ (glL f u 0) ∧ X = [])
theorem copiedL_c_A {n8 : Nat} (h8 : copiedL_c_P n8 := by
    intro f u Z hu hZ hr e8
    dsimp only [Due] at hZ
    refine tc0 env press_copied_s (by rfl) ?_
    dsimp only [press_copied_c]
    obtain ⟨hp, ehp⟩ : ∃ hp : Nat → List (Option (TRow A)), hp = fun k => [some (.cells (cpL f k u 0))] := ⟨_, rfl⟩
    obtain ⟨hd, ehd⟩ : ∃ hd : List (Option (TRow A)), hd = [some (.arr ELiJ (glL f u 0))] := ⟨_, rfl⟩
    obtain ⟨hF, ehF⟩ : ∃ hF : List (Nat × TV A), hF = [(10, .int .i64 (u : Int)), (9, .int .i64 (u : Int)), (0, .lst ELiJ (glL f u 0)), (3, .sla 1 0 0 u)] := ⟨_, rfl⟩
    obtain ⟨w, hw⟩ : ∃ w, w = u := ⟨_, rfl⟩
    rw [← hw] at hr
    subst e8
    simp only [glL, Nat.reduceAdd]
    repeat' (first
      | refine GZp_i_6i_LiJ ?_ ?_ ?_ ?_ ?_ ?_ ?_ ?_
      | with_reducible first | exact BzZq.mk | refine Tw.ret ?_ | refine ImZq.i fun h => ?_ | refine IkZq.i fun hk => ?_)
    refine Tw.loopK [0, 3] (fun k : Nat => k ≤ w) (fun k => w - k) (fun k => [(10, .int .i64 k), (9, .int .i64 w)]) (fun k => hp k) ⟨0, by omega, ?_⟩ (fun k hk => ?_)
    · refine TWk.hE (by simp only [ehp, cpL, Nat.not_lt_zero, reduceIte]; rfl) (TWk.fcanonR env 0 (by rfl) ?_)
      repeat' (first
        | refine GZx_i_6i_LiJ hw ?_ ?_ ?_ ?_ ?_ ?_ ?_ ?_
        | with_reducible first | exact BzZq.mk | refine Tw.ret ?_ | refine ImZq.i fun h => ?_ | refine IkZq.i fun hk => ?_)
    rcases Nat.lt_or_ge k w with hk | hk
    · have b := below (i := k) (u := w) ⟨hk, by omega⟩
      have hrk := hr k hk
      have c1 : f k = cut (f k) 0 (f k).length := (cut_all rfl).symm
      have le1 : 0 + (f k).length ≤ (f k).length := by omega
      have le2 : (f k).length * 8 ≤ 140737488355328 ∧ (f k).length ≤ 140737488355328 := by omega
      obtain ⟨j, ej⟩ : ∃ j, j = k := ⟨_, rfl⟩
      rcases b with ⟨rfl, b⟩ | ⟨rfl, b⟩ | ⟨rfl, b⟩ | ⟨rfl, b⟩ | ⟨rfl, b⟩ | ⟨rfl, b⟩ | ⟨rfl, b⟩ | ⟨rfl, b⟩
      all_goals first | (exfalso; omega) | refine Tw.hE (by simp only [ehp, cpL, Nat.reduceLT, Nat.reduceAdd, Nat.lt_irrefl, Nat.not_lt_zero, reduceIte]; rfl) ?_
      all_goals
        repeat' (first
          | exact le2
          | refine GZy_i_6i_LiJ hw ?_ ?_ ?_ ?_ ?_ ?_ ?_ ?_
          | with_reducible first | exact BzZq.mk | refine Tw.ret ?_ | refine ImZq.i fun h => ?_ | refine IkZq.i fun hk => ?_)
        refine ⟨j + 1, by omega, by omega, ?_⟩
        refine TWk.frzD env 1 (by rfl) (by rfl) (by rfl) ?_ ?_ ?_
        · repeat' (first
            | exact le1
            | refine GZ_i_6i_LiJ ?_ ?_ ?_ ?_ ?_ ?_ ?_ ?_
            | with_reducible first | exact BzZq.mk | refine Tw.ret ?_ | refine ImZq.i fun h => ?_ | refine IkZq.i fun hk => ?_)
        · repeat' (first
            | exact le1
            | refine GZ_i_6i_LiJ ?_ ?_ ?_ ?_ ?_ ?_ ?_ ?_
            | with_reducible first | exact BzZq.mk | refine Tw.ret ?_ | refine ImZq.i fun h => ?_ | refine IkZq.i fun hk => ?_)
        refine TWk.hE (by simp only [ehp, ej, cpL, Nat.reduceLT, Nat.reduceAdd, Nat.lt_irrefl, Nat.not_lt_zero, reduceIte]; rfl) (TWk.fcanonR env 0 (by rfl) ?_)
        repeat' (first
          | exact c1
          | refine GZ_i_6i_LiJ ?_ ?_ ?_ ?_ ?_ ?_ ?_ ?_
          | with_reducible first | exact BzZq.mk | refine Tw.ret ?_ | refine ImZq.i fun h => ?_ | refine IkZq.i fun hk => ?_)
    · obtain rfl : w = k := by omega
      refine Tw.hE (by simp only [ehp, hw, cpL, Nat.reduceLT, Nat.reduceAdd, Nat.lt_irrefl, Nat.not_lt_zero, reduceIte]; rfl) ?_
      refine Tw.reFP (F' := hF) (H' := hd) (by rw [ehF, hw]; rfl) (by rw [ehd]; rfl) ?_
      rw [ehF, ehd]
      simp only [glL, Nat.reduceAdd]
      repeat' (first
        | ((with_reducible refine Tw.retI ?_); refine Tw.frz env 0 (by rfl) (by rfl) (by rfl) ?_ ?_ (Tw.ret ?_))
        | refine GZp_i_6i_LiJ ?_ ?_ ?_ ?_ ?_ ?_ ?_ ?_
        | with_reducible first | exact BzZq.mk | refine Tw.ret ?_ | refine ImZq.i fun h => ?_ | refine IkZq.i fun hk => ?_)
      exact ⟨rfl, rfl, trivial⟩) : copiedL_c_P n8 := h8
theorem copiedL_c_1 : copiedL_c_P 1 := copiedL_c_A
theorem copiedL_c_2 : copiedL_c_P 2 := copiedL_c_A
theorem copiedL_c_3 : copiedL_c_P 3 := copiedL_c_A
theorem copiedL_c (f : Nat → List Int) (u Z : Nat) (hu : 1 ≤ u ∧ u ≤ 3) (hZ : Due (1 ≤ Z ∧ Z ≤ 16)) (hr : ∀ i, i < u → (f i).length = Z) : TC R Try.prog press_copied_f [.lst ELiJ (glL f u 0)] [] (fun v X => v = .lst ELiJ (glL f u 0) ∧ X = []) := by
  rcases eight (u := u) (hu) with e8 | e8 | e8
  · exact copiedL_c_1 f u Z hu hZ hr e8
  · exact copiedL_c_2 f u Z hu hZ hr e8
  · exact copiedL_c_3 f u Z hu hZ hr e8
end Go.Proofs.Ytihminfnphichaa
namespace Go.Proofs.Ytihminfnphichaa
open Go Go.Lite
set_option linter.unusedVariables false
set_option linter.unusedSimpArgs false
set_option maxRecDepth 100000
set_option maxHeartbeats 100000000
-- @simp rdi rd6i rdLiJ

def newU (S : Su) (i : Nat) : Un := { x := 0, y := 0, dx := 0, dy := 0, gn := 8, ks := S.ks.getD i [], fl := List.replicate S.Z 0 }
def newP (S : Su) : Ps := { n := 0, s := 0, j := 0, us := newU S }
def kcC (Z : Nat) : Nat → Nat → List (TV A)
  | 0, _ => []
  | n + 1, i => .sla 1 (3 + i) 0 Z :: kcC Z n (i + 1)
def nwF (Z : Nat) : Nat → List (Option (TRow A))
  | 0 => []
  | n + 1 => some (.arr Ei (List.replicate Z (0 : Int))) :: nwF Z n
def nwU (Z u : Nat) : Nat → Nat → List (TV A)
  | 0, _ => []
  | n + 1, i => [.int .i64 (0 : Int), .int .i64 (0 : Int), .int .i64 (0 : Int), .int .i64 (0 : Int), .int .i64 (8 : Int), .sla 1 (3 + i) 0 Z, .sla 1 (3 + u + i) 0 Z] ++ nwU Z u n (i + 1)
/-- The rows while a press is made. -/
def newR (S : Su) (u : Nat) : Nat → List (Option (TRow A))
  | 0 => [some (.cells [.int .i64 S.Z, .int .i64 S.mr, .int .i64 S.rg, .int .i64 S.tol, .lst Ei S.tg, .lst ELiJ S.ks, .lst ELiJ S.ld]), some (.cells [.int .i64 (0 : Int), .int .i64 (0 : Int), .int .i64 (0 : Int), .int .i64 S.Z, .int .i64 S.mr, .int .i64 S.rg, .int .i64 S.tol, .lst Ei S.tg, .lst ELiJ S.ks, .lst ELiJ S.ld, .nils]), some (.cells (kcC S.Z u 0))] ++ cpA (fun i => S.ks.getD i []) u 0
  | k + 1 => [some (.cells [.int .i64 S.Z, .int .i64 S.mr, .int .i64 S.rg, .int .i64 S.tol, .lst Ei S.tg, .lst ELiJ S.ks, .lst ELiJ S.ld]), some (.cells [.int .i64 (0 : Int), .int .i64 (0 : Int), .int .i64 (0 : Int), .int .i64 S.Z, .int .i64 S.mr, .int .i64 S.rg, .int .i64 S.tol, .lst Ei S.tg, .lst ELiJ S.ks, .lst ELiJ S.ld, .sl 7 (3 + u + (k + 1)) 0 (k + 1)]), some (.cells (kcC S.Z u 0))] ++ cpA (fun i => S.ks.getD i []) u 0 ++ nwF S.Z (k + 1) ++ [some (.cells (nwU S.Z u (k + 1) 0))]
def new_c_P (n8 : Nat) : Prop := ∀ (S : Su) (u : Nat) (so : SuOk S u) (hc : chkE S.Z S.mr S.rg S.tol S.tg S.ks S.ld = 0) (e8 : u = n8), TC R Try.prog press_New_f [.agg [.int .i64 S.Z, .int .i64 S.mr, .int .i64 S.rg, .int .i64 S.tol, .lst Ei S.tg, .lst ELiJ S.ks, .lst ELiJ S.ld]] [] (fun v X => v = .tup [.ptr 0 0, .int .i64 0] ∧ X = prR S u (newP S))
theorem new_c_A {n8 : Nat} (h8 : new_c_P n8 := by
    intro S u so hc e8
    have hu := so.un
    have oZ := so.Z
    have tl := so.tl
    have kl := so.kl
    have ll := so.ll
    have pc := pcheck_c S.Z S.mr S.rg S.tol S.tg S.ks S.ld (by dsimp only [Due]; omega) (by dsimp only [Due]; omega) (by dsimp only [Due]; omega) (fun i hi => by have := (so.k i (by omega)).1; omega) (fun i hi => by have := (so.l i (by omega)).1; omega)
    rw [hc] at pc
    have ck := copied_c (fun i => S.ks.getD i []) u S.Z hu (by dsimp only [Due]; omega) (fun i hi => (so.k i hi).1)
    have cl := copiedL_c (fun i => S.ld.getD i []) u S.Z hu (by dsimp only [Due]; omega) (fun i hi => (so.l i hi).1)
    rw [glL_all kl] at ck
    rw [glL_all ll] at cl
    have c1 : S.tg.length * 8 ≤ 140737488355328 ∧ S.tg.length ≤ 140737488355328 := by omega
    refine tc env press_New_s (by rfl) ?_
    dsimp only [press_New_c]
    obtain ⟨w, hw⟩ : ∃ w, w = u := ⟨_, rfl⟩
    obtain ⟨hp, ehp⟩ : ∃ hp : Nat → List (Option (TRow A)), hp = newR S u := ⟨_, rfl⟩
    obtain ⟨hF, ehF⟩ : ∃ hF : Nat → List (Nat × TV A), hF = fun k : Nat => [(34, .int .i64 (k : Int)), (33, .int .i64 (u : Int)), (32, .sl 1 2 0 u)] := ⟨_, rfl⟩
    subst e8
    simp only [cpR, cpC, cpA, Nat.reduceLT, Nat.reduceAdd, reduceIte] at ck
    repeat' (first
      | ((with_reducible refine TOps.any ?_); refine TOps.callV env (by rfl) (by rfl) (by rfl) (pc) ?_)
      | ((with_reducible refine TOps.any ?_); refine TOps.callV env (by rfl) (by rfl) (by rfl) (cl) ?_)
      | ((with_reducible refine TOps.any ?_); refine callHK env 0 (ck) (by simp only [List.length_cons, List.length_nil, Nat.reduceAdd, List.range']; rfl) (by rfl) (by rfl) (by rfl) (by rfl) (by rfl) (by rfl) (by repeat' (first | exact trivial | refine ⟨rfl, ?_⟩)) ?_)
      | exact c1
      | refine GZp_i_6i_LiJ ?_ ?_ ?_ ?_ ?_ ?_ ?_ ?_
      | with_reducible first | exact BzZq.mk | refine Tw.ret ?_ | refine ImZq.i fun h => ?_ | refine IkZq.i fun hk => ?_)
    refine Tw.frz env 2 (by rfl) (by rfl) (by rfl) ?_ ?_ ?_
    · repeat' (first
        | refine GZ_i_6i_LiJ ?_ ?_ ?_ ?_ ?_ ?_ ?_ ?_
        | with_reducible first | exact BzZq.mk | refine Tw.ret ?_ | refine ImZq.i fun h => ?_ | refine IkZq.i fun hk => ?_)
    · repeat' (first
        | refine GZ_i_6i_LiJ ?_ ?_ ?_ ?_ ?_ ?_ ?_ ?_
        | with_reducible first | exact BzZq.mk | refine Tw.ret ?_ | refine ImZq.i fun h => ?_ | refine IkZq.i fun hk => ?_)
    rw [cut_all rfl]
    refine Tw.loopK [1, 5] (fun k : Nat => k ≤ w) (fun k => w - k) (fun k => hF k) (fun k => hp k) ⟨0, by omega, ?_⟩ (fun k hk => ?_)
    · rw [ehF]
      refine TWk.hE (by simp only [ehp, newR, kcC, cpA, nwF, nwU, List.cons_append, List.nil_append, Nat.reduceAdd]; rfl) (TWk.fcanonG env (fun n => [some 0, some 1] ++ (List.range' 3 (n - 2)).map some) (by rfl) ?_)
      repeat' (first
        | refine GZ_i_6i_LiJ ?_ ?_ ?_ ?_ ?_ ?_ ?_ ?_
        | with_reducible first | exact BzZq.mk | refine Tw.ret ?_ | refine ImZq.i fun h => ?_ | refine IkZq.i fun hk => ?_)
    rw [ehF]
    rcases Nat.lt_or_ge k w with hk | hk
    · have b := below (i := k) (u := w) ⟨hk, by omega⟩
      obtain ⟨j, ej⟩ : ∃ j, j = k := ⟨_, rfl⟩
      rcases b with ⟨rfl, b⟩ | ⟨rfl, b⟩ | ⟨rfl, b⟩ | ⟨rfl, b⟩ | ⟨rfl, b⟩ | ⟨rfl, b⟩ | ⟨rfl, b⟩ | ⟨rfl, b⟩
      all_goals first | (exfalso; omega) | refine Tw.hE (by simp only [ehp, newR, kcC, cpA, nwF, nwU, List.cons_append, List.nil_append, Nat.reduceAdd]; rfl) ?_
      all_goals
        repeat' (first
          | refine GZp_i_6i_LiJ ?_ ?_ ?_ ?_ ?_ ?_ ?_ ?_
          | with_reducible first | exact BzZq.mk | refine Tw.ret ?_ | refine ImZq.i fun h => ?_ | refine IkZq.i fun hk => ?_)
        refine ⟨j + 1, by omega, by omega, TWk.hE (by simp only [ehp, ej, newR, kcC, cpA, nwF, nwU, List.cons_append, List.nil_append, Nat.reduceAdd]; rfl) ?_⟩
        first | refine TWk.fcanonG env (fun n => (List.range (n - 1)).map some ++ [some n]) (by rfl) ?_ | refine TWk.fcanonG env (fun n => (List.range (n - 2)).map some ++ [some (n - 1), some (n + 1)]) (by rfl) ?_
        repeat' (first
          | exact rfl
          | refine GZ_i_6i_LiJ ?_ ?_ ?_ ?_ ?_ ?_ ?_ ?_
          | with_reducible first | exact BzZq.mk | refine Tw.ret ?_ | refine ImZq.i fun h => ?_ | refine IkZq.i fun hk => ?_)
    · obtain rfl : w = k := by omega
      refine Tw.hE (by simp only [ehp, hw, newR, kcC, cpA, nwF, nwU, List.cons_append, List.nil_append, Nat.reduceAdd]; rfl) ?_
      repeat' (first
        | ((with_reducible refine Tw.retI ?_); refine Tw.gcN env 6 [1, 5, 3, 4] [2, 3] (by rfl) (by rfl) (by rfl) ?_ (Tw.ret ?_))
        | ((with_reducible refine Tw.retI ?_); refine Tw.gcN env 8 [1, 7, 3, 5, 4, 6] [2, 3] (by rfl) (by rfl) (by rfl) ?_ (Tw.ret ?_))
        | ((with_reducible refine Tw.retI ?_); refine Tw.gcN env 10 [1, 9, 3, 6, 4, 7, 5, 8] [2, 3] (by rfl) (by rfl) (by rfl) ?_ (Tw.ret ?_))
        | ((with_reducible refine Tw.retI ?_); refine Tw.gcN env 12 [1, 11, 3, 7, 4, 8, 5, 9, 6, 10] [2, 3] (by rfl) (by rfl) (by rfl) ?_ (Tw.ret ?_))
        | ((with_reducible refine Tw.retI ?_); refine Tw.gcN env 14 [1, 13, 3, 8, 4, 9, 5, 10, 6, 11, 7, 12] [2, 3] (by rfl) (by rfl) (by rfl) ?_ (Tw.ret ?_))
        | ((with_reducible refine Tw.retI ?_); refine Tw.gcN env 16 [1, 15, 3, 9, 4, 10, 5, 11, 6, 12, 7, 13, 8, 14] [2, 3] (by rfl) (by rfl) (by rfl) ?_ (Tw.ret ?_))
        | ((with_reducible refine Tw.retI ?_); refine Tw.gcN env 18 [1, 17, 3, 10, 4, 11, 5, 12, 6, 13, 7, 14, 8, 15, 9, 16] [2, 3] (by rfl) (by rfl) (by rfl) ?_ (Tw.ret ?_))
        | ((with_reducible refine Tw.retI ?_); refine Tw.gcN env 20 [1, 19, 3, 11, 4, 12, 5, 13, 6, 14, 7, 15, 8, 16, 9, 17, 10, 18] [2, 3] (by rfl) (by rfl) (by rfl) ?_ (Tw.ret ?_))
        | refine GZy_i_6i_LiJ hw ?_ ?_ ?_ ?_ ?_ ?_ ?_ ?_
        | with_reducible first | exact BzZq.mk | refine Tw.ret ?_ | refine ImZq.i fun h => ?_ | refine IkZq.i fun hk => ?_)
      exact ⟨rfl, rfl⟩) : new_c_P n8 := h8
theorem new_c_1 : new_c_P 1 := new_c_A
theorem new_c_2 : new_c_P 2 := new_c_A
theorem new_c_3 : new_c_P 3 := new_c_A
theorem new_c (S : Su) (u : Nat) (so : SuOk S u) (hc : chkE S.Z S.mr S.rg S.tol S.tg S.ks S.ld = 0) : TC R Try.prog press_New_f [.agg [.int .i64 S.Z, .int .i64 S.mr, .int .i64 S.rg, .int .i64 S.tol, .lst Ei S.tg, .lst ELiJ S.ks, .lst ELiJ S.ld]] [] (fun v X => v = .tup [.ptr 0 0, .int .i64 0] ∧ X = prR S u (newP S)) := by
  rcases eight (u := u) (so.un) with e8 | e8 | e8
  · exact new_c_1 S u so hc e8
  · exact new_c_2 S u so hc e8
  · exact new_c_3 S u so hc e8
end Go.Proofs.Ytihminfnphichaa
