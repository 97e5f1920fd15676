/- Presses: tables are copied, and stay as they are. -/
import Derived.Test.YtbaepacihkgalaaPrsBb
import Derived.Test.YtbaepacihkgalaaPrsBc
import Derived.Test.YtbaepacihkgalaaPrsO
import Derived.Test.YtbaepacihkgalaaGo
namespace Go.Proofs.Ytbaepacihkgalaa
open Go Go.Lite
set_option linter.unusedVariables false
set_option linter.unusedSimpArgs false
set_option maxRecDepth 100000
set_option maxHeartbeats 4000000

theorem feed_c (S : Su) (u : Nat) (p : Ps) (so : SuOk S u) (ok : PsOk S u p) (hn : p.n < 4000) : TC R Try.prog __press_Press__Feed_f [.ptr 0 0] (prR S u p) (fun v X => v = .tup [.agg [.int .i64 (p.n + 1), .int .i64 (fedS S u p), .lst E2i (shK S p.us u), .lst ELiJ (flL S p.us u 0), .int .i64 (fedD S u p)], .int .i64 0] ∧ X = prR S u (fedP S u p)) := by
  rcases eight (u := u) (so.un) with e8 | e8 | e8 | e8 | e8 | e8 | e8 | e8
  · exact feed_c_1 S u p so ok hn e8
  · exact feed_c_2 S u p so ok hn e8
  · exact feed_c_3 S u p so ok hn e8
  · exact feed_c_4 S u p so ok hn e8
  · exact feed_c_5 S u p so ok hn e8
  · exact feed_c_6 S u p so ok hn e8
  · exact feed_c_7 S u p so ok hn e8
  · exact feed_c_8 S u p so ok hn e8
end Go.Proofs.Ytbaepacihkgalaa
namespace Go.Proofs.Ytbaepacihkgalaa
open Go Go.Lite
set_option linter.unusedVariables false
set_option linter.unusedSimpArgs false
set_option maxRecDepth 100000
set_option maxHeartbeats 100000000
-- @simp rdi rd6i rdLiJ

def cpC (Z k : Nat) : Nat → Nat → List (TV A)
  | 0, _ => []
  | n + 1, i => (if i < k then .sla 1 (i + 1) 0 Z else .nils) :: cpC Z k n (i + 1)
def cpA (f : Nat → List Int) : Nat → Nat → List (Option (TRow A))
  | 0, _ => []
  | n + 1, i => some (.arr Ei (f i)) :: cpA f n (i + 1)
/-- A table that is copied, when k rows are done. -/
def cpR (Z : Nat) (f : Nat → List Int) (u k : Nat) : List (Option (TRow A)) := some (.cells (cpC Z k u 0)) :: cpA f k 0
def glL (f : Nat → List Int) : Nat → Nat → List (List Int)
  | 0, _ => []
  | n + 1, i => f i :: glL f n (i + 1)
theorem glL_eq {l : List (List Int)} : ∀ {n i : Nat}, l.length = i + n → glL (fun j => l.getD j []) n i = l.drop i
  | 0, i, h => by rw [glL, List.drop_of_length_le (by omega)]
  | n + 1, i, h => by
    rw [glL, glL_eq (by omega), List.drop_eq_getElem_cons (by omega : i < l.length), List.getD_eq_getElem?_getD, List.getElem?_eq_getElem (by omega)]; rfl
theorem glL_all {l : List (List Int)} {n : Nat} (h : l.length = n) : glL (fun j => l.getD j []) n 0 = l := glL_eq (by omega)
def copied_c_P (n8 : Nat) : Prop := ∀ (f : Nat → List Int) (u Z : Nat) (hu : 1 ≤ u ∧ u ≤ 8) (hZ : Due (1 ≤ Z ∧ Z ≤ 16)) (hr : ∀ i, i < u → (f i).length = Z) (e8 : u = n8), TC R Try.prog press_copied_f [.lst ELiJ (glL f u 0)] [] (fun v X => v = .sl 1 0 0 u ∧ X = cpR Z f u u)
theorem copied_c_A {n8 : Nat} (h8 : copied_c_P n8 := by
    intro f u Z hu hZ hr e8
    dsimp only [Due] at hZ
    refine tc env press_copied_s (by rfl) ?_
    dsimp only [press_copied_c]
    obtain ⟨hp, ehp⟩ : ∃ hp : Nat → List (Option (TRow A)), hp = cpR Z f u := ⟨_, rfl⟩
    obtain ⟨w, hw⟩ : ∃ w, w = u := ⟨_, rfl⟩
    rw [← hw] at hr
    subst e8
    simp only [glL, Nat.reduceAdd]
    repeat' (first
      | refine GZp_i_6i_LiJ ?_ ?_ ?_ ?_ ?_ ?_ ?_ ?_
      | with_reducible first | exact BzZq.mk | refine Tw.ret ?_ | refine ImZq.i fun h => ?_ | refine IkZq.i fun hk => ?_)
    refine Tw.loopK [0, 3] (fun k : Nat => k ≤ w) (fun k => w - k) (fun k => [(10, .int .i64 k), (9, .int .i64 w)]) (fun k => hp k) ⟨0, by omega, ?_⟩ (fun k hk => ?_)
    · refine TWk.hE (by simp only [ehp, cpR, cpC, cpA, Nat.not_lt_zero, reduceIte]; rfl) (TWk.fcanonR env 0 (by rfl) ?_)
      repeat' (first
        | refine GZx_i_6i_LiJ hw ?_ ?_ ?_ ?_ ?_ ?_ ?_ ?_
        | with_reducible first | exact BzZq.mk | refine Tw.ret ?_ | refine ImZq.i fun h => ?_ | refine IkZq.i fun hk => ?_)
    rcases Nat.lt_or_ge k w with hk | hk
    · have b := below (i := k) (u := w) ⟨hk, by omega⟩
      have hrk := hr k hk
      have c1 : cut (f k) 0 (f k).length = f k := cut_all rfl
      have le2 : (f k).length * 8 ≤ 140737488355328 ∧ (f k).length ≤ 140737488355328 := by omega
      obtain ⟨j, ej⟩ : ∃ j, j = k := ⟨_, rfl⟩
      rcases b with ⟨rfl, b⟩ | ⟨rfl, b⟩ | ⟨rfl, b⟩ | ⟨rfl, b⟩ | ⟨rfl, b⟩ | ⟨rfl, b⟩ | ⟨rfl, b⟩ | ⟨rfl, b⟩
      all_goals first | (exfalso; omega) | refine Tw.hE (by simp only [ehp, cpR, cpC, cpA, Nat.reduceLT, Nat.reduceAdd, Nat.lt_irrefl, Nat.not_lt_zero, reduceIte]; rfl) ?_
      all_goals
        repeat' (first
          | exact le2
          | refine GZy_i_6i_LiJ hw ?_ ?_ ?_ ?_ ?_ ?_ ?_ ?_
          | with_reducible first | exact BzZq.mk | refine Tw.ret ?_ | refine ImZq.i fun h => ?_ | refine IkZq.i fun hk => ?_)
        refine ⟨j + 1, by omega, by omega, TWk.hE (by simp only [ehp, ej, cpR, cpC, cpA, Nat.reduceLT, Nat.reduceAdd, Nat.lt_irrefl, Nat.not_lt_zero, reduceIte]; rfl) (TWk.fcanonR env 0 (by rfl) ?_)⟩

        repeat' (first
          | refine GZx_i_6i_LiJ hrk ?_ ?_ ?_ ?_ ?_ ?_ ?_ ?_
          | with_reducible first | exact BzZq.mk | refine Tw.ret ?_ | refine ImZq.i fun h => ?_ | refine IkZq.i fun hk => ?_)
    · obtain rfl : w = k := by omega
      refine Tw.hE (by simp only [ehp, hw, cpR, cpC, cpA, Nat.reduceLT, Nat.reduceAdd, Nat.lt_irrefl, Nat.not_lt_zero, reduceIte]; rfl) ?_
      repeat' (first
        | refine GZy_i_6i_LiJ hw ?_ ?_ ?_ ?_ ?_ ?_ ?_ ?_
        | with_reducible first | exact BzZq.mk | refine Tw.ret ?_ | refine ImZq.i fun h => ?_ | refine IkZq.i fun hk => ?_)
      exact ⟨rfl, rfl⟩) : copied_c_P n8 := h8
theorem copied_c_1 : copied_c_P 1 := copied_c_A
theorem copied_c_2 : copied_c_P 2 := copied_c_A
theorem copied_c_3 : copied_c_P 3 := copied_c_A
theorem copied_c_4 : copied_c_P 4 := copied_c_A
theorem copied_c_5 : copied_c_P 5 := copied_c_A
theorem copied_c_6 : copied_c_P 6 := copied_c_A
theorem copied_c_7 : copied_c_P 7 := copied_c_A
theorem copied_c_8 : copied_c_P 8 := copied_c_A
theorem copied_c (f : Nat → List Int) (u Z : Nat) (hu : 1 ≤ u ∧ u ≤ 8) (hZ : Due (1 ≤ Z ∧ Z ≤ 16)) (hr : ∀ i, i < u → (f i).length = Z) : TC R Try.prog press_copied_f [.lst ELiJ (glL f u 0)] [] (fun v X => v = .sl 1 0 0 u ∧ X = cpR Z f u u) := by
  rcases eight (u := u) (hu) with e8 | e8 | e8 | e8 | e8 | e8 | e8 | e8
  · exact copied_c_1 f u Z hu hZ hr e8
  · exact copied_c_2 f u Z hu hZ hr e8
  · exact copied_c_3 f u Z hu hZ hr e8
  · exact copied_c_4 f u Z hu hZ hr e8
  · exact copied_c_5 f u Z hu hZ hr e8
  · exact copied_c_6 f u Z hu hZ hr e8
  · exact copied_c_7 f u Z hu hZ hr e8
  · exact copied_c_8 f u Z hu hZ hr e8
end Go.Proofs.Ytbaepacihkgalaa
namespace Go.Proofs.Ytbaepacihkgalaa
open Go Go.Lite
set_option linter.unusedVariables false
set_option linter.unusedSimpArgs false
set_option maxRecDepth 100000
set_option maxHeartbeats 100000000
-- @simp rdi rd6i rdLiJ

def cpL (f : Nat → List Int) (k : Nat) : Nat → Nat → List (TV A)
  | 0, _ => []
  | n + 1, i => (if i < k then .lst Ei (f i) else .nils) :: cpL f k n (i + 1)
def copiedL_c_P (n8 : Nat) : Prop := ∀ (f : Nat → List Int) (u Z : Nat) (hu : 1 ≤ u ∧ u ≤ 8) (hZ : Due (1 ≤ Z ∧ Z ≤ 16)) (hr : ∀ i, i < u → (f i).length = Z) (e8 : u = n8), TC R Try.prog press_copied_f [.lst ELiJ (glL f u 0)] [] (fun v X => v = .lst ELiJ (glL f u 0) ∧ X = [])
theorem copiedL_c_A {n8 : Nat} (h8 : copiedL_c_P n8 := by
    intro f u Z hu hZ hr e8
    dsimp only [Due] at hZ
    refine tc0 env press_copied_s (by rfl) ?_
    dsimp only [press_copied_c]
    obtain ⟨hp, ehp⟩ : ∃ hp : Nat → List (Option (TRow A)), hp = fun k => [some (.cells (cpL f k u 0))] := ⟨_, rfl⟩
    obtain ⟨hd, ehd⟩ : ∃ hd : List (Option (TRow A)), hd = [some (.arr ELiJ (glL f u 0))] := ⟨_, rfl⟩
    obtain ⟨hF, ehF⟩ : ∃ hF : List (Nat × TV A), hF = [(10, .int .i64 (u : Int)), (9, .int .i64 (u : Int)), (0, .lst ELiJ (glL f u 0)), (3, .sla 1 0 0 u)] := ⟨_, rfl⟩
    obtain ⟨w, hw⟩ : ∃ w, w = u := ⟨_, rfl⟩
    rw [← hw] at hr
    subst e8
    simp only [glL, Nat.reduceAdd]
    repeat' (first
      | refine GZp_i_6i_LiJ ?_ ?_ ?_ ?_ ?_ ?_ ?_ ?_
      | with_reducible first | exact BzZq.mk | refine Tw.ret ?_ | refine ImZq.i fun h => ?_ | refine IkZq.i fun hk => ?_)
    refine Tw.loopK [0, 3] (fun k : Nat => k ≤ w) (fun k => w - k) (fun k => [(10, .int .i64 k), (9, .int .i64 w)]) (fun k => hp k) ⟨0, by omega, ?_⟩ (fun k hk => ?_)
    · refine TWk.hE (by simp only [ehp, cpL, Nat.not_lt_zero, reduceIte]; rfl) (TWk.fcanonR env 0 (by rfl) ?_)
      repeat' (first
        | refine GZx_i_6i_LiJ hw ?_ ?_ ?_ ?_ ?_ ?_ ?_ ?_
        | with_reducible first | exact BzZq.mk | refine Tw.ret ?_ | refine ImZq.i fun h => ?_ | refine IkZq.i fun hk => ?_)
    rcases Nat.lt_or_ge k w with hk | hk
    · have b := below (i := k) (u := w) ⟨hk, by omega⟩
      have hrk := hr k hk
      have c1 : f k = cut (f k) 0 (f k).length := (cut_all rfl).symm
      have le1 : 0 + (f k).length ≤ (f k).length := by omega
      have le2 : (f k).length * 8 ≤ 140737488355328 ∧ (f k).length ≤ 140737488355328 := by omega
      obtain ⟨j, ej⟩ : ∃ j, j = k := ⟨_, rfl⟩
      rcases b with ⟨rfl, b⟩ | ⟨rfl, b⟩ | ⟨rfl, b⟩ | ⟨rfl, b⟩ | ⟨rfl, b⟩ | ⟨rfl, b⟩ | ⟨rfl, b⟩ | ⟨rfl, b⟩
      all_goals first | (exfalso; omega) | refine Tw.hE (by simp only [ehp, cpL, Nat.reduceLT, Nat.reduceAdd, Nat.lt_irrefl, Nat.not_lt_zero, reduceIte]; rfl) ?_
      all_goals
        repeat' (first
          | exact le2
          | refine GZy_i_6i_LiJ hw ?_ ?_ ?_ ?_ ?_ ?_ ?_ ?_
          | with_reducible first | exact BzZq.mk | refine Tw.ret ?_ | refine ImZq.i fun h => ?_ | refine IkZq.i fun hk => ?_)
        refine ⟨j + 1, by omega, by omega, ?_⟩
        refine TWk.frzD env 1 (by rfl) (by rfl) (by rfl) ?_ ?_ ?_
        · repeat' (first
            | exact le1
            | refine GZ_i_6i_LiJ ?_ ?_ ?_ ?_ ?_ ?_ ?_ ?_
            | with_reducible first | exact BzZq.mk | refine Tw.ret ?_ | refine ImZq.i fun h => ?_ | refine IkZq.i fun hk => ?_)
        · repeat' (first
            | exact le1
            | refine GZ_i_6i_LiJ ?_ ?_ ?_ ?_ ?_ ?_ ?_ ?_
            | with_reducible first | exact BzZq.mk | refine Tw.ret ?_ | refine ImZq.i fun h => ?_ | refine IkZq.i fun hk => ?_)
        refine TWk.hE (by simp only [ehp, ej, cpL, Nat.reduceLT, Nat.reduceAdd, Nat.lt_irrefl, Nat.not_lt_zero, reduceIte]; rfl) (TWk.fcanonR env 0 (by rfl) ?_)
        repeat' (first
          | exact c1
          | refine GZ_i_6i_LiJ ?_ ?_ ?_ ?_ ?_ ?_ ?_ ?_
          | with_reducible first | exact BzZq.mk | refine Tw.ret ?_ | refine ImZq.i fun h => ?_ | refine IkZq.i fun hk => ?_)
    · obtain rfl : w = k := by omega
      refine Tw.hE (by simp only [ehp, hw, cpL, Nat.reduceLT, Nat.reduceAdd, Nat.lt_irrefl, Nat.not_lt_zero, reduceIte]; rfl) ?_
      refine Tw.reFP (F' := hF) (H' := hd) (by rw [ehF, hw]; rfl) (by rw [ehd]; rfl) ?_
      rw [ehF, ehd]
      simp only [glL, Nat.reduceAdd]
      repeat' (first
        | ((with_reducible refine Tw.retI ?_); refine Tw.frz env 0 (by rfl) (by rfl) (by rfl) ?_ ?_ (Tw.ret ?_))
        | refine GZp_i_6i_LiJ ?_ ?_ ?_ ?_ ?_ ?_ ?_ ?_
        | with_reducible first | exact BzZq.mk | refine Tw.ret ?_ | refine ImZq.i fun h => ?_ | refine IkZq.i fun hk => ?_)
      exact ⟨rfl, rfl, trivial⟩) : copiedL_c_P n8 := h8
theorem copiedL_c_1 : copiedL_c_P 1 := copiedL_c_A
theorem copiedL_c_2 : copiedL_c_P 2 := copiedL_c_A
theorem copiedL_c_3 : copiedL_c_P 3 := copiedL_c_A
theorem copiedL_c_4 : copiedL_c_P 4 := copiedL_c_A
theorem copiedL_c_5 : copiedL_c_P 5 := copiedL_c_A
theorem copiedL_c_6 : copiedL_c_P 6 := copiedL_c_A
theorem copiedL_c_7 : copiedL_c_P 7 := copiedL_c_A
theorem copiedL_c_8 : copiedL_c_P 8 := copiedL_c_A
theorem copiedL_c (f : Nat → List Int) (u Z : Nat) (hu : 1 ≤ u ∧ u ≤ 8) (hZ : Due (1 ≤ Z ∧ Z ≤ 16)) (hr : ∀ i, i < u → (f i).length = Z) : TC R Try.prog press_copied_f [.lst ELiJ (glL f u 0)] [] (fun v X => v = .lst ELiJ (glL f u 0) ∧ X = []) := by
  rcases eight (u := u) (hu) with e8 | e8 | e8 | e8 | e8 | e8 | e8 | e8
  · exact copiedL_c_1 f u Z hu hZ hr e8
  · exact copiedL_c_2 f u Z hu hZ hr e8
  · exact copiedL_c_3 f u Z hu hZ hr e8
  · exact copiedL_c_4 f u Z hu hZ hr e8
  · exact copiedL_c_5 f u Z hu hZ hr e8
  · exact copiedL_c_6 f u Z hu hZ hr e8
  · exact copiedL_c_7 f u Z hu hZ hr e8
  · exact copiedL_c_8 f u Z hu hZ hr e8
end Go.Proofs.Ytbaepacihkgalaa
