/- Controllers: settings; a record is validated. -/
import Derived.Test.YtbaepacihkgalaaFst
import Derived.Test.YtbaepacihkgalaaPrsO
import Derived.Test.YtbaepacihkgalaaNear
import Derived.Test.YtbaepacihkgalaaX0
import Derived.Test.YtbaepacihkgalaaGo
namespace Go.Proofs.Ytbaepacihkgalaa
open Go Go.Lite
set_option linter.unusedVariables false
set_option linter.unusedSimpArgs false
set_option maxRecDepth 100000
set_option maxHeartbeats 100000000
-- @simp rdi rd6i rdLiJ rd2i

def ctlE (a b : Int) : Int := if a < 1 ∨ 4000 < a ∨ b < 1 ∨ 4000 < b then 3 else 0
theorem ccheck_c (a b : Int) : TC R Try.prog control_Check_f [.agg [.int .i64 a, .int .i64 b]] [] (fun v X => v = .int .i64 (ctlE a b) ∧ X = []) := by
  refine tc0 env control_Check_s (by rfl) ?_
  dsimp only [control_Check_c]
  by_cases h : a < 1 ∨ 4000 < a ∨ b < 1 ∨ 4000 < b
  · rw [show ctlE a b = 3 from if_pos h]
    repeat' (first
      | refine GZp_i_6i_LiJ_2i ?_ ?_ ?_ ?_ ?_ ?_ ?_ ?_
      | with_reducible first | exact BzZq.mk | refine Tw.ret ?_ | refine ImZq.i fun h => ?_ | refine IkZq.i fun hk => ?_)
    all_goals exact ⟨rfl, rfl, rfl⟩
  · rw [show ctlE a b = 0 from if_neg h]
    repeat' (first
      | refine GZp_i_6i_LiJ_2i ?_ ?_ ?_ ?_ ?_ ?_ ?_ ?_
      | with_reducible first | exact BzZq.mk | refine Tw.ret ?_ | refine ImZq.i fun h => ?_ | refine IkZq.i fun hk => ?_)
    all_goals exact ⟨rfl, rfl, rfl⟩
/-- A controller. -/
structure Ct where
  ci : Int
  cr : Int
  n : Int
  ks : Nat → List Int
def ctC (S : Su) (u : Nat) (c : Ct) : List (TV A) := [.int .i64 S.Z, .int .i64 (0 : Int), .int .i64 (0 : Int), .int .i64 (0 : Int), .lst Ei S.tg, .nils, .lst ELiJ S.ld, .int .i64 c.ci, .int .i64 c.cr, .sl 1 1 0 u, .int .i64 c.n]
def ksC (Z : Nat) : Nat → Nat → List (TV A)
  | 0, _ => []
  | k + 1, i => .sla 1 (2 + i) 0 Z :: ksC Z k (i + 1)
def ksR (ks : Nat → List Int) : Nat → Nat → List (Option (TRow A))
  | 0, _ => []
  | k + 1, i => some (.arr Ei (ks i)) :: ksR ks k (i + 1)
def ctR (S : Su) (u : Nat) (c : Ct) : List (Option (TRow A)) := some (.cells (ctC S u c)) :: some (.cells (ksC S.Z u 0)) :: ksR c.ks u 0
/-- A record that a controller takes. -/
structure RcOk (S : Su) (u : Nat) (sh : List (Int × Int)) (fm : List (List Int)) : Prop where
  sl : sh.length = u
  fl : fm.length = u
  s : ∀ i, i < u → -1000 ≤ (sh.getD i (0, 0)).1 ∧ (sh.getD i (0, 0)).1 ≤ 1000 ∧ -1000 ≤ (sh.getD i (0, 0)).2 ∧ (sh.getD i (0, 0)).2 ≤ 1000
  f : ∀ i, i < u → (fm.getD i []).length = S.Z ∧ ∀ z, z < S.Z → 0 ≤ (fm.getD i []).getD z 0 ∧ (fm.getD i []).getD z 0 ≤ 24000
def check_c_P (n8 : Nat) : Prop := ∀ (S : Su) (u : Nat) (c : Ct) (st dr : Int) (sh : List (Int × Int)) (fm : List (List Int)) (hu : 1 ≤ u ∧ u ≤ 8) (hZ : Due (S.Z ≤ 16)) (hn : Due (0 ≤ c.n ∧ c.n ≤ 4000)) (ok : RcOk S u sh fm) (e8 : u = n8), TC R Try.prog __control_Controller__check_f [.ptr 0 0, .ptr (u + 2) 0] (ctR S u c ++ [some (.cells [.int .i64 (c.n + 1), .int .i64 st, .lst E2i sh, .lst ELiJ fm, .int .i64 dr])]) (fun v X => v = .int .i64 0 ∧ X = ctR S u c ++ [some (.cells [.int .i64 (c.n + 1), .int .i64 st, .lst E2i sh, .lst ELiJ fm, .int .i64 dr])])
theorem check_c_A {n8 : Nat} (h8 : check_c_P n8 := by
    intro S u c st dr sh fm hu hZ hn ok e8
    dsimp only [Due] at hZ hn
    have osl := ok.sl
    have ofl := ok.fl
    have os := ok.s
    have of := ok.f
    refine tc env __control_Controller__check_s (by rfl) ?_
    dsimp only [__control_Controller__check_c]
    obtain ⟨hp, ehp⟩ : ∃ hp : List (Option (TRow A)), hp = ctR S u c ++ [some (.cells [.int .i64 (c.n + 1), .int .i64 st, .lst E2i sh, .lst ELiJ fm, .int .i64 dr])] := ⟨_, rfl⟩
    obtain ⟨hq, ehq⟩ : ∃ hq : Nat → List (Option (TRow A)), hq = fun i => ctR S u c ++ [some (.cells [.int .i64 (c.n + 1), .int .i64 st, .lst E2i sh, .lst ELiJ fm, .int .i64 dr]), some (.cells [.int .i64 (sh.getD i (0, 0)).1, .int .i64 (sh.getD i (0, 0)).2])] := ⟨_, rfl⟩
    obtain ⟨w, hw⟩ : ∃ w, w = u := ⟨_, rfl⟩
    obtain ⟨rp, erp⟩ : ∃ rp, rp = u + 2 := ⟨_, rfl⟩
    rw [← hw] at osl ofl os of
    subst e8
    refine Tw.hE (by simp only [ctR, ctC, ksC, ksR, List.cons_append, List.nil_append, Nat.reduceAdd]; rfl) ?_
    repeat' (first
      | refine GZy_i_6i_LiJ_2i (And.intro osl (And.intro ofl hw)) ?_ ?_ ?_ ?_ ?_ ?_ ?_ ?_
      | with_reducible first | exact BzZq.mk | refine Tw.ret ?_ | refine ImZq.i fun h => ?_ | refine IkZq.i fun hk => ?_)
    refine Tw.loopK [0, 1, 47] (fun i : Nat => i ≤ w) (fun i => w - i) (fun i => [(49, .int .i64 i), (48, .int .i64 w)]) (fun _ => hp) ⟨0, by omega, ?_⟩ (fun i hi => ?_)
    · refine TWk.hE (by simp only [ehp, ctR, ctC, ksC, ksR, List.cons_append, List.nil_append, Nat.reduceAdd]; rfl) (TWk.fcanonR env 0 (by rfl) ?_)
      repeat' (first
        | refine GZx_i_6i_LiJ_2i ofl ?_ ?_ ?_ ?_ ?_ ?_ ?_ ?_
        | with_reducible first | exact BzZq.mk | refine Tw.ret ?_ | refine ImZq.i fun h => ?_ | refine IkZq.i fun hk => ?_)
    refine Tw.hE (by simp only [ehp, ctR, ctC, ksC, ksR, List.cons_append, List.nil_append, Nat.reduceAdd]; rfl) ?_
    rcases Nat.lt_or_ge i w with hi | hi
    · obtain ⟨f1, f2⟩ := of i hi
      have s1 := os i hi
      have f3 : (fm.getD i (R.d ELiJ)).length = S.Z := f1
      repeat' (first
        | refine GZy_i_6i_LiJ_2i (And.intro ofl (And.intro osl f3)) ?_ ?_ ?_ ?_ ?_ ?_ ?_ ?_
        | with_reducible first | exact BzZq.mk | refine Tw.ret ?_ | refine ImZq.i fun h => ?_ | refine IkZq.i fun hk => ?_)
      refine Tw.loopK [0, 1, 5, 6, 7, 47, 48, 49, 87] (fun z : Nat => z ≤ S.Z) (fun z => S.Z - z) (fun z => [(89, .int .i64 z), (88, .int .i64 S.Z)]) (fun _ => hq i) ⟨0, by omega, ?_⟩ (fun z hz => ?_)
      · refine TWk.hE (by simp only [ehq, ctR, ctC, ksC, ksR, List.cons_append, List.nil_append, Nat.reduceAdd]; rfl) (TWk.fcanonR env 0 (by rfl) ?_)
        repeat' (first
          | refine GZx_i_6i_LiJ_2i f3 ?_ ?_ ?_ ?_ ?_ ?_ ?_ ?_
          | with_reducible first | exact BzZq.mk | refine Tw.ret ?_ | refine ImZq.i fun h => ?_ | refine IkZq.i fun hk => ?_)
      refine Tw.hE (by simp only [ehq, ctR, ctC, ksC, ksR, List.cons_append, List.nil_append, Nat.reduceAdd]; rfl) ?_
      rcases Nat.lt_or_ge z S.Z with hz | hz
      · have v1 := f2 z hz
        repeat' (first
          | refine GZy_i_6i_LiJ_2i f3 ?_ ?_ ?_ ?_ ?_ ?_ ?_ ?_
          | with_reducible first | exact BzZq.mk | refine Tw.ret ?_ | refine ImZq.i fun h => ?_ | refine IkZq.i fun hk => ?_)
        refine ⟨z + 1, by omega, by omega, TWk.hE (by simp only [ehq, ctR, ctC, ksC, ksR, List.cons_append, List.nil_append, Nat.reduceAdd]; rfl) (TWk.fcanonR env 0 (by rfl) ?_)⟩
        repeat' (first
          | refine GZ_i_6i_LiJ_2i ?_ ?_ ?_ ?_ ?_ ?_ ?_ ?_
          | with_reducible first | exact BzZq.mk | refine Tw.ret ?_ | refine ImZq.i fun h => ?_ | refine IkZq.i fun hk => ?_)
      · obtain rfl : z = S.Z := by omega
        repeat' (first
          | refine GZy_i_6i_LiJ_2i f3 ?_ ?_ ?_ ?_ ?_ ?_ ?_ ?_
          | with_reducible first | exact BzZq.mk | refine Tw.ret ?_ | refine ImZq.i fun h => ?_ | refine IkZq.i fun hk => ?_)
        refine ⟨i + 1, by omega, by omega, TWk.hE (by simp only [ehp, ctR, ctC, ksC, ksR, List.cons_append, List.nil_append, Nat.reduceAdd]; rfl) (TWk.fcanonR env 0 (by rfl) ?_)⟩
        repeat' (first
          | refine GZ_i_6i_LiJ_2i ?_ ?_ ?_ ?_ ?_ ?_ ?_ ?_
          | with_reducible first | exact BzZq.mk | refine Tw.ret ?_ | refine ImZq.i fun h => ?_ | refine IkZq.i fun hk => ?_)
    · obtain rfl : w = i := by omega
      repeat' (first
        | refine GZp_i_6i_LiJ_2i ?_ ?_ ?_ ?_ ?_ ?_ ?_ ?_
        | with_reducible first | exact BzZq.mk | refine Tw.ret ?_ | refine ImZq.i fun h => ?_ | refine IkZq.i fun hk => ?_)
      all_goals exact ⟨rfl, rfl⟩) : check_c_P n8 := h8
theorem check_c_1 : check_c_P 1 := check_c_A
theorem check_c_2 : check_c_P 2 := check_c_A
theorem check_c_3 : check_c_P 3 := check_c_A
theorem check_c_4 : check_c_P 4 := check_c_A
theorem check_c_5 : check_c_P 5 := check_c_A
theorem check_c_6 : check_c_P 6 := check_c_A
theorem check_c_7 : check_c_P 7 := check_c_A
theorem check_c_8 : check_c_P 8 := check_c_A
theorem check_c (S : Su) (u : Nat) (c : Ct) (st dr : Int) (sh : List (Int × Int)) (fm : List (List Int)) (hu : 1 ≤ u ∧ u ≤ 8) (hZ : Due (S.Z ≤ 16)) (hn : Due (0 ≤ c.n ∧ c.n ≤ 4000)) (ok : RcOk S u sh fm) : TC R Try.prog __control_Controller__check_f [.ptr 0 0, .ptr (u + 2) 0] (ctR S u c ++ [some (.cells [.int .i64 (c.n + 1), .int .i64 st, .lst E2i sh, .lst ELiJ fm, .int .i64 dr])]) (fun v X => v = .int .i64 0 ∧ X = ctR S u c ++ [some (.cells [.int .i64 (c.n + 1), .int .i64 st, .lst E2i sh, .lst ELiJ fm, .int .i64 dr])]) := by
  rcases eight (u := u) (hu) with e8 | e8 | e8 | e8 | e8 | e8 | e8 | e8
  · exact check_c_1 S u c st dr sh fm hu hZ hn ok e8
  · exact check_c_2 S u c st dr sh fm hu hZ hn ok e8
  · exact check_c_3 S u c st dr sh fm hu hZ hn ok e8
  · exact check_c_4 S u c st dr sh fm hu hZ hn ok e8
  · exact check_c_5 S u c st dr sh fm hu hZ hn ok e8
  · exact check_c_6 S u c st dr sh fm hu hZ hn ok e8
  · exact check_c_7 S u c st dr sh fm hu hZ hn ok e8
  · exact check_c_8 S u c st dr sh fm hu hZ hn ok e8
end Go.Proofs.Ytbaepacihkgalaa
