/- Presses: a unit is moved, or washed. -/
import Derived.Test.YtbaepacihkgalaaPrs7
import Derived.Test.YtbaepacihkgalaaGo
namespace Go.Proofs.Ytbaepacihkgalaa
open Go Go.Lite
set_option linter.unusedVariables false
set_option linter.unusedSimpArgs false
set_option maxRecDepth 100000
set_option maxHeartbeats 100000000
-- @simp rdi rd6i rdLiJ

def ev4_c_P (n8 : Nat) : Prop := ∀ (S : Su) (u i : Nat) (p : Ps) (s x y : Int) (hu : i < u ∧ u ≤ 8) (hn : Due (0 ≤ p.n ∧ p.n ≤ 4000)) (hb : evS (s, 4, i, 0, x, y) p.n u S.Z = 0) (ok : UOk S.Z (p.us i)) (e8 : u = n8), TC R Try.prog __press_Press__Event_f [.ptr 0 0, .agg [.int .i64 s, .int .i64 4, .int .i64 i, .int .i64 0, .int .i64 x, .int .i64 y]] (prR S u p) (fun v X => v = .int .i64 0 ∧ X = prR S u (evP S.Z p (s, 4, i, 0, x, y)))
theorem ev4_c_A {n8 : Nat} (h8 : ev4_c_P n8 := by
    intro S u i p s x y hu hn hb ok e8
    dsimp only [Due] at hn
    have ec := event_c s 4 i 0 x y u S.Z
    obtain ⟨h2, h1⟩ := evS_ok hb
    rw [h1] at ec
    have h3 := (evE_ok h1).2.2
    unfold inK at h3
    have mv := move_c S u i p x y hu (by have := ok.x; have := ok.y; dsimp only [Due]; omega) (by have := h3.2.2.1; have := h3.2.2.2.1; have := h3.2.2.2.2; simp [lowK, topK] at *; dsimp only [Due]; omega)
    clear hb h1 h3
    refine prTC (fun _ => rfl) (tc env __press_Press__Event_s (by rfl) ?_)
    dsimp only [__press_Press__Event_c]
    have b := below hu
    subst e8
    rcases b with ⟨rfl, b⟩ | ⟨rfl, b⟩ | ⟨rfl, b⟩ | ⟨rfl, b⟩ | ⟨rfl, b⟩ | ⟨rfl, b⟩ | ⟨rfl, b⟩ | ⟨rfl, b⟩
    all_goals first | (exfalso; omega) | simp only [prR, prC, unsC, unC, unR, List.cons_append, List.nil_append, Nat.reduceAdd, Nat.reduceMul] at mv ⊢
    all_goals
      repeat' (first
        | ((with_reducible refine TDr.any ?_); refine TDr.callE env (by first | rfl | assumption) (by rfl) (by rfl) ?_ (ec) (by rfl) (by rfl) ?_)
        | ((with_reducible refine TOps.any ?_); refine callI env _ (mv) (by rfl) (by rfl) (by rfl) (by simp only [List.length_cons, List.length_nil, Nat.reduceAdd]; rfl) (by rfl) (by rfl) (by rfl) (by rfl) (by rfl) ?_)
        | refine GZp_i_6i_LiJ ?_ ?_ ?_ ?_ ?_ ?_ ?_ ?_
        | with_reducible first | exact BzZq.mk | refine Tw.ret ?_ | refine ImZq.i fun h => ?_ | refine IkZq.i fun hk => ?_)
      exact ⟨rfl, rfl⟩) : ev4_c_P n8 := h8
theorem ev4_c_1 : ev4_c_P 1 := ev4_c_A
theorem ev4_c_2 : ev4_c_P 2 := ev4_c_A
theorem ev4_c_3 : ev4_c_P 3 := ev4_c_A
theorem ev4_c_4 : ev4_c_P 4 := ev4_c_A
theorem ev4_c_5 : ev4_c_P 5 := ev4_c_A
theorem ev4_c_6 : ev4_c_P 6 := ev4_c_A
theorem ev4_c_7 : ev4_c_P 7 := ev4_c_A
theorem ev4_c_8 : ev4_c_P 8 := ev4_c_A
theorem ev4_c (S : Su) (u i : Nat) (p : Ps) (s x y : Int) (hu : i < u ∧ u ≤ 8) (hn : Due (0 ≤ p.n ∧ p.n ≤ 4000)) (hb : evS (s, 4, i, 0, x, y) p.n u S.Z = 0) (ok : UOk S.Z (p.us i)) : TC R Try.prog __press_Press__Event_f [.ptr 0 0, .agg [.int .i64 s, .int .i64 4, .int .i64 i, .int .i64 0, .int .i64 x, .int .i64 y]] (prR S u p) (fun v X => v = .int .i64 0 ∧ X = prR S u (evP S.Z p (s, 4, i, 0, x, y))) := by
  rcases eight (u := u) (by omega) with e8 | e8 | e8 | e8 | e8 | e8 | e8 | e8
  · exact ev4_c_1 S u i p s x y hu hn hb ok e8
  · exact ev4_c_2 S u i p s x y hu hn hb ok e8
  · exact ev4_c_3 S u i p s x y hu hn hb ok e8
  · exact ev4_c_4 S u i p s x y hu hn hb ok e8
  · exact ev4_c_5 S u i p s x y hu hn hb ok e8
  · exact ev4_c_6 S u i p s x y hu hn hb ok e8
  · exact ev4_c_7 S u i p s x y hu hn hb ok e8
  · exact ev4_c_8 S u i p s x y hu hn hb ok e8
def ev5_c_P (n8 : Nat) : Prop := ∀ (S : Su) (u i : Nat) (p : Ps) (s : Int) (hu : i < u ∧ u ≤ 8) (hn : Due (0 ≤ p.n ∧ p.n ≤ 4000)) (hb : evS (s, 5, i, 0, 0, 0) p.n u S.Z = 0) (lf : (p.us i).fl.length = S.Z) (e8 : u = n8), TC R Try.prog __press_Press__Event_f [.ptr 0 0, .agg [.int .i64 s, .int .i64 5, .int .i64 i, .int .i64 0, .int .i64 0, .int .i64 0]] (prR S u p) (fun v X => v = .int .i64 0 ∧ X = prR S u (evP S.Z p (s, 5, i, 0, 0, 0)))
theorem ev5_c_A {n8 : Nat} (h8 : ev5_c_P n8 := by
    intro S u i p s hu hn hb lf e8
    dsimp only [Due] at hn
    have ec := event_c s 5 i 0 0 0 u S.Z
    obtain ⟨h2, h1⟩ := evS_ok hb
    rw [h1] at ec
    clear hb h1
    refine prTC (fun _ => rfl) (tc env __press_Press__Event_s (by rfl) ?_)
    dsimp only [__press_Press__Event_c]
    have b := below hu
    subst e8
    rcases b with ⟨rfl, b⟩ | ⟨rfl, b⟩ | ⟨rfl, b⟩ | ⟨rfl, b⟩ | ⟨rfl, b⟩ | ⟨rfl, b⟩ | ⟨rfl, b⟩ | ⟨rfl, b⟩
    all_goals first | (exfalso; omega) | simp only [prR, prC, unsC, unC, unR, List.cons_append, List.nil_append, Nat.reduceAdd, Nat.reduceMul]
    all_goals
      repeat' (first
        | ((with_reducible refine TDr.any ?_); refine TDr.callE env (by first | rfl | assumption) (by rfl) (by rfl) ?_ (ec) (by rfl) (by rfl) ?_)
        | refine GZp_i_6i_LiJ ?_ ?_ ?_ ?_ ?_ ?_ ?_ ?_
        | with_reducible first | exact BzZq.mk | refine Tw.ret ?_ | refine ImZq.i fun h => ?_ | refine IkZq.i fun hk => ?_)

      exact ⟨rfl, rfl⟩) : ev5_c_P n8 := h8
theorem ev5_c_1 : ev5_c_P 1 := ev5_c_A
theorem ev5_c_2 : ev5_c_P 2 := ev5_c_A
theorem ev5_c_3 : ev5_c_P 3 := ev5_c_A
theorem ev5_c_4 : ev5_c_P 4 := ev5_c_A
theorem ev5_c_5 : ev5_c_P 5 := ev5_c_A
theorem ev5_c_6 : ev5_c_P 6 := ev5_c_A
theorem ev5_c_7 : ev5_c_P 7 := ev5_c_A
theorem ev5_c_8 : ev5_c_P 8 := ev5_c_A
theorem ev5_c (S : Su) (u i : Nat) (p : Ps) (s : Int) (hu : i < u ∧ u ≤ 8) (hn : Due (0 ≤ p.n ∧ p.n ≤ 4000)) (hb : evS (s, 5, i, 0, 0, 0) p.n u S.Z = 0) (lf : (p.us i).fl.length = S.Z) : TC R Try.prog __press_Press__Event_f [.ptr 0 0, .agg [.int .i64 s, .int .i64 5, .int .i64 i, .int .i64 0, .int .i64 0, .int .i64 0]] (prR S u p) (fun v X => v = .int .i64 0 ∧ X = prR S u (evP S.Z p (s, 5, i, 0, 0, 0))) := by
  rcases eight (u := u) (by omega) with e8 | e8 | e8 | e8 | e8 | e8 | e8 | e8
  · exact ev5_c_1 S u i p s hu hn hb lf e8
  · exact ev5_c_2 S u i p s hu hn hb lf e8
  · exact ev5_c_3 S u i p s hu hn hb lf e8
  · exact ev5_c_4 S u i p s hu hn hb lf e8
  · exact ev5_c_5 S u i p s hu hn hb lf e8
  · exact ev5_c_6 S u i p s hu hn hb lf e8
  · exact ev5_c_7 S u i p s hu hn hb lf e8
  · exact ev5_c_8 S u i p s hu hn hb lf e8
end Go.Proofs.Ytbaepacihkgalaa
