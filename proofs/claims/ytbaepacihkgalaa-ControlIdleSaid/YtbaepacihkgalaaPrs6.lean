/- Presses: events are refused. -/
import Derived.Test.YtbaepacihkgalaaPrsO
import Derived.Test.YtbaepacihkgalaaGo
namespace Go.Proofs.Ytbaepacihkgalaa
open Go Go.Lite
set_option linter.unusedVariables false
set_option linter.unusedSimpArgs false
set_option maxRecDepth 100000
set_option maxHeartbeats 100000000
-- @simp rdi rd6i rdLiJ

/-- What is said of an event by a press that has printed n sheets. -/
def evS (v : Ev) (n : Int) (u Z : Int) : Int := if evE v u Z ≠ 0 then evE v u Z else if v.1 ≠ n + 1 then 18 else 0
theorem evE_ok {s k un zn x y u Z : Int} (h : evE (s, k, un, zn, x, y) u Z = 0) : (1 ≤ s ∧ s ≤ 4000 ∧ 0 ≤ k ∧ k ≤ 6) ∧ frmK k un zn x y ∧ inK k un zn x y u Z := by
  unfold evE at h
  dsimp only at h
  split at h
  · omega
  · split at h
    · omega
    · split at h
      · omega
      · rename_i a b c
        exact ⟨by omega, Decidable.not_not.1 b, Decidable.not_not.1 c⟩
theorem evS_ok {s k un zn x y n u Z : Int} (h : evS (s, k, un, zn, x, y) n u Z = 0) : s = n + 1 ∧ evE (s, k, un, zn, x, y) u Z = 0 := by
  unfold evS at h
  split at h
  · contradiction
  · split at h
    · omega
    · rename_i a b
      exact ⟨Decidable.not_not.1 b, Decidable.not_not.1 a⟩
theorem evBad_c (S : Su) (u : Nat) (p : Ps) (s k un zn x y : Int) (hu : 1 ≤ u ∧ u ≤ 8) (hn : Due (0 ≤ p.n ∧ p.n ≤ 4000)) (hb : evS (s, k, un, zn, x, y) p.n u S.Z ≠ 0) :
    TC R Try.prog __press_Press__Event_f [.ptr 0 0, .agg [.int .i64 s, .int .i64 k, .int .i64 un, .int .i64 zn, .int .i64 x, .int .i64 y]] (prR S u p) (fun v X => v = .int .i64 (evS (s, k, un, zn, x, y) p.n u S.Z) ∧ X = prR S u p) := by
  dsimp only [Due] at hn
  have ec := event_c s k un zn x y u S.Z
  refine prTC (fun _ => rfl) (tc env __press_Press__Event_s (by rfl) ?_)
  dsimp only [__press_Press__Event_c]
  unfold evS at hb ⊢
  by_cases h1 : evE (s, k, un, zn, x, y) u S.Z = 0
  rotate_left
  · rw [if_pos h1]
    clear hb
    generalize evE (s, k, un, zn, x, y) u S.Z = q at *
    have e := eight hu
    rcases e with rfl | rfl | rfl | rfl | rfl | rfl | rfl | rfl
    all_goals
      simp only [prR, prC, unsC, unC, unR, List.cons_append, List.nil_append, Nat.reduceAdd, Nat.reduceMul]
      repeat' (first
        | ((with_reducible refine TDr.any ?_); refine TDr.callE env (by first | rfl | assumption) (by rfl) (by rfl) ?_ (ec) (by rfl) (by rfl) ?_)
        | refine GZp_i_6i_LiJ ?_ ?_ ?_ ?_ ?_ ?_ ?_ ?_
        | with_reducible first | exact BzZq.mk | refine Tw.ret ?_ | refine ImZq.i fun h => ?_ | refine IkZq.i fun hk => ?_)
      exact ⟨rfl, rfl⟩
  · rw [if_neg (fun h => h h1)] at hb ⊢
    rw [h1] at ec
    have h2 : s ≠ p.n + 1 := fun h => hb (if_neg (fun h' => h' h))
    rw [if_pos h2]
    clear hb
    have e := eight hu
    rcases e with rfl | rfl | rfl | rfl | rfl | rfl | rfl | rfl
    all_goals
      simp only [prR, prC, unsC, unC, unR, List.cons_append, List.nil_append, Nat.reduceAdd, Nat.reduceMul]
      repeat' (first
        | ((with_reducible refine TDr.any ?_); refine TDr.callE env (by first | rfl | assumption) (by rfl) (by rfl) ?_ (ec) (by rfl) (by rfl) ?_)
        | refine GZp_i_6i_LiJ ?_ ?_ ?_ ?_ ?_ ?_ ?_ ?_
        | with_reducible first | exact BzZq.mk | refine Tw.ret ?_ | refine ImZq.i fun h => ?_ | refine IkZq.i fun hk => ?_)
      exact ⟨rfl, rfl⟩
end Go.Proofs.Ytbaepacihkgalaa
