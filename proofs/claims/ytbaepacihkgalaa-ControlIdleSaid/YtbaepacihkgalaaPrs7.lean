/- Presses: events. -/
import Derived.Test.YtbaepacihkgalaaPrs6
import Derived.Test.YtbaepacihkgalaaGo
namespace Go.Proofs.Ytbaepacihkgalaa
open Go Go.Lite
set_option linter.unusedVariables false
set_option linter.unusedSimpArgs false
set_option maxRecDepth 100000
set_option maxHeartbeats 100000000
-- @simp rdi rd6i rdLiJ

def evU (Z : Nat) (a : Un) (k zn x y : Int) : Un :=
  if k = 0 then { a with dx := x, dy := y } else if k = 1 then { a with ks := a.ks.set zn.toNat x } else if k = 2 then { a with gn := x } else if k = 4 then mvU a x y else { a with fl := a.fl.take 0 ++ List.replicate Z 0 ++ a.fl.drop (0 + Z) }
def halfU (a : Un) : Un := { a with fl := a.fl.map fun f => quo f 2 }
/-- A press behind an event. -/
def evP (Z : Nat) (p : Ps) (v : Ev) : Ps :=
  if v.2.1 = 3 then { p with j := max p.j v.2.2.2.2.1 } else if v.2.1 = 6 then { p with us := fun i => halfU (p.us i) }
  else { p with s := if v.2.1 = 5 then 0 else p.s, us := upU p.us v.2.2.1.toNat (evU Z (p.us v.2.2.1.toNat) v.2.1 v.2.2.2.1 v.2.2.2.2.1 v.2.2.2.2.2) }

def ev0_c_P (n8 : Nat) : Prop := ∀ (S : Su) (u i : Nat) (p : Ps) (s k zn x y : Int) (hu : i < u ∧ u ≤ 8) (hk : k = 0 ∨ k = 1 ∨ k = 2) (hn : Due (0 ≤ p.n ∧ p.n ≤ 4000)) (hb : evS (s, k, i, zn, x, y) p.n u S.Z = 0) (lk : (p.us i).ks.length = S.Z) (e8 : u = n8), TC R Try.prog __press_Press__Event_f [.ptr 0 0, .agg [.int .i64 s, .int .i64 k, .int .i64 i, .int .i64 zn, .int .i64 x, .int .i64 y]] (prR S u p) (fun v X => v = .int .i64 0 ∧ X = prR S u (evP S.Z p (s, k, i, zn, x, y)))
theorem ev0_c_A {n8 : Nat} (h8 : ev0_c_P n8 := by
    intro S u i p s k zn x y hu hk hn hb lk e8
    dsimp only [Due] at hn
    have ec := event_c s k i zn x y u S.Z
    obtain ⟨h2, h1⟩ := evS_ok hb
    rw [h1] at ec
    have h3 : k = 1 → 0 ≤ zn ∧ zn < S.Z := (evE_ok h1).2.2.2.1
    clear hb h1
    refine prTC (fun _ => rfl) (tc env __press_Press__Event_s (by rfl) ?_)
    dsimp only [__press_Press__Event_c]
    have b := below hu
    subst e8
    rcases b with ⟨rfl, b⟩ | ⟨rfl, b⟩ | ⟨rfl, b⟩ | ⟨rfl, b⟩ | ⟨rfl, b⟩ | ⟨rfl, b⟩ | ⟨rfl, b⟩ | ⟨rfl, b⟩
    all_goals first | (exfalso; omega) | simp only [prR, prC, unsC, unC, unR, List.cons_append, List.nil_append, Nat.reduceAdd, Nat.reduceMul]
    all_goals
      rcases hk with rfl | rfl | rfl
      · repeat' (first
          | ((with_reducible refine TDr.any ?_); refine TDr.callE env (by first | rfl | assumption) (by rfl) (by rfl) ?_ (ec) (by rfl) (by rfl) ?_)
          | refine GZp_i_6i_LiJ ?_ ?_ ?_ ?_ ?_ ?_ ?_ ?_
          | with_reducible first | exact BzZq.mk | refine Tw.ret ?_ | refine ImZq.i fun h => ?_ | refine IkZq.i fun hk => ?_)
        exact ⟨rfl, rfl⟩
      · have h3 := h3 rfl
        repeat' (first
          | ((with_reducible refine TDr.any ?_); refine TDr.callE env (by first | rfl | assumption) (by rfl) (by rfl) ?_ (ec) (by rfl) (by rfl) ?_)
          | refine GZp_i_6i_LiJ ?_ ?_ ?_ ?_ ?_ ?_ ?_ ?_
          | with_reducible first | exact BzZq.mk | refine Tw.ret ?_ | refine ImZq.i fun h => ?_ | refine IkZq.i fun hk => ?_)
        exact ⟨rfl, rfl⟩
      · repeat' (first
          | ((with_reducible refine TDr.any ?_); refine TDr.callE env (by first | rfl | assumption) (by rfl) (by rfl) ?_ (ec) (by rfl) (by rfl) ?_)
          | refine GZp_i_6i_LiJ ?_ ?_ ?_ ?_ ?_ ?_ ?_ ?_
          | with_reducible first | exact BzZq.mk | refine Tw.ret ?_ | refine ImZq.i fun h => ?_ | refine IkZq.i fun hk => ?_)
        exact ⟨rfl, rfl⟩) : ev0_c_P n8 := h8
theorem ev0_c_1 : ev0_c_P 1 := ev0_c_A
theorem ev0_c_2 : ev0_c_P 2 := ev0_c_A
theorem ev0_c_3 : ev0_c_P 3 := ev0_c_A
theorem ev0_c_4 : ev0_c_P 4 := ev0_c_A
theorem ev0_c_5 : ev0_c_P 5 := ev0_c_A
theorem ev0_c_6 : ev0_c_P 6 := ev0_c_A
theorem ev0_c_7 : ev0_c_P 7 := ev0_c_A
theorem ev0_c_8 : ev0_c_P 8 := ev0_c_A
theorem ev0_c (S : Su) (u i : Nat) (p : Ps) (s k zn x y : Int) (hu : i < u ∧ u ≤ 8) (hk : k = 0 ∨ k = 1 ∨ k = 2) (hn : Due (0 ≤ p.n ∧ p.n ≤ 4000)) (hb : evS (s, k, i, zn, x, y) p.n u S.Z = 0) (lk : (p.us i).ks.length = S.Z) : TC R Try.prog __press_Press__Event_f [.ptr 0 0, .agg [.int .i64 s, .int .i64 k, .int .i64 i, .int .i64 zn, .int .i64 x, .int .i64 y]] (prR S u p) (fun v X => v = .int .i64 0 ∧ X = prR S u (evP S.Z p (s, k, i, zn, x, y))) := by
  rcases eight (u := u) (by omega) with e8 | e8 | e8 | e8 | e8 | e8 | e8 | e8
  · exact ev0_c_1 S u i p s k zn x y hu hk hn hb lk e8
  · exact ev0_c_2 S u i p s k zn x y hu hk hn hb lk e8
  · exact ev0_c_3 S u i p s k zn x y hu hk hn hb lk e8
  · exact ev0_c_4 S u i p s k zn x y hu hk hn hb lk e8
  · exact ev0_c_5 S u i p s k zn x y hu hk hn hb lk e8
  · exact ev0_c_6 S u i p s k zn x y hu hk hn hb lk e8
  · exact ev0_c_7 S u i p s k zn x y hu hk hn hb lk e8
  · exact ev0_c_8 S u i p s k zn x y hu hk hn hb lk e8
end Go.Proofs.Ytbaepacihkgalaa
