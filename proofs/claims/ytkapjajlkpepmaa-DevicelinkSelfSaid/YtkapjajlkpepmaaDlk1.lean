/- Links are checked. -/
import Derived.Test.YtkapjajlkpepmaaCurve1
import Derived.Test.YtkapjajlkpepmaaGrid3
import Derived.Test.YtkapjajlkpepmaaXDevicelinkSelf0
import Derived.Test.YtkapjajlkpepmaaGo
namespace Go.Proofs.Ytkapjajlkpepmaa
open Go Go.Lite
set_option linter.unusedVariables false
set_option linter.unusedSimpArgs false
set_option maxRecDepth 100000
set_option maxHeartbeats 4000000
-- @simp rdi rd2i

noncomputable def dlF (vals : List Int) (i : Nat) : Int := if vals.getD i 0 < 0 ∨ 65280 < vals.getD i 0 then 3 else 0
noncomputable def dlE (a b c : Int) (vals : List Int) : Int := if chkE a b c vals ≠ 0 then chkE a b c vals else fstE (dlF vals) vals.length
theorem dlCheck_c (a b c : Int) (vals : List Int) (hl : Due (vals.length ≤ 9223372036854775807)) : TC R Try.prog devicelink_Check_f [.agg [.int .i64 a, .int .i64 b, .int .i64 c, .lst Ei vals]] [] (fun v X => v = .int .i64 (dlE a b c vals) ∧ X = []) := by
  dsimp only [Due] at hl
  have gc := gcheck_c a b c vals
  refine tc0 env devicelink_Check_s (by rfl) ?_
  dsimp only [devicelink_Check_c]
  by_cases h0 : chkE a b c vals = 0
  · rw [h0] at gc
    have eL : dlE a b c vals = fstE (dlF vals) vals.length := by unfold dlE; rw [if_neg (by simpa using h0)]
    repeat' (first
      | ((with_reducible refine TOps.any ?_); refine TOps.callV env (by rfl) (by rfl) (by rfl) (gc) ?_)
      | refine GZp_i_2i ?_ ?_ ?_ ?_ ?_ ?_ ?_ ?_
      | with_reducible first | exact BzZq.mk | refine Tw.ret ?_ | refine ImZq.i fun h => ?_ | refine IkZq.i fun hk => ?_)
    refine Tw.loopK [12, 13] (fun i : Nat => i ≤ vals.length ∧ ∀ k, k < i → dlF vals k = 0) (fun i => vals.length - i) (fun i => [(14, .int .i64 i)]) (fun _ => []) ⟨0, ⟨by omega, fun k hk => by omega⟩, TWk.fcanon env [] (by rfl) ?_⟩ (fun i hi => ?_)
    · repeat' (first
        | with_reducible first | exact Conj.nil | refine Conj.cons rfl ?_ | refine Conj.same ?_ | refine Conj.ask ?_ ?_
        | ((with_reducible refine Due.mk ?_); (first | with_reducible rfl | omega | assumption | decide | ((try simp only [goS] at *) <;> (try intro h) <;> (try intro h') <;> (try simp only [goS] at *) <;> (try simp only [rdi, rd2i, Int.toNat_natCast, Nat.add_zero] at *) <;> (try simp only [rng]) <;> (first | assumption | omega)) | (exact due_app0 (by omega)) | (exact due_app (by omega)) | (intros; simp; done) | (intros; simp; omega)))
        | with_reducible refine Due.mk ?_
        | omega)
    obtain ⟨hi, hp⟩ := hi
    rcases Nat.lt_or_ge i vals.length with hi2 | hi2
    · by_cases hn : vals.getD i 0 < 0 ∨ 65280 < vals.getD i 0
      · have e : dlF vals i = 3 := by unfold dlF; rw [if_pos hn]
        repeat' (first
          | refine GZp_i_2i ?_ ?_ ?_ ?_ ?_ ?_ ?_ ?_
          | with_reducible first | exact BzZq.mk | refine Tw.ret ?_ | refine ImZq.i fun h => ?_ | refine IkZq.i fun hk => ?_)
        all_goals exact ⟨rfl, by rw [eL, fstE_at hp (by rw [e]; omega) hi2, e], rfl⟩
      · repeat' (first
          | refine GZp_i_2i ?_ ?_ ?_ ?_ ?_ ?_ ?_ ?_
          | with_reducible first | exact BzZq.mk | refine Tw.ret ?_ | refine ImZq.i fun h => ?_ | refine IkZq.i fun hk => ?_)
        refine ⟨i + 1, ⟨by omega, fun k hk => ?_⟩, by omega, TWk.fcanon env [] (by rfl) ?_⟩
        · by_cases e : k = i
          · subst e; unfold dlF; rw [if_neg hn]
          · exact hp k (by omega)
        · repeat' (first
            | refine GZ_i_2i ?_ ?_ ?_ ?_ ?_ ?_ ?_ ?_
            | with_reducible first | exact BzZq.mk | refine Tw.ret ?_ | refine ImZq.i fun h => ?_ | refine IkZq.i fun hk => ?_)
    · obtain rfl : i = vals.length := by omega
      repeat' (first
        | refine GZp_i_2i ?_ ?_ ?_ ?_ ?_ ?_ ?_ ?_
        | with_reducible first | exact BzZq.mk | refine Tw.ret ?_ | refine ImZq.i fun h => ?_ | refine IkZq.i fun hk => ?_)
      exact ⟨rfl, by rw [eL, fstE_zero.2 hp], rfl⟩
  · have eL : dlE a b c vals = chkE a b c vals := by unfold dlE; rw [if_pos h0]
    repeat' (first
      | ((with_reducible refine TOps.any ?_); refine TOps.callV env (by rfl) (by rfl) (by rfl) (gc) ?_)
      | refine GZp_i_2i ?_ ?_ ?_ ?_ ?_ ?_ ?_ ?_
      | with_reducible first | exact BzZq.mk | refine Tw.ret ?_ | refine ImZq.i fun h => ?_ | refine IkZq.i fun hk => ?_)
    exact ⟨rfl, by rw [eL], rfl⟩
end Go.Proofs.Ytkapjajlkpepmaa
