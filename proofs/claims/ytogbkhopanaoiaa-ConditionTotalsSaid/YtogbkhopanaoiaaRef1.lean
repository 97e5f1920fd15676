/- Colours of the reference space: Check, Square, Distance. -/
import Derived.Test.YtogbkhopanaoiaaNum
import Derived.Test.YtogbkhopanaoiaaXConditionTotals0
import Derived.Test.YtogbkhopanaoiaaGo
namespace Go.Proofs.Ytogbkhopanaoiaa
open Go Go.Lite
set_option linter.unusedVariables false
set_option linter.unusedSimpArgs false
set_option maxRecDepth 100000
set_option maxHeartbeats 4000000
-- @simp rdi

def labOk (l a b : Int) : Prop := 0 ≤ l ∧ l ≤ 10000 ∧ -12800 ≤ a ∧ a ≤ 12800 ∧ -12800 ≤ b ∧ b ≤ 12800
instance (l a b : Int) : Decidable (labOk l a b) := by unfold labOk; infer_instance
def labE (l a b : Int) : Int := if labOk l a b then 0 else 3
theorem refCheck_c (l a b : Int) : TC R Try.prog refspace_Check_f [.agg [.int .i64 l, .int .i64 a, .int .i64 b]] [] (fun v X => v = .int .i64 (labE l a b) ∧ X = []) := by
  refine tc0 env refspace_Check_s (by rfl) ?_
  dsimp only [refspace_Check_c]
  repeat' (first
    | refine GZ_i ?_ ?_ ?_ ?_ ?_ ?_ ?_ ?_
    | with_reducible first | exact BzZq.mk | refine Tw.ret ?_ | refine ImZq.i fun h => ?_ | refine IkZq.i fun hk => ?_)
  · exact ⟨rfl, by rw [labE, if_neg (by unfold labOk; omega)], rfl⟩
  · exact ⟨rfl, by rw [labE, if_pos (by unfold labOk; omega)], rfl⟩

end Go.Proofs.Ytogbkhopanaoiaa
