/- Bitmaps: growth and turns. -/
import Derived.Test.YtcehapmkhlmgdaaBits2
import Derived.Test.YtcehapmkhlmgdaaXHalftoneMonotone0
import Derived.Test.YtcehapmkhlmgdaaGo
namespace Go.Proofs.Ytcehapmkhlmgdaa
open Go Go.Lite
set_option linter.unusedVariables false
set_option linter.unusedSimpArgs false
set_option maxRecDepth 100000
set_option maxHeartbeats 4000000
-- @simp rdi rdy

theorem noBits0_c : TC R Try.prog R2_NoBits_f [.agg [.int .i64 0, .int .i64 0, .nils]] [] (fun v X => v = .bool true ∧ X = []) := by
  refine tc0 env R2_NoBits_s (by rfl) ?_
  dsimp only [R2_NoBits_c]
  repeat' (first
    | refine GZp_i_y ?_ ?_ ?_ ?_ ?_ ?_ ?_ ?_
    | with_reducible first | exact BzZq.mk | refine Tw.ret ?_ | refine ImZq.i fun h => ?_ | refine IkZq.i fun hk => ?_)
  exact ⟨rfl, rfl, rfl⟩

/-- One step of growth. -/
def g1 (w k : Nat) (D : List Int) (x y : Nat) : Bool := px w k D x y || px w k D (x - 1 : Int) y || px w k D (x + 1 : Int) y || px w k D x (y - 1 : Int) || px w k D x (y + 1 : Int)
/-! ### Turns -/
end Go.Proofs.Ytcehapmkhlmgdaa
