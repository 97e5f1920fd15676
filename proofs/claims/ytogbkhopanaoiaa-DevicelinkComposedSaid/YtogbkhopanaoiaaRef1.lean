/- Colours of the reference space: Check, Square, Distance. -/
import Derived.Test.YtogbkhopanaoiaaNum
import Derived.Test.YtogbkhopanaoiaaXDevicelinkComposed0
import Derived.Test.YtogbkhopanaoiaaGo
namespace Go.Proofs.Ytogbkhopanaoiaa
open Go Go.Lite
set_option linter.unusedVariables false
set_option linter.unusedSimpArgs false
set_option maxRecDepth 100000
set_option maxHeartbeats 4000000
-- @simp rdi

def labOk (l a b : Int) : Prop := 0 ≤ l ∧ l ≤ 10000 ∧ -12800 ≤ a ∧ a ≤ 12800 ∧ -12800 ≤ b ∧ b ≤ 12800
instance (l a b : Int) : Decidable (labOk l a b) := by unfold labOk; infer_instance
def labE (l a b : Int) : Int := if labOk l a b then 0 else 3
end Go.Proofs.Ytogbkhopanaoiaa
