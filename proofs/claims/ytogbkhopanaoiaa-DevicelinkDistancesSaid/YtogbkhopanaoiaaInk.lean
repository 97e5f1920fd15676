/- Limits of ink: plain laws. -/
import Derived.Test.YtogbkhopanaoiaaCurve1
import Derived.Test.YtogbkhopanaoiaaTones
namespace Go.Proofs.Ytogbkhopanaoiaa
open Go Go.Lite
set_option linter.unusedVariables false
set_option linter.unusedSimpArgs false
set_option maxRecDepth 100000
set_option maxHeartbeats 4000000
-- @simp rdi

structure InkOk (t : List Int) (b T : Int) : Prop where
  tone : inTone t
  black : -1 ≤ b ∧ b < t.length
  total : 0 ≤ T ∧ T ≤ 2040

end Go.Proofs.Ytogbkhopanaoiaa
