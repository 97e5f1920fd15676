/- Limits of ink: Sum, Quick, Limit, Total. -/
import Derived.Test.YtogbkhopanaoiaaInk
import Derived.Test.YtogbkhopanaoiaaCurve3
import Derived.Test.YtogbkhopanaoiaaXDevicelinkDistances1
namespace Go.Proofs.Ytogbkhopanaoiaa
open Go Go.Lite
set_option linter.unusedVariables false
set_option linter.unusedSimpArgs false
set_option maxRecDepth 100000
set_option maxHeartbeats 4000000
-- @simp rdi
-- @long (facts with variables of their own)

end Go.Proofs.Ytogbkhopanaoiaa
