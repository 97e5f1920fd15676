/- Expand: tints of spot inks on process inks. -/
import Derived.Test.YtogbkhopanaoiaaSpot2
import Derived.Test.YtogbkhopanaoiaaGo
namespace Go.Proofs.Ytogbkhopanaoiaa
open Go Go.Lite
set_option linter.unusedVariables false
set_option linter.unusedSimpArgs false
set_option maxRecDepth 100000
set_option maxHeartbeats 4000000
-- @simp rdi rd2i

end Go.Proofs.Ytogbkhopanaoiaa
