/- Conditions: names, distinct numbers, libraries, tables are checked. -/
import Derived.Test.YtogbkhopanaoiaaNames
import Derived.Test.YtogbkhopanaoiaaSpot2
import Derived.Test.YtogbkhopanaoiaaGrid3
import Derived.Test.YtogbkhopanaoiaaXConditionTotals0
namespace Go.Proofs.Ytogbkhopanaoiaa
open Go Go.Lite
set_option linter.unusedVariables false
set_option linter.unusedSimpArgs false
set_option maxRecDepth 100000
set_option maxHeartbeats 4000000
-- @simp rdi rd2i
end Go.Proofs.Ytogbkhopanaoiaa
