/- Links are applied. -/
import Derived.Test.YtogbkhopanaoiaaCnd3
import Derived.Test.YtogbkhopanaoiaaInk2
import Derived.Test.YtogbkhopanaoiaaNear
import Derived.Test.YtogbkhopanaoiaaCurve2
import Derived.Test.YtogbkhopanaoiaaGo
namespace Go.Proofs.Ytogbkhopanaoiaa
open Go Go.Lite
set_option linter.unusedVariables false
set_option linter.unusedSimpArgs false
set_option maxRecDepth 100000
set_option maxHeartbeats 4000000
-- @simp rdi rd2i

end Go.Proofs.Ytogbkhopanaoiaa
