/- Presses: sheets are counted; runs that are refused. -/
import Derived.Test.YtbaepacihkgalaaPrsR
import Derived.Test.YtbaepacihkgalaaGo
namespace Go.Proofs.Ytbaepacihkgalaa
open Go Go.Lite
set_option linter.unusedVariables false
set_option linter.unusedSimpArgs false
set_option maxRecDepth 100000
set_option maxHeartbeats 4000000
-- @simp rdi rd6i rdLiJ

end Go.Proofs.Ytbaepacihkgalaa
