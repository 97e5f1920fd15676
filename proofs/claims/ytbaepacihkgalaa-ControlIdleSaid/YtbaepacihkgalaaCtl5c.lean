/- Controllers: a press is run under a controller: 8 to 8 units. -/
import Derived.Test.YtbaepacihkgalaaCtl5a
namespace Go.Proofs.Ytbaepacihkgalaa
open Go Go.Lite
set_option linter.unusedVariables false
set_option linter.unusedSimpArgs false
set_option maxRecDepth 100000
set_option maxHeartbeats 100000000

theorem loop_c_8 : loop_c_P 8 := loop_c_A
end Go.Proofs.Ytbaepacihkgalaa
