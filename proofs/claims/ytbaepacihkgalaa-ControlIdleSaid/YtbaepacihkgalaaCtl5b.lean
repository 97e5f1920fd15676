/- Controllers: a press is run under a controller: 6 to 7 units. -/
import Derived.Test.YtbaepacihkgalaaCtl5a
namespace Go.Proofs.Ytbaepacihkgalaa
open Go Go.Lite
set_option linter.unusedVariables false
set_option linter.unusedSimpArgs false
set_option maxRecDepth 100000
set_option maxHeartbeats 100000000

theorem loop_c_6 : loop_c_P 6 := loop_c_A
theorem loop_c_7 : loop_c_P 7 := loop_c_A
end Go.Proofs.Ytbaepacihkgalaa
