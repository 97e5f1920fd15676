/- Presses: a sheet is fed: 8 units. -/
import Derived.Test.YtbaepacihkgalaaPrsBa
namespace Go.Proofs.Ytbaepacihkgalaa
open Go Go.Lite
set_option linter.unusedVariables false
set_option linter.unusedSimpArgs false
set_option maxRecDepth 100000
set_option maxHeartbeats 100000000

theorem feed_c_8 : feed_c_P 8 := feed_c_A
end Go.Proofs.Ytbaepacihkgalaa
