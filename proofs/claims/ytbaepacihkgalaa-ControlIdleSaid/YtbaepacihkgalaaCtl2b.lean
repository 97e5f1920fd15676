/- Controllers: a record is read: 5 and 6 units. -/
import Derived.Test.YtbaepacihkgalaaCtl2a
namespace Go.Proofs.Ytbaepacihkgalaa
open Go Go.Lite
set_option linter.unusedVariables false
set_option linter.unusedSimpArgs false
set_option maxRecDepth 100000
set_option maxHeartbeats 100000000

theorem cfeed_c_5 : cfeed_c_P 5 := (cfeed_c_A (G := True) (K := 9) : HideP True → cfeed_c_P 5) ⟨trivial⟩
theorem cfeed_c_6 : cfeed_c_P 6 := (cfeed_c_A (G := True) (K := 9) : HideP True → cfeed_c_P 6) ⟨trivial⟩
end Go.Proofs.Ytbaepacihkgalaa
