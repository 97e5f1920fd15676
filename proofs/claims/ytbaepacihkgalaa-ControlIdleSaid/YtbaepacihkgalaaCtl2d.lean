/- Controllers: a record is read: 7 units, the first four. -/
import Derived.Test.YtbaepacihkgalaaCtl2a
namespace Go.Proofs.Ytbaepacihkgalaa
open Go Go.Lite
set_option linter.unusedVariables false
set_option linter.unusedSimpArgs false
set_option maxRecDepth 100000
set_option maxHeartbeats 100000000

noncomputable def cfeed_c_7G : (G : Prop) ×' (HideP G → cfeed_c_P 7) := ⟨_, cfeed_c_A (K := 4)⟩
end Go.Proofs.Ytbaepacihkgalaa
