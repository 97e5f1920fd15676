/- Controllers: a record is read: 8 units, the others. -/
import Derived.Test.YtbaepacihkgalaaCtl2e
namespace Go.Proofs.Ytbaepacihkgalaa
open Go Go.Lite
set_option linter.unusedVariables false
set_option linter.unusedSimpArgs false
set_option maxRecDepth 100000
set_option maxHeartbeats 100000000

theorem cfeed_c_8H : cfeed_c_8G.1 := by
  unfold cfeed_c_8G
  dsimp only
  intro S c st dr sh fm hn oZ on oci ocr hp hz hF hG w ofl osl ok ck so kl tl ll ehp ehz ehF ehG hw _ _ i _ hi h8k
  exact cfeed_c_R
theorem cfeed_c_8 : cfeed_c_P 8 := cfeed_c_8G.2 ⟨cfeed_c_8H⟩
end Go.Proofs.Ytbaepacihkgalaa
