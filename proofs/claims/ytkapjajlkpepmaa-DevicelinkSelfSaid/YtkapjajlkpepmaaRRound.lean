/- Round of the reference. -/
import Derived.Test.YtkapjajlkpepmaaRMod
import Derived.Test.YtkapjajlkpepmaaGrid3
import Derived.Test.YtkapjajlkpepmaaGo
namespace Go.Proofs.Ytkapjajlkpepmaa
open Go Go.Lite
set_option linter.unusedVariables false
set_option linter.unusedSimpArgs false
set_option maxRecDepth 100000
set_option maxHeartbeats 4000000

end Go.Proofs.Ytkapjajlkpepmaa
