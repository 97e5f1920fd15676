/- Links: Convert with its error. -/
import Derived.Test.YtkapjajlkpepmaaDlk3
import Derived.Test.YtkapjajlkpepmaaRInts
import Derived.Test.YtkapjajlkpepmaaRRound
import Derived.Test.YtkapjajlkpepmaaGo
namespace Go.Proofs.Ytkapjajlkpepmaa
open Go Go.Lite
set_option linter.unusedVariables false
set_option linter.unusedSimpArgs false
set_option maxRecDepth 100000
set_option maxHeartbeats 4000000
-- @simp rdi rd2i

end Go.Proofs.Ytkapjajlkpepmaa
