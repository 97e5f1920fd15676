/- Bitmaps from plates. -/
import Derived.Test.YtcehapmkhlmgdaaBits2
import Derived.Test.YtcehapmkhlmgdaaXHalftoneTone0
import Derived.Test.YtcehapmkhlmgdaaGo
namespace Go.Proofs.Ytcehapmkhlmgdaa
open Go Go.Lite
set_option linter.unusedVariables false
set_option linter.unusedSimpArgs false
set_option maxRecDepth 100000
set_option maxHeartbeats 4000000
-- @simp rdi rdy

end Go.Proofs.Ytcehapmkhlmgdaa
