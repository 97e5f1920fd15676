/- Matrix codes: Encode. -/
import Derived.Test.YthkilkjngincpaaMtx1
import Derived.Test.YthkilkjngincpaaRs4
import Derived.Test.YthkilkjngincpaaBits2
import Derived.Test.YthkilkjngincpaaGo
namespace Go.Proofs.Ythkilkjngincpaa
open Go Go.Lite
set_option linter.unusedVariables false
set_option linter.unusedSimpArgs false
set_option maxRecDepth 100000
set_option maxHeartbeats 4000000
-- @simp rdi rdy

end Go.Proofs.Ythkilkjngincpaa
