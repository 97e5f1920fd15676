/- Marks of register: Locate. -/
import Derived.Test.YthkilkjngincpaaBits1
import Derived.Test.YthkilkjngincpaaXStripDrawn0
import Derived.Test.YthkilkjngincpaaGo
namespace Go.Proofs.Ythkilkjngincpaa
open Go Go.Lite
set_option linter.unusedVariables false
set_option linter.unusedSimpArgs false
set_option maxRecDepth 100000
set_option maxHeartbeats 4000000
-- @simp rdi rdy

end Go.Proofs.Ythkilkjngincpaa
