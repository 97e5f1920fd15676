/- Bitmaps: Count. -/
import Derived.Test.YtanhalcbghbpaaaBits2
import Derived.Test.YtanhalcbghbpaaaXStripRegisters0
namespace Go.Proofs.Ytanhalcbghbpaaa
open Go Go.Lite
set_option linter.unusedVariables false
set_option linter.unusedSimpArgs false
set_option maxRecDepth 100000
set_option maxHeartbeats 4000000
-- @simp rdi rdy

def one (b : Bool) : Int := if b then 1 else 0
end Go.Proofs.Ytanhalcbghbpaaa
