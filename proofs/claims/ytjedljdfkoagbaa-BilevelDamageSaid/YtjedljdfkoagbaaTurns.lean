/- Bitmaps: turns (as in Bits4, where there is no growth). -/
import Derived.Test.YtjedljdfkoagbaaBits2
import Derived.Test.YtjedljdfkoagbaaGo
namespace Go.Proofs.Ytjedljdfkoagbaa
open Go Go.Lite
set_option linter.unusedVariables false
set_option linter.unusedSimpArgs false
set_option maxRecDepth 100000
set_option maxHeartbeats 4000000
-- @macs Bits4
-- @simp rdi rdy

/-! ### Turns -/
end Go.Proofs.Ytjedljdfkoagbaa
