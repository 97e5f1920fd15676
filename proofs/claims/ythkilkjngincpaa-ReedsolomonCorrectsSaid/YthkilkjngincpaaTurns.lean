/- Bitmaps: turns (as in Bits4, where there is no growth). -/
import Derived.Test.YthkilkjngincpaaBits2
import Derived.Test.YthkilkjngincpaaGo
namespace Go.Proofs.Ythkilkjngincpaa
open Go Go.Lite
set_option linter.unusedVariables false
set_option linter.unusedSimpArgs false
set_option maxRecDepth 100000
set_option maxHeartbeats 4000000
-- @macs Bits4
-- @simp rdi rdy

/-! ### Turns -/
end Go.Proofs.Ythkilkjngincpaa
