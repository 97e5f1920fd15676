/- The reference's bitmap of given pixels. -/
import Derived.Test.YtjedljdfkoagbaaBits2
import Derived.Test.YtjedljdfkoagbaaXBilevelDamage0
import Derived.Test.YtjedljdfkoagbaaGo
namespace Go.Proofs.Ytjedljdfkoagbaa
open Go Go.Lite
set_option linter.unusedVariables false
set_option linter.unusedSimpArgs false
set_option maxRecDepth 100000
set_option maxHeartbeats 4000000
-- @simp rdi rdy rdo

end Go.Proofs.Ytjedljdfkoagbaa
