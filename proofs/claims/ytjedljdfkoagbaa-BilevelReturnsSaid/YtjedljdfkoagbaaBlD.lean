/- Compressed bitmaps: whatever the bytes are, they decode to some rows (plain). -/
import Derived.Test.YtjedljdfkoagbaaBl5
namespace Go.Proofs.Ytjedljdfkoagbaa
open Go Go.Lite
set_option linter.unusedVariables false
set_option linter.unusedSimpArgs false
set_option maxRecDepth 100000
set_option maxHeartbeats 4000000

end Go.Proofs.Ytjedljdfkoagbaa
