/- One or nothing. -/
import Derived.Test.YtagfanbodglplaaSheet3
namespace Go.Proofs.Ytagfanbodglplaa
open Go Go.Lite
set_option linter.unusedVariables false
set_option linter.unusedSimpArgs false
set_option maxRecDepth 100000
set_option maxHeartbeats 4000000

def one (b : Bool) : Int := if b then 1 else 0
end Go.Proofs.Ytagfanbodglplaa
