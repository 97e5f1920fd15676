/- Printed by program (gen.lean): code in few words; the kernel checks it against the translation. -/
import Derived.Test.YtbfflfinhigfeaaXLinearScanned0
namespace Go.Proofs.Ytbfflfinhigfeaa
open Go Go.Lite
set_option linter.unusedVariables false

end Go.Proofs.Ytbfflfinhigfeaa
