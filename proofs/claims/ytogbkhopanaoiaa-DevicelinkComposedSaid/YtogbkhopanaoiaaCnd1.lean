/- Conditions: names, distinct numbers, libraries, tables are checked. -/
import Derived.Test.YtogbkhopanaoiaaFst
import Derived.Test.YtogbkhopanaoiaaSpot2
import Derived.Test.YtogbkhopanaoiaaGrid3
import Derived.Test.YtogbkhopanaoiaaXDevicelinkComposed0
import Derived.Test.YtogbkhopanaoiaaXDevicelinkComposed1
import Derived.Test.YtogbkhopanaoiaaGo
namespace Go.Proofs.Ytogbkhopanaoiaa
open Go Go.Lite
set_option linter.unusedVariables false
set_option linter.unusedSimpArgs false
set_option maxRecDepth 100000
set_option maxHeartbeats 4000000
-- @simp rdi rd2i

noncomputable def nmE (l : List ByteArray) (i : Nat) : Int := if isName (l.getD i dB) = true then (@ite _ (∃ j, j < i ∧ l.getD j dB = l.getD i dB) (Classical.propDecidable _) 7 0) else 6
noncomputable def namesE (l : List ByteArray) : Int := fstE (nmE l) l.length
end Go.Proofs.Ytogbkhopanaoiaa
