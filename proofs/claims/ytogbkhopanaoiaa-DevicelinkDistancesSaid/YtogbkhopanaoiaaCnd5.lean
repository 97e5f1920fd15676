/- Conditions: tones within the total, tables applied. -/
import Derived.Test.YtogbkhopanaoiaaCnd4
import Derived.Test.YtogbkhopanaoiaaGo
namespace Go.Proofs.Ytogbkhopanaoiaa
open Go Go.Lite
set_option linter.unusedVariables false
set_option linter.unusedSimpArgs false
set_option maxRecDepth 100000
set_option maxHeartbeats 4000000
-- @simp rdi rd2i rdy

def blk (c : Cnd) : Int := if c.pr.length = 4 then c.pr.getD 3 0 else -1
end Go.Proofs.Ytogbkhopanaoiaa
