/- Grids: interpolation is the sum of nodes. -/
import Derived.Test.YtogbkhopanaoiaaGrid1
namespace Go.Proofs.Ytogbkhopanaoiaa
open Go Go.Lite
set_option linter.unusedVariables false
set_option linter.unusedSimpArgs false
set_option maxRecDepth 100000
set_option maxHeartbeats 4000000
-- @simp rdi
-- @long (the short form fails: metavariables in the frames)

def t4 (f : Nat → Int) : List Int := tab 4 f
end Go.Proofs.Ytogbkhopanaoiaa
