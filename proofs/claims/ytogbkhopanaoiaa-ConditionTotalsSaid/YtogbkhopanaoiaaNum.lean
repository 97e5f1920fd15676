/- Numbers: the greatest number with a property, squares, bits. -/
import Derived.Test.YtogbkhopanaoiaaLiteTP
namespace Go.Proofs.Ytogbkhopanaoiaa
open Go Go.Lite
set_option linter.unusedVariables false
set_option linter.unusedSimpArgs false
set_option maxRecDepth 100000
set_option maxHeartbeats 4000000

/-- The greatest number up to n with a property, or 0. -/
def most (p : Nat → Bool) : Nat → Nat
  | 0 => 0
  | k + 1 => if p (k + 1) then k + 1 else most p k
/-- The root of n, rounded down. -/
def rt (n : Int) : Int := (most (fun r => decide ((r : Int) * r ≤ n)) 1048575 : Nat)
end Go.Proofs.Ytogbkhopanaoiaa
