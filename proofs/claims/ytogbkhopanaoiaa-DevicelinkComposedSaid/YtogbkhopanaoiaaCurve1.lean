import Derived.Test.YtogbkhopanaoiaaNear
import Derived.Test.YtogbkhopanaoiaaXDevicelinkComposed0
import Derived.Test.YtogbkhopanaoiaaGo
namespace Go.Proofs.Ytogbkhopanaoiaa
open Go Go.Lite
set_option linter.unusedVariables false
set_option linter.unusedSimpArgs false
set_option maxRecDepth 100000
set_option maxHeartbeats 4000000

-- @simp rd2i


/-- What Check says from point i on. -/
def scan (c : List (Int × Int)) (i : Nat) : Int :=
  if h : i < c.length then
    if (c.getD i (0, 0)).1 < 0 ∨ 65280 < (c.getD i (0, 0)).1 ∨ (c.getD i (0, 0)).2 < 0 ∨ 65280 < (c.getD i (0, 0)).2 then 3
    else if 0 < i ∧ ((c.getD i (0, 0)).1 ≤ (c.getD (i - 1) (0, 0)).1 ∨ (c.getD i (0, 0)).2 < (c.getD (i - 1) (0, 0)).2) then 18
    else scan c (i + 1)
  else if (c.getD 0 (0, 0)).1 ≠ 0 ∨ (c.getD (c.length - 1) (0, 0)).1 ≠ 65280 then 4 else 0
  termination_by c.length - i
def check (c : List (Int × Int)) : Int := if 33 < c.length then 2 else if c.length < 2 then 1 else scan c 0

/-- What Check answers 0 to. -/
structure Valid (c : List (Int × Int)) : Prop where
  len : 2 ≤ c.length ∧ c.length ≤ 33
  rg : ∀ i, i < c.length → 0 ≤ (c.getD i (0, 0)).1 ∧ (c.getD i (0, 0)).1 ≤ 65280 ∧ 0 ≤ (c.getD i (0, 0)).2 ∧ (c.getD i (0, 0)).2 ≤ 65280
  ord : ∀ i, i + 1 < c.length → (c.getD i (0, 0)).1 < (c.getD (i + 1) (0, 0)).1 ∧ (c.getD i (0, 0)).2 ≤ (c.getD (i + 1) (0, 0)).2
  first : (c.getD 0 (0, 0)).1 = 0
  last : (c.getD (c.length - 1) (0, 0)).1 = 65280

end Go.Proofs.Ytogbkhopanaoiaa
