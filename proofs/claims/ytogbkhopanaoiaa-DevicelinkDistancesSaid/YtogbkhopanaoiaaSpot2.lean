/- Libraries of spot inks: Check, Quick, Expand. -/
import Derived.Test.YtogbkhopanaoiaaSpot1
import Derived.Test.YtogbkhopanaoiaaGo
namespace Go.Proofs.Ytogbkhopanaoiaa
open Go Go.Lite
set_option linter.unusedVariables false
set_option linter.unusedSimpArgs false
set_option maxRecDepth 100000
set_option maxHeartbeats 4000000
-- @simp rdi rd2i

abbrev dS : Sp := R.d Es6iL2iJLiJ
abbrev dB : ByteArray := R.d Es
noncomputable def spEs (s : Sp) : Int := spE s.1 s.2.1 s.2.2.1 s.2.2.2.1 s.2.2.2.2.1 s.2.2.2.2.2.1 s.2.2.2.2.2.2.1 s.2.2.2.2.2.2.2.1 s.2.2.2.2.2.2.2.2
def libOk (l : List Sp) : Prop := l.length ≤ 40 ∧ ∀ i, i < l.length → spEs (l.getD i dS) = 0 ∧ ∀ j, j < i → (l.getD j dS).1 ≠ (l.getD i dS).1
/-- Where a name stands. -/
def at1 (l : List Sp) (n : ByteArray) : Nat := l.findIdx fun s => decide (s.1 = n)
structure ExpOk (l : List Sp) (pr : List Int) (ns : List ByteArray) (ts : List Int) : Prop where
  lib : libOk l
  p8 : pr.length ≤ 8
  n8 : ns.length ≤ 8
  pt : inTone pr
  tt : inTone ts
  tn : ts.length = ns.length
  ink : ∀ k, k < ns.length → at1 l (ns.getD k dB) < l.length ∧ (l.getD (at1 l (ns.getD k dB)) dS).2.2.2.2.2.2.2.2.length = pr.length
end Go.Proofs.Ytogbkhopanaoiaa
