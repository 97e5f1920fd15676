/-
  No cell of these rows narrows 'for every input' (looked for: loops, veiled, ifaces, maps, wideKeys, modest, calm, conditions, laid).
  DERIVED. THE GIVEN ROWS OF THIS SEAT. 3 by the template 'for every input the law returns true; each argument reads behind the call as it read before'; 0 by the template 'total and deterministic' (their statements: YtbfflfinhigfeaaTotals.lean).
  GIVEN WITH THE SEED: the statements are not yours to turn. If you find one false, say at which input.
  Laid BY PROGRAM, IN A SANDBOX (cutbox-rows.mjs): the forced cells as the released guide's own fill.sh prints them over the translation 8ac810aa2ef8e878… (all of the seat's roots in one cut). By AI agents, Wed Nov 11 2026. No macro, syntax, notation, axiom, sorry.
-/
import Derived.Test.YtbfflfinhigfeaaChecked
import GoSem.Claim
import GoSem.ClaimJoined
import GoSem.ClaimMapViews
import Derived.JoinedTies
import Derived.KernelRfl
namespace Go.Proofs.Ytbfflfinhigfeaa
/- THE CELL 'sum', in the pinned program and in every row, IS THE sha256 OF THE DUMP (.gsa) THAT YtbfflfinhigfeaaProg.lean LOADS. Nothing in Lean hashes anything: it is a label: what it is worth is what the hold of that sum in a sandbox is worth. -/
noncomputable def Try.pinned : Pinned := { name := "ytbfflfinhigfeaa", sum := "8ac810aa2ef8e878e8afff72cea0714cfc430fba7080c3e24cf97ed02544ac5e", checked := Try.checked }
namespace Rows
def none {H : Type} : Left H := { results := [], args := [] }

/-- 'printworkskeep2.LinearReturns': WHATEVER THE INPUT: true; the input reads as it did. -/
def linearReturnsSpec : ChangeSpec := { name := "linearReturns", fn := fun _ => fun
  | [d1, d2, d3, d4] => { results := [.lit (.bool true)], args := [d1, d2, d3, d4] }
  | _ => none }
def linearReturnsRow : OpenClaim := { program := "ytbfflfinhigfeaa", sum := "8ac810aa2ef8e878e8afff72cea0714cfc430fba7080c3e24cf97ed02544ac5e", func := "printworks/printworkskeep2.LinearReturns", spec := "linearReturns", unfollowed := true, recurses := true, apart := false }
def LinearReturnsSaid : Prop := linearReturnsRow.holds Try.pinned (OpenSpec.ofChange linearReturnsSpec)

/-- ITS FALSE NEIGHBOUR: 'it returns false'. Refute it at one input. -/
def linearReturnsWrong : ChangeSpec := { name := "linearReturns", fn := fun _ => fun
  | [d1, d2, d3, d4] => { results := [.lit (.bool false)], args := [d1, d2, d3, d4] }
  | _ => none }
def LinearReturnsWrongFalsely : Prop := linearReturnsRow.holds Try.pinned (OpenSpec.ofChange linearReturnsWrong)

/-- 'printworkskeep2.LinearSubstitutions': WHATEVER THE INPUT: true; the input reads as it did. -/
def linearSubstitutionsSpec : ChangeSpec := { name := "linearSubstitutions", fn := fun _ => fun
  | [d1, d2, d3] => { results := [.lit (.bool true)], args := [d1, d2, d3] }
  | _ => none }
def linearSubstitutionsRow : OpenClaim := { program := "ytbfflfinhigfeaa", sum := "8ac810aa2ef8e878e8afff72cea0714cfc430fba7080c3e24cf97ed02544ac5e", func := "printworks/printworkskeep2.LinearSubstitutions", spec := "linearSubstitutions", unfollowed := true, recurses := true, apart := false }
def LinearSubstitutionsSaid : Prop := linearSubstitutionsRow.holds Try.pinned (OpenSpec.ofChange linearSubstitutionsSpec)

/-- ITS FALSE NEIGHBOUR: 'it returns false'. Refute it at one input. -/
def linearSubstitutionsWrong : ChangeSpec := { name := "linearSubstitutions", fn := fun _ => fun
  | [d1, d2, d3] => { results := [.lit (.bool false)], args := [d1, d2, d3] }
  | _ => none }
def LinearSubstitutionsWrongFalsely : Prop := linearSubstitutionsRow.holds Try.pinned (OpenSpec.ofChange linearSubstitutionsWrong)

/-- 'printworkskeep2.LinearScanned': WHATEVER THE INPUT: true; the input reads as it did. -/
def linearScannedSpec : ChangeSpec := { name := "linearScanned", fn := fun _ => fun
  | [d1, d2, d3, d4] => { results := [.lit (.bool true)], args := [d1, d2, d3, d4] }
  | _ => none }
def linearScannedRow : OpenClaim := { program := "ytbfflfinhigfeaa", sum := "8ac810aa2ef8e878e8afff72cea0714cfc430fba7080c3e24cf97ed02544ac5e", func := "printworks/printworkskeep2.LinearScanned", spec := "linearScanned", unfollowed := true, recurses := true, apart := false }
def LinearScannedSaid : Prop := linearScannedRow.holds Try.pinned (OpenSpec.ofChange linearScannedSpec)

/-- ITS FALSE NEIGHBOUR: 'it returns false'. Refute it at one input. -/
def linearScannedWrong : ChangeSpec := { name := "linearScanned", fn := fun _ => fun
  | [d1, d2, d3, d4] => { results := [.lit (.bool false)], args := [d1, d2, d3, d4] }
  | _ => none }
def LinearScannedWrongFalsely : Prop := linearScannedRow.holds Try.pinned (OpenSpec.ofChange linearScannedWrong)

/- THE SECOND FORM. 'bulk': how many values and letters a reading holds, each counted each time it is reached (what is shared counts as often as it is met; a slice's spare places count too). A statement '..UptoSaid' is the law's where the arguments, and the package variables that the reading takes, are together of bulk at most 1048576: NARROWER than '..Said'. Prove '..Said' where nothing that the law and all that it calls make is longer than what came in: it says more and counts as full. Else prove '..UptoSaid'. A law counts once. -/
mutual
def uptoBulk {H : Type} : DataW H → Nat
  | .lit (.string bytes) => bytes.length + 1
  | .lit _ => 1
  | .nil => 1
  | .ptr d => uptoBulk d + 1
  | .slice elems spare => uptoBulkAll elems + uptoBulkAll spare + 1
  | .agg parts => uptoBulkAll parts + 1
  | .iface _ d => uptoBulk d + 1
  | .map entries => uptoBulkEntries entries + 1
  | .held _ => 1
def uptoBulkAll {H : Type} : List (DataW H) → Nat
  | [] => 0
  | d :: r => uptoBulk d + uptoBulkAll r
def uptoBulkEntries {H : Type} : List (Lit × DataW H) → Nat
  | [] => 0
  | x :: r => uptoBulkEntry x + uptoBulkEntries r
def uptoBulkEntry {H : Type} : Lit × DataW H → Nat
  | (.string bytes, d) => bytes.length + uptoBulk d + 1
  | (_, d) => uptoBulk d + 1
 end
def uptoSmall : (H : Type) → List (DataW H) → Bool := fun _ ds => decide (uptoBulkAll ds ≤ 1048576)
def OpenSpec.upto (s : _root_.Go.ChangeSpec) : _root_.Go.OpenSpec := { _root_.Go.OpenSpec.ofChange s with cond := some uptoSmall }

/-- 'printworkskeep2.LinearReturns', WHERE WHAT IT READS IS OF BULK AT MOST 1048576: true; the input reads as it did. -/
def linearReturnsUptoRow : OpenClaim := { program := "ytbfflfinhigfeaa", sum := "8ac810aa2ef8e878e8afff72cea0714cfc430fba7080c3e24cf97ed02544ac5e", func := "printworks/printworkskeep2.LinearReturns", spec := "linearReturns", unfollowed := true, recurses := true, apart := false, narrowed := true }
def LinearReturnsUptoSaid : Prop := linearReturnsUptoRow.holds Try.pinned (OpenSpec.upto linearReturnsSpec)

/-- 'printworkskeep2.LinearSubstitutions', WHERE WHAT IT READS IS OF BULK AT MOST 1048576: true; the input reads as it did. -/
def linearSubstitutionsUptoRow : OpenClaim := { program := "ytbfflfinhigfeaa", sum := "8ac810aa2ef8e878e8afff72cea0714cfc430fba7080c3e24cf97ed02544ac5e", func := "printworks/printworkskeep2.LinearSubstitutions", spec := "linearSubstitutions", unfollowed := true, recurses := true, apart := false, narrowed := true }
def LinearSubstitutionsUptoSaid : Prop := linearSubstitutionsUptoRow.holds Try.pinned (OpenSpec.upto linearSubstitutionsSpec)

/-- 'printworkskeep2.LinearScanned', WHERE WHAT IT READS IS OF BULK AT MOST 1048576: true; the input reads as it did. -/
def linearScannedUptoRow : OpenClaim := { program := "ytbfflfinhigfeaa", sum := "8ac810aa2ef8e878e8afff72cea0714cfc430fba7080c3e24cf97ed02544ac5e", func := "printworks/printworkskeep2.LinearScanned", spec := "linearScanned", unfollowed := true, recurses := true, apart := false, narrowed := true }
def LinearScannedUptoSaid : Prop := linearScannedUptoRow.holds Try.pinned (OpenSpec.upto linearScannedSpec)

end Rows
end Go.Proofs.Ytbfflfinhigfeaa
