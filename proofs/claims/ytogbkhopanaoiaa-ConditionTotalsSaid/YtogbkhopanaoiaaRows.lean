/-
  No cell of these rows narrows 'for every input' (looked for: loops, veiled, ifaces, maps, wideKeys, modest, calm, conditions, laid).
  DERIVED. THE GIVEN ROWS OF THIS SEAT. 7 by the template 'for every input the law returns true; each argument reads behind the call as it read before'; 0 by the template 'total and deterministic' (their statements: YtogbkhopanaoiaaTotals.lean).
  GIVEN WITH THE SEED: the statements are not yours to turn. If you find one false, say at which input.
  Laid BY PROGRAM, IN A SANDBOX (cutbox-rows.mjs): the forced cells as the released guide's own fill.sh prints them over the translation 51835cc9e9a5172f… (all of the seat's roots in one cut). By AI agents, Wed Nov 11 2026. No macro, syntax, notation, axiom, sorry.
-/
import Derived.Test.YtogbkhopanaoiaaChecked
import GoSem.Claim
import GoSem.ClaimJoined
import GoSem.ClaimMapViews
import Derived.JoinedTies
import Derived.KernelRfl
namespace Go.Proofs.Ytogbkhopanaoiaa
/- THE CELL 'sum', in the pinned program and in every row, IS THE sha256 OF THE DUMP (.gsa) THAT YtogbkhopanaoiaaProg.lean LOADS. Nothing in Lean hashes anything: it is a label: what it is worth is what the hold of that sum in a sandbox is worth. -/
noncomputable def Try.pinned : Pinned := { name := "ytogbkhopanaoiaa", sum := "51835cc9e9a5172f0c7332ff25dc80c955e21adfc6c5d07e3247e2c0ff5b2a4e", checked := Try.checked }
namespace Rows
def none {H : Type} : Left H := { results := [], args := [] }

/-- 'printworkskeep2.ConditionTotals': WHATEVER THE INPUT: true; the input reads as it did. -/
def conditionTotalsSpec : ChangeSpec := { name := "conditionTotals", fn := fun _ => fun
  | [d1, d2, d3] => { results := [.lit (.bool true)], args := [d1, d2, d3] }
  | _ => none }
def conditionTotalsRow : OpenClaim := { program := "ytogbkhopanaoiaa", sum := "51835cc9e9a5172f0c7332ff25dc80c955e21adfc6c5d07e3247e2c0ff5b2a4e", func := "printworks/printworkskeep2.ConditionTotals", spec := "conditionTotals", apart := false }
def ConditionTotalsSaid : Prop := conditionTotalsRow.holds Try.pinned (OpenSpec.ofChange conditionTotalsSpec)

/-- ITS FALSE NEIGHBOUR: 'it returns false'. Refute it at one input. -/
def conditionTotalsWrong : ChangeSpec := { name := "conditionTotals", fn := fun _ => fun
  | [d1, d2, d3] => { results := [.lit (.bool false)], args := [d1, d2, d3] }
  | _ => none }
def ConditionTotalsWrongFalsely : Prop := conditionTotalsRow.holds Try.pinned (OpenSpec.ofChange conditionTotalsWrong)

/-- 'printworkskeep2.ConditionSpots': WHATEVER THE INPUT: true; the input reads as it did. -/
def conditionSpotsSpec : ChangeSpec := { name := "conditionSpots", fn := fun _ => fun
  | [d1, d2, d3] => { results := [.lit (.bool true)], args := [d1, d2, d3] }
  | _ => none }
def conditionSpotsRow : OpenClaim := { program := "ytogbkhopanaoiaa", sum := "51835cc9e9a5172f0c7332ff25dc80c955e21adfc6c5d07e3247e2c0ff5b2a4e", func := "printworks/printworkskeep2.ConditionSpots", spec := "conditionSpots", apart := false }
def ConditionSpotsSaid : Prop := conditionSpotsRow.holds Try.pinned (OpenSpec.ofChange conditionSpotsSpec)

/-- ITS FALSE NEIGHBOUR: 'it returns false'. Refute it at one input. -/
def conditionSpotsWrong : ChangeSpec := { name := "conditionSpots", fn := fun _ => fun
  | [d1, d2, d3] => { results := [.lit (.bool false)], args := [d1, d2, d3] }
  | _ => none }
def ConditionSpotsWrongFalsely : Prop := conditionSpotsRow.holds Try.pinned (OpenSpec.ofChange conditionSpotsWrong)

/-- 'printworkskeep2.ConditionComposed': WHATEVER THE INPUT: true; the input reads as it did. -/
def conditionComposedSpec : ChangeSpec := { name := "conditionComposed", fn := fun _ => fun
  | [d1, d2] => { results := [.lit (.bool true)], args := [d1, d2] }
  | _ => none }
def conditionComposedRow : OpenClaim := { program := "ytogbkhopanaoiaa", sum := "51835cc9e9a5172f0c7332ff25dc80c955e21adfc6c5d07e3247e2c0ff5b2a4e", func := "printworks/printworkskeep2.ConditionComposed", spec := "conditionComposed", apart := false }
def ConditionComposedSaid : Prop := conditionComposedRow.holds Try.pinned (OpenSpec.ofChange conditionComposedSpec)

/-- ITS FALSE NEIGHBOUR: 'it returns false'. Refute it at one input. -/
def conditionComposedWrong : ChangeSpec := { name := "conditionComposed", fn := fun _ => fun
  | [d1, d2] => { results := [.lit (.bool false)], args := [d1, d2] }
  | _ => none }
def ConditionComposedWrongFalsely : Prop := conditionComposedRow.holds Try.pinned (OpenSpec.ofChange conditionComposedWrong)

/-- 'printworkskeep2.DevicelinkComposed': WHATEVER THE INPUT: true; the input reads as it did. -/
def devicelinkComposedSpec : ChangeSpec := { name := "devicelinkComposed", fn := fun _ => fun
  | [d1, d2] => { results := [.lit (.bool true)], args := [d1, d2] }
  | _ => none }
def devicelinkComposedRow : OpenClaim := { program := "ytogbkhopanaoiaa", sum := "51835cc9e9a5172f0c7332ff25dc80c955e21adfc6c5d07e3247e2c0ff5b2a4e", func := "printworks/printworkskeep2.DevicelinkComposed", spec := "devicelinkComposed", unfollowed := true, recurses := true, apart := false }
def DevicelinkComposedSaid : Prop := devicelinkComposedRow.holds Try.pinned (OpenSpec.ofChange devicelinkComposedSpec)

/-- ITS FALSE NEIGHBOUR: 'it returns false'. Refute it at one input. -/
def devicelinkComposedWrong : ChangeSpec := { name := "devicelinkComposed", fn := fun _ => fun
  | [d1, d2] => { results := [.lit (.bool false)], args := [d1, d2] }
  | _ => none }
def DevicelinkComposedWrongFalsely : Prop := devicelinkComposedRow.holds Try.pinned (OpenSpec.ofChange devicelinkComposedWrong)

/-- 'printworkskeep2.DevicelinkDistances': WHATEVER THE INPUT: true; the input reads as it did. -/
def devicelinkDistancesSpec : ChangeSpec := { name := "devicelinkDistances", fn := fun _ => fun
  | [d1, d2, d3, d4] => { results := [.lit (.bool true)], args := [d1, d2, d3, d4] }
  | _ => none }
def devicelinkDistancesRow : OpenClaim := { program := "ytogbkhopanaoiaa", sum := "51835cc9e9a5172f0c7332ff25dc80c955e21adfc6c5d07e3247e2c0ff5b2a4e", func := "printworks/printworkskeep2.DevicelinkDistances", spec := "devicelinkDistances", unfollowed := true, recurses := true, apart := false }
def DevicelinkDistancesSaid : Prop := devicelinkDistancesRow.holds Try.pinned (OpenSpec.ofChange devicelinkDistancesSpec)

/-- ITS FALSE NEIGHBOUR: 'it returns false'. Refute it at one input. -/
def devicelinkDistancesWrong : ChangeSpec := { name := "devicelinkDistances", fn := fun _ => fun
  | [d1, d2, d3, d4] => { results := [.lit (.bool false)], args := [d1, d2, d3, d4] }
  | _ => none }
def DevicelinkDistancesWrongFalsely : Prop := devicelinkDistancesRow.holds Try.pinned (OpenSpec.ofChange devicelinkDistancesWrong)

/-- 'printworkskeep2.ProfileComposed': WHATEVER THE INPUT: true; the input reads as it did. -/
def profileComposedSpec : ChangeSpec := { name := "profileComposed", fn := fun _ => fun
  | [d1, d2] => { results := [.lit (.bool true)], args := [d1, d2] }
  | _ => none }
def profileComposedRow : OpenClaim := { program := "ytogbkhopanaoiaa", sum := "51835cc9e9a5172f0c7332ff25dc80c955e21adfc6c5d07e3247e2c0ff5b2a4e", func := "printworks/printworkskeep2.ProfileComposed", spec := "profileComposed", apart := false }
def ProfileComposedSaid : Prop := profileComposedRow.holds Try.pinned (OpenSpec.ofChange profileComposedSpec)

/-- ITS FALSE NEIGHBOUR: 'it returns false'. Refute it at one input. -/
def profileComposedWrong : ChangeSpec := { name := "profileComposed", fn := fun _ => fun
  | [d1, d2] => { results := [.lit (.bool false)], args := [d1, d2] }
  | _ => none }
def ProfileComposedWrongFalsely : Prop := profileComposedRow.holds Try.pinned (OpenSpec.ofChange profileComposedWrong)

/-- 'printworkskeep2.ProfileReturns': WHATEVER THE INPUT: true; the input reads as it did. -/
def profileReturnsSpec : ChangeSpec := { name := "profileReturns", fn := fun _ => fun
  | [d1, d2, d3] => { results := [.lit (.bool true)], args := [d1, d2, d3] }
  | _ => none }
def profileReturnsRow : OpenClaim := { program := "ytogbkhopanaoiaa", sum := "51835cc9e9a5172f0c7332ff25dc80c955e21adfc6c5d07e3247e2c0ff5b2a4e", func := "printworks/printworkskeep2.ProfileReturns", spec := "profileReturns", unfollowed := true, recurses := true, apart := false }
def ProfileReturnsSaid : Prop := profileReturnsRow.holds Try.pinned (OpenSpec.ofChange profileReturnsSpec)

/-- ITS FALSE NEIGHBOUR: 'it returns false'. Refute it at one input. -/
def profileReturnsWrong : ChangeSpec := { name := "profileReturns", fn := fun _ => fun
  | [d1, d2, d3] => { results := [.lit (.bool false)], args := [d1, d2, d3] }
  | _ => none }
def ProfileReturnsWrongFalsely : Prop := profileReturnsRow.holds Try.pinned (OpenSpec.ofChange profileReturnsWrong)

/- THE SECOND FORM. 'bulk': how many values and letters a reading holds, each counted each time it is reached (what is shared counts as often as it is met; a slice's spare places count too). A statement '..UptoSaid' is the law's where the arguments, and the package variables that the reading takes, are together of bulk at most 1048576: NARROWER than '..Said'. Prove '..Said' where nothing that the law and all that it calls make is longer than what came in: it says more and counts as full. Else prove '..UptoSaid'. A law counts once. -/
mutual
def uptoBulk {H : Type} : DataW H → Nat
  | .lit (.string bytes) => bytes.length + 1
  | .lit _ => 1
  | .nil => 1
  | .ptr d => uptoBulk d + 1
  | .slice elems spare => uptoBulkAll elems + uptoBulkAll spare + 1
  | .agg parts => uptoBulkAll parts + 1
  | .iface _ d => uptoBulk d + 1
  | .map entries => uptoBulkEntries entries + 1
  | .held _ => 1
def uptoBulkAll {H : Type} : List (DataW H) → Nat
  | [] => 0
  | d :: r => uptoBulk d + uptoBulkAll r
def uptoBulkEntries {H : Type} : List (Lit × DataW H) → Nat
  | [] => 0
  | x :: r => uptoBulkEntry x + uptoBulkEntries r
def uptoBulkEntry {H : Type} : Lit × DataW H → Nat
  | (.string bytes, d) => bytes.length + uptoBulk d + 1
  | (_, d) => uptoBulk d + 1
 end
def uptoSmall : (H : Type) → List (DataW H) → Bool := fun _ ds => decide (uptoBulkAll ds ≤ 1048576)
def OpenSpec.upto (s : _root_.Go.ChangeSpec) : _root_.Go.OpenSpec := { _root_.Go.OpenSpec.ofChange s with cond := some uptoSmall }

/-- 'printworkskeep2.ConditionTotals', WHERE WHAT IT READS IS OF BULK AT MOST 1048576: true; the input reads as it did. -/
def conditionTotalsUptoRow : OpenClaim := { program := "ytogbkhopanaoiaa", sum := "51835cc9e9a5172f0c7332ff25dc80c955e21adfc6c5d07e3247e2c0ff5b2a4e", func := "printworks/printworkskeep2.ConditionTotals", spec := "conditionTotals", apart := false, narrowed := true }
def ConditionTotalsUptoSaid : Prop := conditionTotalsUptoRow.holds Try.pinned (OpenSpec.upto conditionTotalsSpec)

/-- 'printworkskeep2.ConditionSpots', WHERE WHAT IT READS IS OF BULK AT MOST 1048576: true; the input reads as it did. -/
def conditionSpotsUptoRow : OpenClaim := { program := "ytogbkhopanaoiaa", sum := "51835cc9e9a5172f0c7332ff25dc80c955e21adfc6c5d07e3247e2c0ff5b2a4e", func := "printworks/printworkskeep2.ConditionSpots", spec := "conditionSpots", apart := false, narrowed := true }
def ConditionSpotsUptoSaid : Prop := conditionSpotsUptoRow.holds Try.pinned (OpenSpec.upto conditionSpotsSpec)

/-- 'printworkskeep2.ConditionComposed', WHERE WHAT IT READS IS OF BULK AT MOST 1048576: true; the input reads as it did. -/
def conditionComposedUptoRow : OpenClaim := { program := "ytogbkhopanaoiaa", sum := "51835cc9e9a5172f0c7332ff25dc80c955e21adfc6c5d07e3247e2c0ff5b2a4e", func := "printworks/printworkskeep2.ConditionComposed", spec := "conditionComposed", apart := false, narrowed := true }
def ConditionComposedUptoSaid : Prop := conditionComposedUptoRow.holds Try.pinned (OpenSpec.upto conditionComposedSpec)

/-- 'printworkskeep2.DevicelinkComposed', WHERE WHAT IT READS IS OF BULK AT MOST 1048576: true; the input reads as it did. -/
def devicelinkComposedUptoRow : OpenClaim := { program := "ytogbkhopanaoiaa", sum := "51835cc9e9a5172f0c7332ff25dc80c955e21adfc6c5d07e3247e2c0ff5b2a4e", func := "printworks/printworkskeep2.DevicelinkComposed", spec := "devicelinkComposed", unfollowed := true, recurses := true, apart := false, narrowed := true }
def DevicelinkComposedUptoSaid : Prop := devicelinkComposedUptoRow.holds Try.pinned (OpenSpec.upto devicelinkComposedSpec)

/-- 'printworkskeep2.DevicelinkDistances', WHERE WHAT IT READS IS OF BULK AT MOST 1048576: true; the input reads as it did. -/
def devicelinkDistancesUptoRow : OpenClaim := { program := "ytogbkhopanaoiaa", sum := "51835cc9e9a5172f0c7332ff25dc80c955e21adfc6c5d07e3247e2c0ff5b2a4e", func := "printworks/printworkskeep2.DevicelinkDistances", spec := "devicelinkDistances", unfollowed := true, recurses := true, apart := false, narrowed := true }
def DevicelinkDistancesUptoSaid : Prop := devicelinkDistancesUptoRow.holds Try.pinned (OpenSpec.upto devicelinkDistancesSpec)

/-- 'printworkskeep2.ProfileComposed', WHERE WHAT IT READS IS OF BULK AT MOST 1048576: true; the input reads as it did. -/
def profileComposedUptoRow : OpenClaim := { program := "ytogbkhopanaoiaa", sum := "51835cc9e9a5172f0c7332ff25dc80c955e21adfc6c5d07e3247e2c0ff5b2a4e", func := "printworks/printworkskeep2.ProfileComposed", spec := "profileComposed", apart := false, narrowed := true }
def ProfileComposedUptoSaid : Prop := profileComposedUptoRow.holds Try.pinned (OpenSpec.upto profileComposedSpec)

/-- 'printworkskeep2.ProfileReturns', WHERE WHAT IT READS IS OF BULK AT MOST 1048576: true; the input reads as it did. -/
def profileReturnsUptoRow : OpenClaim := { program := "ytogbkhopanaoiaa", sum := "51835cc9e9a5172f0c7332ff25dc80c955e21adfc6c5d07e3247e2c0ff5b2a4e", func := "printworks/printworkskeep2.ProfileReturns", spec := "profileReturns", unfollowed := true, recurses := true, apart := false, narrowed := true }
def ProfileReturnsUptoSaid : Prop := profileReturnsUptoRow.holds Try.pinned (OpenSpec.upto profileReturnsSpec)

end Rows
end Go.Proofs.Ytogbkhopanaoiaa
