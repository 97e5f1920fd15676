/-
  No cell of these rows narrows 'for every input' (looked for: loops, veiled, ifaces, maps, wideKeys, modest, calm, conditions, laid).
  DERIVED. THE GIVEN ROWS OF THIS SEAT. 5 by the template 'for every input the law returns true; each argument reads behind the call as it read before'; 0 by the template 'total and deterministic' (their statements: YtcehapmkhlmgdaaTotals.lean).
  GIVEN WITH THE SEED: the statements are not yours to turn. If you find one false, say at which input.
  Laid BY PROGRAM, IN A SANDBOX (cutbox-rows.mjs): the forced cells as the released guide's own fill.sh prints them over the translation 1d6e9bbf192847f5… (all of the seat's roots in one cut). By AI agents, Wed Nov 11 2026. No macro, syntax, notation, axiom, sorry.
-/
import Derived.Test.YtcehapmkhlmgdaaChecked
import GoSem.Claim
import GoSem.ClaimJoined
import GoSem.ClaimMapViews
import Derived.JoinedTies
import Derived.KernelRfl
namespace Go.Proofs.Ytcehapmkhlmgdaa
/- THE CELL 'sum', in the pinned program and in every row, IS THE sha256 OF THE DUMP (.gsa) THAT YtcehapmkhlmgdaaProg.lean LOADS. Nothing in Lean hashes anything: it is a label: what it is worth is what the hold of that sum in a sandbox is worth. -/
noncomputable def Try.pinned : Pinned := { name := "ytcehapmkhlmgdaa", sum := "1d6e9bbf192847f5cc49fdfc861db25f1f0da9868fe28927e237ba2554b36a21", checked := Try.checked }
namespace Rows
def none {H : Type} : Left H := { results := [], args := [] }

/-- 'printworkskeep2.HalftoneThreshold': WHATEVER THE INPUT: true; the input reads as it did. -/
def halftoneThresholdSpec : ChangeSpec := { name := "halftoneThreshold", fn := fun _ => fun
  | [d1, d2, d3] => { results := [.lit (.bool true)], args := [d1, d2, d3] }
  | _ => none }
def halftoneThresholdRow : OpenClaim := { program := "ytcehapmkhlmgdaa", sum := "1d6e9bbf192847f5cc49fdfc861db25f1f0da9868fe28927e237ba2554b36a21", func := "printworks/printworkskeep2.HalftoneThreshold", spec := "halftoneThreshold", unfollowed := true, recurses := true, apart := false }
def HalftoneThresholdSaid : Prop := halftoneThresholdRow.holds Try.pinned (OpenSpec.ofChange halftoneThresholdSpec)

/-- ITS FALSE NEIGHBOUR: 'it returns false'. Refute it at one input. -/
def halftoneThresholdWrong : ChangeSpec := { name := "halftoneThreshold", fn := fun _ => fun
  | [d1, d2, d3] => { results := [.lit (.bool false)], args := [d1, d2, d3] }
  | _ => none }
def HalftoneThresholdWrongFalsely : Prop := halftoneThresholdRow.holds Try.pinned (OpenSpec.ofChange halftoneThresholdWrong)

/-- 'printworkskeep2.ScreenBalance': WHATEVER THE INPUT: true; the input reads as it did. -/
def screenBalanceSpec : ChangeSpec := { name := "screenBalance", fn := fun _ => fun
  | [d1, d2, d3] => { results := [.lit (.bool true)], args := [d1, d2, d3] }
  | _ => none }
def screenBalanceRow : OpenClaim := { program := "ytcehapmkhlmgdaa", sum := "1d6e9bbf192847f5cc49fdfc861db25f1f0da9868fe28927e237ba2554b36a21", func := "printworks/printworkskeep2.ScreenBalance", spec := "screenBalance", unfollowed := true, recurses := true, apart := false }
def ScreenBalanceSaid : Prop := screenBalanceRow.holds Try.pinned (OpenSpec.ofChange screenBalanceSpec)

/-- ITS FALSE NEIGHBOUR: 'it returns false'. Refute it at one input. -/
def screenBalanceWrong : ChangeSpec := { name := "screenBalance", fn := fun _ => fun
  | [d1, d2, d3] => { results := [.lit (.bool false)], args := [d1, d2, d3] }
  | _ => none }
def ScreenBalanceWrongFalsely : Prop := screenBalanceRow.holds Try.pinned (OpenSpec.ofChange screenBalanceWrong)

/-- 'printworkskeep2.HalftoneMonotone': WHATEVER THE INPUT: true; the input reads as it did. -/
def halftoneMonotoneSpec : ChangeSpec := { name := "halftoneMonotone", fn := fun _ => fun
  | [d1, d2, d3] => { results := [.lit (.bool true)], args := [d1, d2, d3] }
  | _ => none }
def halftoneMonotoneRow : OpenClaim := { program := "ytcehapmkhlmgdaa", sum := "1d6e9bbf192847f5cc49fdfc861db25f1f0da9868fe28927e237ba2554b36a21", func := "printworks/printworkskeep2.HalftoneMonotone", spec := "halftoneMonotone", unfollowed := true, recurses := true, apart := false }
def HalftoneMonotoneSaid : Prop := halftoneMonotoneRow.holds Try.pinned (OpenSpec.ofChange halftoneMonotoneSpec)

/-- ITS FALSE NEIGHBOUR: 'it returns false'. Refute it at one input. -/
def halftoneMonotoneWrong : ChangeSpec := { name := "halftoneMonotone", fn := fun _ => fun
  | [d1, d2, d3] => { results := [.lit (.bool false)], args := [d1, d2, d3] }
  | _ => none }
def HalftoneMonotoneWrongFalsely : Prop := halftoneMonotoneRow.holds Try.pinned (OpenSpec.ofChange halftoneMonotoneWrong)

/-- 'printworkskeep2.HalftoneTone': WHATEVER THE INPUT: true; the input reads as it did. -/
def halftoneToneSpec : ChangeSpec := { name := "halftoneTone", fn := fun _ => fun
  | [d1, d2, d3, d4] => { results := [.lit (.bool true)], args := [d1, d2, d3, d4] }
  | _ => none }
def halftoneToneRow : OpenClaim := { program := "ytcehapmkhlmgdaa", sum := "1d6e9bbf192847f5cc49fdfc861db25f1f0da9868fe28927e237ba2554b36a21", func := "printworks/printworkskeep2.HalftoneTone", spec := "halftoneTone", unfollowed := true, recurses := true, apart := false }
def HalftoneToneSaid : Prop := halftoneToneRow.holds Try.pinned (OpenSpec.ofChange halftoneToneSpec)

/-- ITS FALSE NEIGHBOUR: 'it returns false'. Refute it at one input. -/
def halftoneToneWrong : ChangeSpec := { name := "halftoneTone", fn := fun _ => fun
  | [d1, d2, d3, d4] => { results := [.lit (.bool false)], args := [d1, d2, d3, d4] }
  | _ => none }
def HalftoneToneWrongFalsely : Prop := halftoneToneRow.holds Try.pinned (OpenSpec.ofChange halftoneToneWrong)

/-- 'printworkskeep2.GamutBoundary': WHATEVER THE INPUT: true; the input reads as it did. -/
def gamutBoundarySpec : ChangeSpec := { name := "gamutBoundary", fn := fun _ => fun
  | [d1, d2, d3] => { results := [.lit (.bool true)], args := [d1, d2, d3] }
  | _ => none }
def gamutBoundaryRow : OpenClaim := { program := "ytcehapmkhlmgdaa", sum := "1d6e9bbf192847f5cc49fdfc861db25f1f0da9868fe28927e237ba2554b36a21", func := "printworks/printworkskeep2.GamutBoundary", spec := "gamutBoundary", unfollowed := true, recurses := true, apart := false }
def GamutBoundarySaid : Prop := gamutBoundaryRow.holds Try.pinned (OpenSpec.ofChange gamutBoundarySpec)

/-- ITS FALSE NEIGHBOUR: 'it returns false'. Refute it at one input. -/
def gamutBoundaryWrong : ChangeSpec := { name := "gamutBoundary", fn := fun _ => fun
  | [d1, d2, d3] => { results := [.lit (.bool false)], args := [d1, d2, d3] }
  | _ => none }
def GamutBoundaryWrongFalsely : Prop := gamutBoundaryRow.holds Try.pinned (OpenSpec.ofChange gamutBoundaryWrong)

/- THE SECOND FORM. 'bulk': how many values and letters a reading holds, each counted each time it is reached (what is shared counts as often as it is met; a slice's spare places count too). A statement '..UptoSaid' is the law's where the arguments, and the package variables that the reading takes, are together of bulk at most 1048576: NARROWER than '..Said'. Prove '..Said' where nothing that the law and all that it calls make is longer than what came in: it says more and counts as full. Else prove '..UptoSaid'. A law counts once. -/
mutual
def uptoBulk {H : Type} : DataW H → Nat
  | .lit (.string bytes) => bytes.length + 1
  | .lit _ => 1
  | .nil => 1
  | .ptr d => uptoBulk d + 1
  | .slice elems spare => uptoBulkAll elems + uptoBulkAll spare + 1
  | .agg parts => uptoBulkAll parts + 1
  | .iface _ d => uptoBulk d + 1
  | .map entries => uptoBulkEntries entries + 1
  | .held _ => 1
def uptoBulkAll {H : Type} : List (DataW H) → Nat
  | [] => 0
  | d :: r => uptoBulk d + uptoBulkAll r
def uptoBulkEntries {H : Type} : List (Lit × DataW H) → Nat
  | [] => 0
  | x :: r => uptoBulkEntry x + uptoBulkEntries r
def uptoBulkEntry {H : Type} : Lit × DataW H → Nat
  | (.string bytes, d) => bytes.length + uptoBulk d + 1
  | (_, d) => uptoBulk d + 1
 end
def uptoSmall : (H : Type) → List (DataW H) → Bool := fun _ ds => decide (uptoBulkAll ds ≤ 1048576)
def OpenSpec.upto (s : _root_.Go.ChangeSpec) : _root_.Go.OpenSpec := { _root_.Go.OpenSpec.ofChange s with cond := some uptoSmall }

/-- 'printworkskeep2.HalftoneThreshold', WHERE WHAT IT READS IS OF BULK AT MOST 1048576: true; the input reads as it did. -/
def halftoneThresholdUptoRow : OpenClaim := { program := "ytcehapmkhlmgdaa", sum := "1d6e9bbf192847f5cc49fdfc861db25f1f0da9868fe28927e237ba2554b36a21", func := "printworks/printworkskeep2.HalftoneThreshold", spec := "halftoneThreshold", unfollowed := true, recurses := true, apart := false, narrowed := true }
def HalftoneThresholdUptoSaid : Prop := halftoneThresholdUptoRow.holds Try.pinned (OpenSpec.upto halftoneThresholdSpec)

/-- 'printworkskeep2.ScreenBalance', WHERE WHAT IT READS IS OF BULK AT MOST 1048576: true; the input reads as it did. -/
def screenBalanceUptoRow : OpenClaim := { program := "ytcehapmkhlmgdaa", sum := "1d6e9bbf192847f5cc49fdfc861db25f1f0da9868fe28927e237ba2554b36a21", func := "printworks/printworkskeep2.ScreenBalance", spec := "screenBalance", unfollowed := true, recurses := true, apart := false, narrowed := true }
def ScreenBalanceUptoSaid : Prop := screenBalanceUptoRow.holds Try.pinned (OpenSpec.upto screenBalanceSpec)

/-- 'printworkskeep2.HalftoneMonotone', WHERE WHAT IT READS IS OF BULK AT MOST 1048576: true; the input reads as it did. -/
def halftoneMonotoneUptoRow : OpenClaim := { program := "ytcehapmkhlmgdaa", sum := "1d6e9bbf192847f5cc49fdfc861db25f1f0da9868fe28927e237ba2554b36a21", func := "printworks/printworkskeep2.HalftoneMonotone", spec := "halftoneMonotone", unfollowed := true, recurses := true, apart := false, narrowed := true }
def HalftoneMonotoneUptoSaid : Prop := halftoneMonotoneUptoRow.holds Try.pinned (OpenSpec.upto halftoneMonotoneSpec)

/-- 'printworkskeep2.HalftoneTone', WHERE WHAT IT READS IS OF BULK AT MOST 1048576: true; the input reads as it did. -/
def halftoneToneUptoRow : OpenClaim := { program := "ytcehapmkhlmgdaa", sum := "1d6e9bbf192847f5cc49fdfc861db25f1f0da9868fe28927e237ba2554b36a21", func := "printworks/printworkskeep2.HalftoneTone", spec := "halftoneTone", unfollowed := true, recurses := true, apart := false, narrowed := true }
def HalftoneToneUptoSaid : Prop := halftoneToneUptoRow.holds Try.pinned (OpenSpec.upto halftoneToneSpec)

/-- 'printworkskeep2.GamutBoundary', WHERE WHAT IT READS IS OF BULK AT MOST 1048576: true; the input reads as it did. -/
def gamutBoundaryUptoRow : OpenClaim := { program := "ytcehapmkhlmgdaa", sum := "1d6e9bbf192847f5cc49fdfc861db25f1f0da9868fe28927e237ba2554b36a21", func := "printworks/printworkskeep2.GamutBoundary", spec := "gamutBoundary", unfollowed := true, recurses := true, apart := false, narrowed := true }
def GamutBoundaryUptoSaid : Prop := gamutBoundaryUptoRow.holds Try.pinned (OpenSpec.upto gamutBoundarySpec)

end Rows
end Go.Proofs.Ytcehapmkhlmgdaa
