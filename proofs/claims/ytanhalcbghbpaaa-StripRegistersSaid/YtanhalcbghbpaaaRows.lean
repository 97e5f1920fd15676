/-
  No cell of these rows narrows 'for every input' (looked for: loops, veiled, ifaces, maps, wideKeys, modest, calm, conditions, laid).
  DERIVED. THE GIVEN ROWS OF THIS SEAT. 12 by the template 'for every input the law returns true; each argument reads behind the call as it read before'; 0 by the template 'total and deterministic' (their statements: YtanhalcbghbpaaaTotals.lean).
  GIVEN WITH THE SEED: the statements are not yours to turn. If you find one false, say at which input.
  Laid BY PROGRAM, IN A SANDBOX (cutbox-rows.mjs): the forced cells as the released guide's own fill.sh prints them over the translation b387fabb7df7dc2b… (all of the seat's roots in one cut). By AI agents, Wed Nov 11 2026. No macro, syntax, notation, axiom, sorry.
-/
import Derived.Test.YtanhalcbghbpaaaChecked
import GoSem.Claim
import GoSem.ClaimJoined
import GoSem.ClaimMapViews
import Derived.JoinedTies
import Derived.KernelRfl
namespace Go.Proofs.Ytanhalcbghbpaaa
/- THE CELL 'sum', in the pinned program and in every row, IS THE sha256 OF THE DUMP (.gsa) THAT YtanhalcbghbpaaaProg.lean LOADS. Nothing in Lean hashes anything: it is a label: what it is worth is what the hold of that sum in a sandbox is worth. -/
noncomputable def Try.pinned : Pinned := { name := "ytanhalcbghbpaaa", sum := "b387fabb7df7dc2b99090545b97c8e8cc2a50ea6831352d11a4858314ec31535", checked := Try.checked }
namespace Rows
def none {H : Type} : Left H := { results := [], args := [] }

/-- 'printworkskeep2.StripLocated': WHATEVER THE INPUT: true; the input reads as it did. -/
def stripLocatedSpec : ChangeSpec := { name := "stripLocated", fn := fun _ => fun
  | [d1, d2, d3, d4, d5, d6] => { results := [.lit (.bool true)], args := [d1, d2, d3, d4, d5, d6] }
  | _ => none }
def stripLocatedRow : OpenClaim := { program := "ytanhalcbghbpaaa", sum := "b387fabb7df7dc2b99090545b97c8e8cc2a50ea6831352d11a4858314ec31535", func := "printworks/printworkskeep2.StripLocated", spec := "stripLocated", apart := false }
def StripLocatedSaid : Prop := stripLocatedRow.holds Try.pinned (OpenSpec.ofChange stripLocatedSpec)

/-- ITS FALSE NEIGHBOUR: 'it returns false'. Refute it at one input. -/
def stripLocatedWrong : ChangeSpec := { name := "stripLocated", fn := fun _ => fun
  | [d1, d2, d3, d4, d5, d6] => { results := [.lit (.bool false)], args := [d1, d2, d3, d4, d5, d6] }
  | _ => none }
def StripLocatedWrongFalsely : Prop := stripLocatedRow.holds Try.pinned (OpenSpec.ofChange stripLocatedWrong)

/-- 'printworkskeep2.BitmapOrientations': WHATEVER THE INPUT: true; the input reads as it did. -/
def bitmapOrientationsSpec : ChangeSpec := { name := "bitmapOrientations", fn := fun _ => fun
  | [d1, d2, d3] => { results := [.lit (.bool true)], args := [d1, d2, d3] }
  | _ => none }
def bitmapOrientationsRow : OpenClaim := { program := "ytanhalcbghbpaaa", sum := "b387fabb7df7dc2b99090545b97c8e8cc2a50ea6831352d11a4858314ec31535", func := "printworks/printworkskeep2.BitmapOrientations", spec := "bitmapOrientations", unfollowed := true, recurses := true, apart := false }
def BitmapOrientationsSaid : Prop := bitmapOrientationsRow.holds Try.pinned (OpenSpec.ofChange bitmapOrientationsSpec)

/-- ITS FALSE NEIGHBOUR: 'it returns false'. Refute it at one input. -/
def bitmapOrientationsWrong : ChangeSpec := { name := "bitmapOrientations", fn := fun _ => fun
  | [d1, d2, d3] => { results := [.lit (.bool false)], args := [d1, d2, d3] }
  | _ => none }
def BitmapOrientationsWrongFalsely : Prop := bitmapOrientationsRow.holds Try.pinned (OpenSpec.ofChange bitmapOrientationsWrong)

/-- 'printworkskeep2.SheetNoGaps': WHATEVER THE INPUT: true; the input reads as it did. -/
def sheetNoGapsSpec : ChangeSpec := { name := "sheetNoGaps", fn := fun _ => fun
  | [d1, d2, d3] => { results := [.lit (.bool true)], args := [d1, d2, d3] }
  | _ => none }
def sheetNoGapsRow : OpenClaim := { program := "ytanhalcbghbpaaa", sum := "b387fabb7df7dc2b99090545b97c8e8cc2a50ea6831352d11a4858314ec31535", func := "printworks/printworkskeep2.SheetNoGaps", spec := "sheetNoGaps", unfollowed := true, recurses := true, apart := false }
def SheetNoGapsSaid : Prop := sheetNoGapsRow.holds Try.pinned (OpenSpec.ofChange sheetNoGapsSpec)

/-- ITS FALSE NEIGHBOUR: 'it returns false'. Refute it at one input. -/
def sheetNoGapsWrong : ChangeSpec := { name := "sheetNoGaps", fn := fun _ => fun
  | [d1, d2, d3] => { results := [.lit (.bool false)], args := [d1, d2, d3] }
  | _ => none }
def SheetNoGapsWrongFalsely : Prop := sheetNoGapsRow.holds Try.pinned (OpenSpec.ofChange sheetNoGapsWrong)

/-- 'printworkskeep2.LinearReturns': WHATEVER THE INPUT: true; the input reads as it did. -/
def linearReturnsSpec : ChangeSpec := { name := "linearReturns", fn := fun _ => fun
  | [d1, d2, d3, d4] => { results := [.lit (.bool true)], args := [d1, d2, d3, d4] }
  | _ => none }
def linearReturnsRow : OpenClaim := { program := "ytanhalcbghbpaaa", sum := "b387fabb7df7dc2b99090545b97c8e8cc2a50ea6831352d11a4858314ec31535", func := "printworks/printworkskeep2.LinearReturns", spec := "linearReturns", unfollowed := true, recurses := true, apart := false }
def LinearReturnsSaid : Prop := linearReturnsRow.holds Try.pinned (OpenSpec.ofChange linearReturnsSpec)

/-- ITS FALSE NEIGHBOUR: 'it returns false'. Refute it at one input. -/
def linearReturnsWrong : ChangeSpec := { name := "linearReturns", fn := fun _ => fun
  | [d1, d2, d3, d4] => { results := [.lit (.bool false)], args := [d1, d2, d3, d4] }
  | _ => none }
def LinearReturnsWrongFalsely : Prop := linearReturnsRow.holds Try.pinned (OpenSpec.ofChange linearReturnsWrong)

/-- 'printworkskeep2.LinearSubstitutions': WHATEVER THE INPUT: true; the input reads as it did. -/
def linearSubstitutionsSpec : ChangeSpec := { name := "linearSubstitutions", fn := fun _ => fun
  | [d1, d2, d3] => { results := [.lit (.bool true)], args := [d1, d2, d3] }
  | _ => none }
def linearSubstitutionsRow : OpenClaim := { program := "ytanhalcbghbpaaa", sum := "b387fabb7df7dc2b99090545b97c8e8cc2a50ea6831352d11a4858314ec31535", func := "printworks/printworkskeep2.LinearSubstitutions", spec := "linearSubstitutions", unfollowed := true, recurses := true, apart := false }
def LinearSubstitutionsSaid : Prop := linearSubstitutionsRow.holds Try.pinned (OpenSpec.ofChange linearSubstitutionsSpec)

/-- ITS FALSE NEIGHBOUR: 'it returns false'. Refute it at one input. -/
def linearSubstitutionsWrong : ChangeSpec := { name := "linearSubstitutions", fn := fun _ => fun
  | [d1, d2, d3] => { results := [.lit (.bool false)], args := [d1, d2, d3] }
  | _ => none }
def LinearSubstitutionsWrongFalsely : Prop := linearSubstitutionsRow.holds Try.pinned (OpenSpec.ofChange linearSubstitutionsWrong)

/-- 'printworkskeep2.BitmapRunsReturn': WHATEVER THE INPUT: true; the input reads as it did. -/
def bitmapRunsReturnSpec : ChangeSpec := { name := "bitmapRunsReturn", fn := fun _ => fun
  | [d] => { results := [.lit (.bool true)], args := [d] }
  | _ => none }
def bitmapRunsReturnRow : OpenClaim := { program := "ytanhalcbghbpaaa", sum := "b387fabb7df7dc2b99090545b97c8e8cc2a50ea6831352d11a4858314ec31535", func := "printworks/printworkskeep2.BitmapRunsReturn", spec := "bitmapRunsReturn", unfollowed := true, recurses := true, apart := false }
def BitmapRunsReturnSaid : Prop := bitmapRunsReturnRow.holds Try.pinned (OpenSpec.ofChange bitmapRunsReturnSpec)

/-- ITS FALSE NEIGHBOUR: 'it returns false'. Refute it at one input. -/
def bitmapRunsReturnWrong : ChangeSpec := { name := "bitmapRunsReturn", fn := fun _ => fun
  | [d] => { results := [.lit (.bool false)], args := [d] }
  | _ => none }
def BitmapRunsReturnWrongFalsely : Prop := bitmapRunsReturnRow.holds Try.pinned (OpenSpec.ofChange bitmapRunsReturnWrong)

/-- 'printworkskeep2.BitmapSpreads': WHATEVER THE INPUT: true; the input reads as it did. -/
def bitmapSpreadsSpec : ChangeSpec := { name := "bitmapSpreads", fn := fun _ => fun
  | [d1, d2, d3, d4] => { results := [.lit (.bool true)], args := [d1, d2, d3, d4] }
  | _ => none }
def bitmapSpreadsRow : OpenClaim := { program := "ytanhalcbghbpaaa", sum := "b387fabb7df7dc2b99090545b97c8e8cc2a50ea6831352d11a4858314ec31535", func := "printworks/printworkskeep2.BitmapSpreads", spec := "bitmapSpreads", unfollowed := true, recurses := true, apart := false }
def BitmapSpreadsSaid : Prop := bitmapSpreadsRow.holds Try.pinned (OpenSpec.ofChange bitmapSpreadsSpec)

/-- ITS FALSE NEIGHBOUR: 'it returns false'. Refute it at one input. -/
def bitmapSpreadsWrong : ChangeSpec := { name := "bitmapSpreads", fn := fun _ => fun
  | [d1, d2, d3, d4] => { results := [.lit (.bool false)], args := [d1, d2, d3, d4] }
  | _ => none }
def BitmapSpreadsWrongFalsely : Prop := bitmapSpreadsRow.holds Try.pinned (OpenSpec.ofChange bitmapSpreadsWrong)

/-- 'printworkskeep2.BitmapSets': WHATEVER THE INPUT: true; the input reads as it did. -/
def bitmapSetsSpec : ChangeSpec := { name := "bitmapSets", fn := fun _ => fun
  | [d1, d2] => { results := [.lit (.bool true)], args := [d1, d2] }
  | _ => none }
def bitmapSetsRow : OpenClaim := { program := "ytanhalcbghbpaaa", sum := "b387fabb7df7dc2b99090545b97c8e8cc2a50ea6831352d11a4858314ec31535", func := "printworks/printworkskeep2.BitmapSets", spec := "bitmapSets", unfollowed := true, recurses := true, apart := false }
def BitmapSetsSaid : Prop := bitmapSetsRow.holds Try.pinned (OpenSpec.ofChange bitmapSetsSpec)

/-- ITS FALSE NEIGHBOUR: 'it returns false'. Refute it at one input. -/
def bitmapSetsWrong : ChangeSpec := { name := "bitmapSets", fn := fun _ => fun
  | [d1, d2] => { results := [.lit (.bool false)], args := [d1, d2] }
  | _ => none }
def BitmapSetsWrongFalsely : Prop := bitmapSetsRow.holds Try.pinned (OpenSpec.ofChange bitmapSetsWrong)

/-- 'printworkskeep2.SheetMarginals': WHATEVER THE INPUT: true; the input reads as it did. -/
def sheetMarginalsSpec : ChangeSpec := { name := "sheetMarginals", fn := fun _ => fun
  | [d1, d2] => { results := [.lit (.bool true)], args := [d1, d2] }
  | _ => none }
def sheetMarginalsRow : OpenClaim := { program := "ytanhalcbghbpaaa", sum := "b387fabb7df7dc2b99090545b97c8e8cc2a50ea6831352d11a4858314ec31535", func := "printworks/printworkskeep2.SheetMarginals", spec := "sheetMarginals", unfollowed := true, recurses := true, apart := false }
def SheetMarginalsSaid : Prop := sheetMarginalsRow.holds Try.pinned (OpenSpec.ofChange sheetMarginalsSpec)

/-- ITS FALSE NEIGHBOUR: 'it returns false'. Refute it at one input. -/
def sheetMarginalsWrong : ChangeSpec := { name := "sheetMarginals", fn := fun _ => fun
  | [d1, d2] => { results := [.lit (.bool false)], args := [d1, d2] }
  | _ => none }
def SheetMarginalsWrongFalsely : Prop := sheetMarginalsRow.holds Try.pinned (OpenSpec.ofChange sheetMarginalsWrong)

/-- 'printworkskeep2.StripDrawn': WHATEVER THE INPUT: true; the input reads as it did. -/
def stripDrawnSpec : ChangeSpec := { name := "stripDrawn", fn := fun _ => fun
  | [d1, d2, d3, d4] => { results := [.lit (.bool true)], args := [d1, d2, d3, d4] }
  | _ => none }
def stripDrawnRow : OpenClaim := { program := "ytanhalcbghbpaaa", sum := "b387fabb7df7dc2b99090545b97c8e8cc2a50ea6831352d11a4858314ec31535", func := "printworks/printworkskeep2.StripDrawn", spec := "stripDrawn", unfollowed := true, recurses := true, apart := false }
def StripDrawnSaid : Prop := stripDrawnRow.holds Try.pinned (OpenSpec.ofChange stripDrawnSpec)

/-- ITS FALSE NEIGHBOUR: 'it returns false'. Refute it at one input. -/
def stripDrawnWrong : ChangeSpec := { name := "stripDrawn", fn := fun _ => fun
  | [d1, d2, d3, d4] => { results := [.lit (.bool false)], args := [d1, d2, d3, d4] }
  | _ => none }
def StripDrawnWrongFalsely : Prop := stripDrawnRow.holds Try.pinned (OpenSpec.ofChange stripDrawnWrong)

/-- 'printworkskeep2.LinearScanned': WHATEVER THE INPUT: true; the input reads as it did. -/
def linearScannedSpec : ChangeSpec := { name := "linearScanned", fn := fun _ => fun
  | [d1, d2, d3, d4] => { results := [.lit (.bool true)], args := [d1, d2, d3, d4] }
  | _ => none }
def linearScannedRow : OpenClaim := { program := "ytanhalcbghbpaaa", sum := "b387fabb7df7dc2b99090545b97c8e8cc2a50ea6831352d11a4858314ec31535", func := "printworks/printworkskeep2.LinearScanned", spec := "linearScanned", unfollowed := true, recurses := true, apart := false }
def LinearScannedSaid : Prop := linearScannedRow.holds Try.pinned (OpenSpec.ofChange linearScannedSpec)

/-- ITS FALSE NEIGHBOUR: 'it returns false'. Refute it at one input. -/
def linearScannedWrong : ChangeSpec := { name := "linearScanned", fn := fun _ => fun
  | [d1, d2, d3, d4] => { results := [.lit (.bool false)], args := [d1, d2, d3, d4] }
  | _ => none }
def LinearScannedWrongFalsely : Prop := linearScannedRow.holds Try.pinned (OpenSpec.ofChange linearScannedWrong)

/-- 'printworkskeep2.StripRegisters': WHATEVER THE INPUT: true; the input reads as it did. -/
def stripRegistersSpec : ChangeSpec := { name := "stripRegisters", fn := fun _ => fun
  | [d1, d2] => { results := [.lit (.bool true)], args := [d1, d2] }
  | _ => none }
def stripRegistersRow : OpenClaim := { program := "ytanhalcbghbpaaa", sum := "b387fabb7df7dc2b99090545b97c8e8cc2a50ea6831352d11a4858314ec31535", func := "printworks/printworkskeep2.StripRegisters", spec := "stripRegisters", unfollowed := true, recurses := true, apart := false }
def StripRegistersSaid : Prop := stripRegistersRow.holds Try.pinned (OpenSpec.ofChange stripRegistersSpec)

/-- ITS FALSE NEIGHBOUR: 'it returns false'. Refute it at one input. -/
def stripRegistersWrong : ChangeSpec := { name := "stripRegisters", fn := fun _ => fun
  | [d1, d2] => { results := [.lit (.bool false)], args := [d1, d2] }
  | _ => none }
def StripRegistersWrongFalsely : Prop := stripRegistersRow.holds Try.pinned (OpenSpec.ofChange stripRegistersWrong)

/- THE SECOND FORM. 'bulk': how many values and letters a reading holds, each counted each time it is reached (what is shared counts as often as it is met; a slice's spare places count too). A statement '..UptoSaid' is the law's where the arguments, and the package variables that the reading takes, are together of bulk at most 1048576: NARROWER than '..Said'. Prove '..Said' where nothing that the law and all that it calls make is longer than what came in: it says more and counts as full. Else prove '..UptoSaid'. A law counts once. -/
mutual
def uptoBulk {H : Type} : DataW H → Nat
  | .lit (.string bytes) => bytes.length + 1
  | .lit _ => 1
  | .nil => 1
  | .ptr d => uptoBulk d + 1
  | .slice elems spare => uptoBulkAll elems + uptoBulkAll spare + 1
  | .agg parts => uptoBulkAll parts + 1
  | .iface _ d => uptoBulk d + 1
  | .map entries => uptoBulkEntries entries + 1
  | .held _ => 1
def uptoBulkAll {H : Type} : List (DataW H) → Nat
  | [] => 0
  | d :: r => uptoBulk d + uptoBulkAll r
def uptoBulkEntries {H : Type} : List (Lit × DataW H) → Nat
  | [] => 0
  | x :: r => uptoBulkEntry x + uptoBulkEntries r
def uptoBulkEntry {H : Type} : Lit × DataW H → Nat
  | (.string bytes, d) => bytes.length + uptoBulk d + 1
  | (_, d) => uptoBulk d + 1
 end
def uptoSmall : (H : Type) → List (DataW H) → Bool := fun _ ds => decide (uptoBulkAll ds ≤ 1048576)
def OpenSpec.upto (s : _root_.Go.ChangeSpec) : _root_.Go.OpenSpec := { _root_.Go.OpenSpec.ofChange s with cond := some uptoSmall }

/-- 'printworkskeep2.StripLocated', WHERE WHAT IT READS IS OF BULK AT MOST 1048576: true; the input reads as it did. -/
def stripLocatedUptoRow : OpenClaim := { program := "ytanhalcbghbpaaa", sum := "b387fabb7df7dc2b99090545b97c8e8cc2a50ea6831352d11a4858314ec31535", func := "printworks/printworkskeep2.StripLocated", spec := "stripLocated", apart := false, narrowed := true }
def StripLocatedUptoSaid : Prop := stripLocatedUptoRow.holds Try.pinned (OpenSpec.upto stripLocatedSpec)

/-- 'printworkskeep2.BitmapOrientations', WHERE WHAT IT READS IS OF BULK AT MOST 1048576: true; the input reads as it did. -/
def bitmapOrientationsUptoRow : OpenClaim := { program := "ytanhalcbghbpaaa", sum := "b387fabb7df7dc2b99090545b97c8e8cc2a50ea6831352d11a4858314ec31535", func := "printworks/printworkskeep2.BitmapOrientations", spec := "bitmapOrientations", unfollowed := true, recurses := true, apart := false, narrowed := true }
def BitmapOrientationsUptoSaid : Prop := bitmapOrientationsUptoRow.holds Try.pinned (OpenSpec.upto bitmapOrientationsSpec)

/-- 'printworkskeep2.SheetNoGaps', WHERE WHAT IT READS IS OF BULK AT MOST 1048576: true; the input reads as it did. -/
def sheetNoGapsUptoRow : OpenClaim := { program := "ytanhalcbghbpaaa", sum := "b387fabb7df7dc2b99090545b97c8e8cc2a50ea6831352d11a4858314ec31535", func := "printworks/printworkskeep2.SheetNoGaps", spec := "sheetNoGaps", unfollowed := true, recurses := true, apart := false, narrowed := true }
def SheetNoGapsUptoSaid : Prop := sheetNoGapsUptoRow.holds Try.pinned (OpenSpec.upto sheetNoGapsSpec)

/-- 'printworkskeep2.LinearReturns', WHERE WHAT IT READS IS OF BULK AT MOST 1048576: true; the input reads as it did. -/
def linearReturnsUptoRow : OpenClaim := { program := "ytanhalcbghbpaaa", sum := "b387fabb7df7dc2b99090545b97c8e8cc2a50ea6831352d11a4858314ec31535", func := "printworks/printworkskeep2.LinearReturns", spec := "linearReturns", unfollowed := true, recurses := true, apart := false, narrowed := true }
def LinearReturnsUptoSaid : Prop := linearReturnsUptoRow.holds Try.pinned (OpenSpec.upto linearReturnsSpec)

/-- 'printworkskeep2.LinearSubstitutions', WHERE WHAT IT READS IS OF BULK AT MOST 1048576: true; the input reads as it did. -/
def linearSubstitutionsUptoRow : OpenClaim := { program := "ytanhalcbghbpaaa", sum := "b387fabb7df7dc2b99090545b97c8e8cc2a50ea6831352d11a4858314ec31535", func := "printworks/printworkskeep2.LinearSubstitutions", spec := "linearSubstitutions", unfollowed := true, recurses := true, apart := false, narrowed := true }
def LinearSubstitutionsUptoSaid : Prop := linearSubstitutionsUptoRow.holds Try.pinned (OpenSpec.upto linearSubstitutionsSpec)

/-- 'printworkskeep2.BitmapRunsReturn', WHERE WHAT IT READS IS OF BULK AT MOST 1048576: true; the input reads as it did. -/
def bitmapRunsReturnUptoRow : OpenClaim := { program := "ytanhalcbghbpaaa", sum := "b387fabb7df7dc2b99090545b97c8e8cc2a50ea6831352d11a4858314ec31535", func := "printworks/printworkskeep2.BitmapRunsReturn", spec := "bitmapRunsReturn", unfollowed := true, recurses := true, apart := false, narrowed := true }
def BitmapRunsReturnUptoSaid : Prop := bitmapRunsReturnUptoRow.holds Try.pinned (OpenSpec.upto bitmapRunsReturnSpec)

/-- 'printworkskeep2.BitmapSpreads', WHERE WHAT IT READS IS OF BULK AT MOST 1048576: true; the input reads as it did. -/
def bitmapSpreadsUptoRow : OpenClaim := { program := "ytanhalcbghbpaaa", sum := "b387fabb7df7dc2b99090545b97c8e8cc2a50ea6831352d11a4858314ec31535", func := "printworks/printworkskeep2.BitmapSpreads", spec := "bitmapSpreads", unfollowed := true, recurses := true, apart := false, narrowed := true }
def BitmapSpreadsUptoSaid : Prop := bitmapSpreadsUptoRow.holds Try.pinned (OpenSpec.upto bitmapSpreadsSpec)

/-- 'printworkskeep2.BitmapSets', WHERE WHAT IT READS IS OF BULK AT MOST 1048576: true; the input reads as it did. -/
def bitmapSetsUptoRow : OpenClaim := { program := "ytanhalcbghbpaaa", sum := "b387fabb7df7dc2b99090545b97c8e8cc2a50ea6831352d11a4858314ec31535", func := "printworks/printworkskeep2.BitmapSets", spec := "bitmapSets", unfollowed := true, recurses := true, apart := false, narrowed := true }
def BitmapSetsUptoSaid : Prop := bitmapSetsUptoRow.holds Try.pinned (OpenSpec.upto bitmapSetsSpec)

/-- 'printworkskeep2.SheetMarginals', WHERE WHAT IT READS IS OF BULK AT MOST 1048576: true; the input reads as it did. -/
def sheetMarginalsUptoRow : OpenClaim := { program := "ytanhalcbghbpaaa", sum := "b387fabb7df7dc2b99090545b97c8e8cc2a50ea6831352d11a4858314ec31535", func := "printworks/printworkskeep2.SheetMarginals", spec := "sheetMarginals", unfollowed := true, recurses := true, apart := false, narrowed := true }
def SheetMarginalsUptoSaid : Prop := sheetMarginalsUptoRow.holds Try.pinned (OpenSpec.upto sheetMarginalsSpec)

/-- 'printworkskeep2.StripDrawn', WHERE WHAT IT READS IS OF BULK AT MOST 1048576: true; the input reads as it did. -/
def stripDrawnUptoRow : OpenClaim := { program := "ytanhalcbghbpaaa", sum := "b387fabb7df7dc2b99090545b97c8e8cc2a50ea6831352d11a4858314ec31535", func := "printworks/printworkskeep2.StripDrawn", spec := "stripDrawn", unfollowed := true, recurses := true, apart := false, narrowed := true }
def StripDrawnUptoSaid : Prop := stripDrawnUptoRow.holds Try.pinned (OpenSpec.upto stripDrawnSpec)

/-- 'printworkskeep2.LinearScanned', WHERE WHAT IT READS IS OF BULK AT MOST 1048576: true; the input reads as it did. -/
def linearScannedUptoRow : OpenClaim := { program := "ytanhalcbghbpaaa", sum := "b387fabb7df7dc2b99090545b97c8e8cc2a50ea6831352d11a4858314ec31535", func := "printworks/printworkskeep2.LinearScanned", spec := "linearScanned", unfollowed := true, recurses := true, apart := false, narrowed := true }
def LinearScannedUptoSaid : Prop := linearScannedUptoRow.holds Try.pinned (OpenSpec.upto linearScannedSpec)

/-- 'printworkskeep2.StripRegisters', WHERE WHAT IT READS IS OF BULK AT MOST 1048576: true; the input reads as it did. -/
def stripRegistersUptoRow : OpenClaim := { program := "ytanhalcbghbpaaa", sum := "b387fabb7df7dc2b99090545b97c8e8cc2a50ea6831352d11a4858314ec31535", func := "printworks/printworkskeep2.StripRegisters", spec := "stripRegisters", unfollowed := true, recurses := true, apart := false, narrowed := true }
def StripRegistersUptoSaid : Prop := stripRegistersUptoRow.holds Try.pinned (OpenSpec.upto stripRegistersSpec)

end Rows
end Go.Proofs.Ytanhalcbghbpaaa
