/-
  No cell of these rows narrows 'for every input' (looked for: loops, veiled, ifaces, maps, wideKeys, modest, calm, conditions, laid).
  DERIVED. THE GIVEN ROWS OF THIS SEAT. 12 by the template 'for every input the law returns true; each argument reads behind the call as it read before'; 0 by the template 'total and deterministic' (their statements: YtfgaefpdccdfiaaTotals.lean).
  GIVEN WITH THE SEED: the statements are not yours to turn. If you find one false, say at which input.
  Laid BY PROGRAM, IN A SANDBOX (cutbox-rows.mjs): the forced cells as the released guide's own fill.sh prints them over the translation cc1270df32855d8e… (all of the seat's roots in one cut). By AI agents, Wed Nov 11 2026. No macro, syntax, notation, axiom, sorry.
-/
import Derived.Test.YtfgaefpdccdfiaaChecked
import GoSem.Claim
import GoSem.ClaimJoined
import GoSem.ClaimMapViews
import Derived.JoinedTies
import Derived.KernelRfl
namespace Go.Proofs.Ytfgaefpdccdfiaa
/- THE CELL 'sum', in the pinned program and in every row, IS THE sha256 OF THE DUMP (.gsa) THAT YtfgaefpdccdfiaaProg.lean LOADS. Nothing in Lean hashes anything: it is a label: what it is worth is what the hold of that sum in a sandbox is worth. -/
noncomputable def Try.pinned : Pinned := { name := "ytfgaefpdccdfiaa", sum := "cc1270df32855d8eaa26353b1de4406905b1ae726cb1094cf1dbbcdbe22714b6", checked := Try.checked }
namespace Rows
def none {H : Type} : Left H := { results := [], args := [] }

/-- 'printworkskeep2.OverprintShares': WHATEVER THE INPUT: true; the input reads as it did. -/
def overprintSharesSpec : ChangeSpec := { name := "overprintShares", fn := fun _ => fun
  | [d1, d2] => { results := [.lit (.bool true)], args := [d1, d2] }
  | _ => none }
def overprintSharesRow : OpenClaim := { program := "ytfgaefpdccdfiaa", sum := "cc1270df32855d8eaa26353b1de4406905b1ae726cb1094cf1dbbcdbe22714b6", func := "printworks/printworkskeep2.OverprintShares", spec := "overprintShares", unfollowed := true, recurses := true, apart := false }
def OverprintSharesSaid : Prop := overprintSharesRow.holds Try.pinned (OpenSpec.ofChange overprintSharesSpec)

/-- ITS FALSE NEIGHBOUR: 'it returns false'. Refute it at one input. -/
def overprintSharesWrong : ChangeSpec := { name := "overprintShares", fn := fun _ => fun
  | [d1, d2] => { results := [.lit (.bool false)], args := [d1, d2] }
  | _ => none }
def OverprintSharesWrongFalsely : Prop := overprintSharesRow.holds Try.pinned (OpenSpec.ofChange overprintSharesWrong)

/-- 'printworkskeep2.OverprintLayers': WHATEVER THE INPUT: true; the input reads as it did. -/
def overprintLayersSpec : ChangeSpec := { name := "overprintLayers", fn := fun _ => fun
  | [d1, d2, d3, d4] => { results := [.lit (.bool true)], args := [d1, d2, d3, d4] }
  | _ => none }
def overprintLayersRow : OpenClaim := { program := "ytfgaefpdccdfiaa", sum := "cc1270df32855d8eaa26353b1de4406905b1ae726cb1094cf1dbbcdbe22714b6", func := "printworks/printworkskeep2.OverprintLayers", spec := "overprintLayers", unfollowed := true, recurses := true, apart := false }
def OverprintLayersSaid : Prop := overprintLayersRow.holds Try.pinned (OpenSpec.ofChange overprintLayersSpec)

/-- ITS FALSE NEIGHBOUR: 'it returns false'. Refute it at one input. -/
def overprintLayersWrong : ChangeSpec := { name := "overprintLayers", fn := fun _ => fun
  | [d1, d2, d3, d4] => { results := [.lit (.bool false)], args := [d1, d2, d3, d4] }
  | _ => none }
def OverprintLayersWrongFalsely : Prop := overprintLayersRow.holds Try.pinned (OpenSpec.ofChange overprintLayersWrong)

/-- 'printworkskeep2.RefspaceReturns': WHATEVER THE INPUT: true; the input reads as it did. -/
def refspaceReturnsSpec : ChangeSpec := { name := "refspaceReturns", fn := fun _ => fun
  | [d1, d2] => { results := [.lit (.bool true)], args := [d1, d2] }
  | _ => none }
def refspaceReturnsRow : OpenClaim := { program := "ytfgaefpdccdfiaa", sum := "cc1270df32855d8eaa26353b1de4406905b1ae726cb1094cf1dbbcdbe22714b6", func := "printworks/printworkskeep2.RefspaceReturns", spec := "refspaceReturns", unfollowed := true, recurses := true, apart := false }
def RefspaceReturnsSaid : Prop := refspaceReturnsRow.holds Try.pinned (OpenSpec.ofChange refspaceReturnsSpec)

/-- ITS FALSE NEIGHBOUR: 'it returns false'. Refute it at one input. -/
def refspaceReturnsWrong : ChangeSpec := { name := "refspaceReturns", fn := fun _ => fun
  | [d1, d2] => { results := [.lit (.bool false)], args := [d1, d2] }
  | _ => none }
def RefspaceReturnsWrongFalsely : Prop := refspaceReturnsRow.holds Try.pinned (OpenSpec.ofChange refspaceReturnsWrong)

/-- 'printworkskeep2.RefspaceTriangle': WHATEVER THE INPUT: true; the input reads as it did. -/
def refspaceTriangleSpec : ChangeSpec := { name := "refspaceTriangle", fn := fun _ => fun
  | [d1, d2, d3] => { results := [.lit (.bool true)], args := [d1, d2, d3] }
  | _ => none }
def refspaceTriangleRow : OpenClaim := { program := "ytfgaefpdccdfiaa", sum := "cc1270df32855d8eaa26353b1de4406905b1ae726cb1094cf1dbbcdbe22714b6", func := "printworks/printworkskeep2.RefspaceTriangle", spec := "refspaceTriangle", unfollowed := true, recurses := true, apart := false }
def RefspaceTriangleSaid : Prop := refspaceTriangleRow.holds Try.pinned (OpenSpec.ofChange refspaceTriangleSpec)

/-- ITS FALSE NEIGHBOUR: 'it returns false'. Refute it at one input. -/
def refspaceTriangleWrong : ChangeSpec := { name := "refspaceTriangle", fn := fun _ => fun
  | [d1, d2, d3] => { results := [.lit (.bool false)], args := [d1, d2, d3] }
  | _ => none }
def RefspaceTriangleWrongFalsely : Prop := refspaceTriangleRow.holds Try.pinned (OpenSpec.ofChange refspaceTriangleWrong)

/-- 'printworkskeep2.InklimitHolds': WHATEVER THE INPUT: true; the input reads as it did. -/
def inklimitHoldsSpec : ChangeSpec := { name := "inklimitHolds", fn := fun _ => fun
  | [d1, d2, d3] => { results := [.lit (.bool true)], args := [d1, d2, d3] }
  | _ => none }
def inklimitHoldsRow : OpenClaim := { program := "ytfgaefpdccdfiaa", sum := "cc1270df32855d8eaa26353b1de4406905b1ae726cb1094cf1dbbcdbe22714b6", func := "printworks/printworkskeep2.InklimitHolds", spec := "inklimitHolds", apart := false }
def InklimitHoldsSaid : Prop := inklimitHoldsRow.holds Try.pinned (OpenSpec.ofChange inklimitHoldsSpec)

/-- ITS FALSE NEIGHBOUR: 'it returns false'. Refute it at one input. -/
def inklimitHoldsWrong : ChangeSpec := { name := "inklimitHolds", fn := fun _ => fun
  | [d1, d2, d3] => { results := [.lit (.bool false)], args := [d1, d2, d3] }
  | _ => none }
def InklimitHoldsWrongFalsely : Prop := inklimitHoldsRow.holds Try.pinned (OpenSpec.ofChange inklimitHoldsWrong)

/-- 'printworkskeep2.InklimitGreys': WHATEVER THE INPUT: true; the input reads as it did. -/
def inklimitGreysSpec : ChangeSpec := { name := "inklimitGreys", fn := fun _ => fun
  | [d1, d2] => { results := [.lit (.bool true)], args := [d1, d2] }
  | _ => none }
def inklimitGreysRow : OpenClaim := { program := "ytfgaefpdccdfiaa", sum := "cc1270df32855d8eaa26353b1de4406905b1ae726cb1094cf1dbbcdbe22714b6", func := "printworks/printworkskeep2.InklimitGreys", spec := "inklimitGreys", apart := false }
def InklimitGreysSaid : Prop := inklimitGreysRow.holds Try.pinned (OpenSpec.ofChange inklimitGreysSpec)

/-- ITS FALSE NEIGHBOUR: 'it returns false'. Refute it at one input. -/
def inklimitGreysWrong : ChangeSpec := { name := "inklimitGreys", fn := fun _ => fun
  | [d1, d2] => { results := [.lit (.bool false)], args := [d1, d2] }
  | _ => none }
def InklimitGreysWrongFalsely : Prop := inklimitGreysRow.holds Try.pinned (OpenSpec.ofChange inklimitGreysWrong)

/-- 'printworkskeep2.CurveFlips': WHATEVER THE INPUT: true; the input reads as it did. -/
def curveFlipsSpec : ChangeSpec := { name := "curveFlips", fn := fun _ => fun
  | [d1, d2] => { results := [.lit (.bool true)], args := [d1, d2] }
  | _ => none }
def curveFlipsRow : OpenClaim := { program := "ytfgaefpdccdfiaa", sum := "cc1270df32855d8eaa26353b1de4406905b1ae726cb1094cf1dbbcdbe22714b6", func := "printworks/printworkskeep2.CurveFlips", spec := "curveFlips", apart := false }
def CurveFlipsSaid : Prop := curveFlipsRow.holds Try.pinned (OpenSpec.ofChange curveFlipsSpec)

/-- ITS FALSE NEIGHBOUR: 'it returns false'. Refute it at one input. -/
def curveFlipsWrong : ChangeSpec := { name := "curveFlips", fn := fun _ => fun
  | [d1, d2] => { results := [.lit (.bool false)], args := [d1, d2] }
  | _ => none }
def CurveFlipsWrongFalsely : Prop := curveFlipsRow.holds Try.pinned (OpenSpec.ofChange curveFlipsWrong)

/-- 'printworkskeep2.CurveCalibrated': WHATEVER THE INPUT: true; the input reads as it did. -/
def curveCalibratedSpec : ChangeSpec := { name := "curveCalibrated", fn := fun _ => fun
  | [d1, d2] => { results := [.lit (.bool true)], args := [d1, d2] }
  | _ => none }
def curveCalibratedRow : OpenClaim := { program := "ytfgaefpdccdfiaa", sum := "cc1270df32855d8eaa26353b1de4406905b1ae726cb1094cf1dbbcdbe22714b6", func := "printworks/printworkskeep2.CurveCalibrated", spec := "curveCalibrated", apart := false }
def CurveCalibratedSaid : Prop := curveCalibratedRow.holds Try.pinned (OpenSpec.ofChange curveCalibratedSpec)

/-- ITS FALSE NEIGHBOUR: 'it returns false'. Refute it at one input. -/
def curveCalibratedWrong : ChangeSpec := { name := "curveCalibrated", fn := fun _ => fun
  | [d1, d2] => { results := [.lit (.bool false)], args := [d1, d2] }
  | _ => none }
def CurveCalibratedWrongFalsely : Prop := curveCalibratedRow.holds Try.pinned (OpenSpec.ofChange curveCalibratedWrong)

/-- 'printworkskeep2.OverprintSolids': WHATEVER THE INPUT: true; the input reads as it did. -/
def overprintSolidsSpec : ChangeSpec := { name := "overprintSolids", fn := fun _ => fun
  | [d1, d2, d3, d4, d5] => { results := [.lit (.bool true)], args := [d1, d2, d3, d4, d5] }
  | _ => none }
def overprintSolidsRow : OpenClaim := { program := "ytfgaefpdccdfiaa", sum := "cc1270df32855d8eaa26353b1de4406905b1ae726cb1094cf1dbbcdbe22714b6", func := "printworks/printworkskeep2.OverprintSolids", spec := "overprintSolids", unfollowed := true, recurses := true, apart := false }
def OverprintSolidsSaid : Prop := overprintSolidsRow.holds Try.pinned (OpenSpec.ofChange overprintSolidsSpec)

/-- ITS FALSE NEIGHBOUR: 'it returns false'. Refute it at one input. -/
def overprintSolidsWrong : ChangeSpec := { name := "overprintSolids", fn := fun _ => fun
  | [d1, d2, d3, d4, d5] => { results := [.lit (.bool false)], args := [d1, d2, d3, d4, d5] }
  | _ => none }
def OverprintSolidsWrongFalsely : Prop := overprintSolidsRow.holds Try.pinned (OpenSpec.ofChange overprintSolidsWrong)

/-- 'printworkskeep2.SpotOrder': WHATEVER THE INPUT: true; the input reads as it did. -/
def spotOrderSpec : ChangeSpec := { name := "spotOrder", fn := fun _ => fun
  | [d1, d2, d3, d4] => { results := [.lit (.bool true)], args := [d1, d2, d3, d4] }
  | _ => none }
def spotOrderRow : OpenClaim := { program := "ytfgaefpdccdfiaa", sum := "cc1270df32855d8eaa26353b1de4406905b1ae726cb1094cf1dbbcdbe22714b6", func := "printworks/printworkskeep2.SpotOrder", spec := "spotOrder", unfollowed := true, recurses := true, apart := false }
def SpotOrderSaid : Prop := spotOrderRow.holds Try.pinned (OpenSpec.ofChange spotOrderSpec)

/-- ITS FALSE NEIGHBOUR: 'it returns false'. Refute it at one input. -/
def spotOrderWrong : ChangeSpec := { name := "spotOrder", fn := fun _ => fun
  | [d1, d2, d3, d4] => { results := [.lit (.bool false)], args := [d1, d2, d3, d4] }
  | _ => none }
def SpotOrderWrongFalsely : Prop := spotOrderRow.holds Try.pinned (OpenSpec.ofChange spotOrderWrong)

/-- 'printworkskeep2.SpotTintBetween': WHATEVER THE INPUT: true; the input reads as it did. -/
def spotTintBetweenSpec : ChangeSpec := { name := "spotTintBetween", fn := fun _ => fun
  | [d1, d2] => { results := [.lit (.bool true)], args := [d1, d2] }
  | _ => none }
def spotTintBetweenRow : OpenClaim := { program := "ytfgaefpdccdfiaa", sum := "cc1270df32855d8eaa26353b1de4406905b1ae726cb1094cf1dbbcdbe22714b6", func := "printworks/printworkskeep2.SpotTintBetween", spec := "spotTintBetween", unfollowed := true, recurses := true, apart := false }
def SpotTintBetweenSaid : Prop := spotTintBetweenRow.holds Try.pinned (OpenSpec.ofChange spotTintBetweenSpec)

/-- ITS FALSE NEIGHBOUR: 'it returns false'. Refute it at one input. -/
def spotTintBetweenWrong : ChangeSpec := { name := "spotTintBetween", fn := fun _ => fun
  | [d1, d2] => { results := [.lit (.bool false)], args := [d1, d2] }
  | _ => none }
def SpotTintBetweenWrongFalsely : Prop := spotTintBetweenRow.holds Try.pinned (OpenSpec.ofChange spotTintBetweenWrong)

/-- 'printworkskeep2.SpotMergedTwice': WHATEVER THE INPUT: true; the input reads as it did. -/
def spotMergedTwiceSpec : ChangeSpec := { name := "spotMergedTwice", fn := fun _ => fun
  | [d1, d2] => { results := [.lit (.bool true)], args := [d1, d2] }
  | _ => none }
def spotMergedTwiceRow : OpenClaim := { program := "ytfgaefpdccdfiaa", sum := "cc1270df32855d8eaa26353b1de4406905b1ae726cb1094cf1dbbcdbe22714b6", func := "printworks/printworkskeep2.SpotMergedTwice", spec := "spotMergedTwice", unfollowed := true, recurses := true, apart := false }
def SpotMergedTwiceSaid : Prop := spotMergedTwiceRow.holds Try.pinned (OpenSpec.ofChange spotMergedTwiceSpec)

/-- ITS FALSE NEIGHBOUR: 'it returns false'. Refute it at one input. -/
def spotMergedTwiceWrong : ChangeSpec := { name := "spotMergedTwice", fn := fun _ => fun
  | [d1, d2] => { results := [.lit (.bool false)], args := [d1, d2] }
  | _ => none }
def SpotMergedTwiceWrongFalsely : Prop := spotMergedTwiceRow.holds Try.pinned (OpenSpec.ofChange spotMergedTwiceWrong)

/- THE SECOND FORM. 'bulk': how many values and letters a reading holds, each counted each time it is reached (what is shared counts as often as it is met; a slice's spare places count too). A statement '..UptoSaid' is the law's where the arguments, and the package variables that the reading takes, are together of bulk at most 1048576: NARROWER than '..Said'. Prove '..Said' where nothing that the law and all that it calls make is longer than what came in: it says more and counts as full. Else prove '..UptoSaid'. A law counts once. -/
mutual
def uptoBulk {H : Type} : DataW H → Nat
  | .lit (.string bytes) => bytes.length + 1
  | .lit _ => 1
  | .nil => 1
  | .ptr d => uptoBulk d + 1
  | .slice elems spare => uptoBulkAll elems + uptoBulkAll spare + 1
  | .agg parts => uptoBulkAll parts + 1
  | .iface _ d => uptoBulk d + 1
  | .map entries => uptoBulkEntries entries + 1
  | .held _ => 1
def uptoBulkAll {H : Type} : List (DataW H) → Nat
  | [] => 0
  | d :: r => uptoBulk d + uptoBulkAll r
def uptoBulkEntries {H : Type} : List (Lit × DataW H) → Nat
  | [] => 0
  | x :: r => uptoBulkEntry x + uptoBulkEntries r
def uptoBulkEntry {H : Type} : Lit × DataW H → Nat
  | (.string bytes, d) => bytes.length + uptoBulk d + 1
  | (_, d) => uptoBulk d + 1
 end
def uptoSmall : (H : Type) → List (DataW H) → Bool := fun _ ds => decide (uptoBulkAll ds ≤ 1048576)
def OpenSpec.upto (s : _root_.Go.ChangeSpec) : _root_.Go.OpenSpec := { _root_.Go.OpenSpec.ofChange s with cond := some uptoSmall }

/-- 'printworkskeep2.OverprintShares', WHERE WHAT IT READS IS OF BULK AT MOST 1048576: true; the input reads as it did. -/
def overprintSharesUptoRow : OpenClaim := { program := "ytfgaefpdccdfiaa", sum := "cc1270df32855d8eaa26353b1de4406905b1ae726cb1094cf1dbbcdbe22714b6", func := "printworks/printworkskeep2.OverprintShares", spec := "overprintShares", unfollowed := true, recurses := true, apart := false, narrowed := true }
def OverprintSharesUptoSaid : Prop := overprintSharesUptoRow.holds Try.pinned (OpenSpec.upto overprintSharesSpec)

/-- 'printworkskeep2.OverprintLayers', WHERE WHAT IT READS IS OF BULK AT MOST 1048576: true; the input reads as it did. -/
def overprintLayersUptoRow : OpenClaim := { program := "ytfgaefpdccdfiaa", sum := "cc1270df32855d8eaa26353b1de4406905b1ae726cb1094cf1dbbcdbe22714b6", func := "printworks/printworkskeep2.OverprintLayers", spec := "overprintLayers", unfollowed := true, recurses := true, apart := false, narrowed := true }
def OverprintLayersUptoSaid : Prop := overprintLayersUptoRow.holds Try.pinned (OpenSpec.upto overprintLayersSpec)

/-- 'printworkskeep2.RefspaceReturns', WHERE WHAT IT READS IS OF BULK AT MOST 1048576: true; the input reads as it did. -/
def refspaceReturnsUptoRow : OpenClaim := { program := "ytfgaefpdccdfiaa", sum := "cc1270df32855d8eaa26353b1de4406905b1ae726cb1094cf1dbbcdbe22714b6", func := "printworks/printworkskeep2.RefspaceReturns", spec := "refspaceReturns", unfollowed := true, recurses := true, apart := false, narrowed := true }
def RefspaceReturnsUptoSaid : Prop := refspaceReturnsUptoRow.holds Try.pinned (OpenSpec.upto refspaceReturnsSpec)

/-- 'printworkskeep2.RefspaceTriangle', WHERE WHAT IT READS IS OF BULK AT MOST 1048576: true; the input reads as it did. -/
def refspaceTriangleUptoRow : OpenClaim := { program := "ytfgaefpdccdfiaa", sum := "cc1270df32855d8eaa26353b1de4406905b1ae726cb1094cf1dbbcdbe22714b6", func := "printworks/printworkskeep2.RefspaceTriangle", spec := "refspaceTriangle", unfollowed := true, recurses := true, apart := false, narrowed := true }
def RefspaceTriangleUptoSaid : Prop := refspaceTriangleUptoRow.holds Try.pinned (OpenSpec.upto refspaceTriangleSpec)

/-- 'printworkskeep2.InklimitHolds', WHERE WHAT IT READS IS OF BULK AT MOST 1048576: true; the input reads as it did. -/
def inklimitHoldsUptoRow : OpenClaim := { program := "ytfgaefpdccdfiaa", sum := "cc1270df32855d8eaa26353b1de4406905b1ae726cb1094cf1dbbcdbe22714b6", func := "printworks/printworkskeep2.InklimitHolds", spec := "inklimitHolds", apart := false, narrowed := true }
def InklimitHoldsUptoSaid : Prop := inklimitHoldsUptoRow.holds Try.pinned (OpenSpec.upto inklimitHoldsSpec)

/-- 'printworkskeep2.InklimitGreys', WHERE WHAT IT READS IS OF BULK AT MOST 1048576: true; the input reads as it did. -/
def inklimitGreysUptoRow : OpenClaim := { program := "ytfgaefpdccdfiaa", sum := "cc1270df32855d8eaa26353b1de4406905b1ae726cb1094cf1dbbcdbe22714b6", func := "printworks/printworkskeep2.InklimitGreys", spec := "inklimitGreys", apart := false, narrowed := true }
def InklimitGreysUptoSaid : Prop := inklimitGreysUptoRow.holds Try.pinned (OpenSpec.upto inklimitGreysSpec)

/-- 'printworkskeep2.CurveFlips', WHERE WHAT IT READS IS OF BULK AT MOST 1048576: true; the input reads as it did. -/
def curveFlipsUptoRow : OpenClaim := { program := "ytfgaefpdccdfiaa", sum := "cc1270df32855d8eaa26353b1de4406905b1ae726cb1094cf1dbbcdbe22714b6", func := "printworks/printworkskeep2.CurveFlips", spec := "curveFlips", apart := false, narrowed := true }
def CurveFlipsUptoSaid : Prop := curveFlipsUptoRow.holds Try.pinned (OpenSpec.upto curveFlipsSpec)

/-- 'printworkskeep2.CurveCalibrated', WHERE WHAT IT READS IS OF BULK AT MOST 1048576: true; the input reads as it did. -/
def curveCalibratedUptoRow : OpenClaim := { program := "ytfgaefpdccdfiaa", sum := "cc1270df32855d8eaa26353b1de4406905b1ae726cb1094cf1dbbcdbe22714b6", func := "printworks/printworkskeep2.CurveCalibrated", spec := "curveCalibrated", apart := false, narrowed := true }
def CurveCalibratedUptoSaid : Prop := curveCalibratedUptoRow.holds Try.pinned (OpenSpec.upto curveCalibratedSpec)

/-- 'printworkskeep2.OverprintSolids', WHERE WHAT IT READS IS OF BULK AT MOST 1048576: true; the input reads as it did. -/
def overprintSolidsUptoRow : OpenClaim := { program := "ytfgaefpdccdfiaa", sum := "cc1270df32855d8eaa26353b1de4406905b1ae726cb1094cf1dbbcdbe22714b6", func := "printworks/printworkskeep2.OverprintSolids", spec := "overprintSolids", unfollowed := true, recurses := true, apart := false, narrowed := true }
def OverprintSolidsUptoSaid : Prop := overprintSolidsUptoRow.holds Try.pinned (OpenSpec.upto overprintSolidsSpec)

/-- 'printworkskeep2.SpotOrder', WHERE WHAT IT READS IS OF BULK AT MOST 1048576: true; the input reads as it did. -/
def spotOrderUptoRow : OpenClaim := { program := "ytfgaefpdccdfiaa", sum := "cc1270df32855d8eaa26353b1de4406905b1ae726cb1094cf1dbbcdbe22714b6", func := "printworks/printworkskeep2.SpotOrder", spec := "spotOrder", unfollowed := true, recurses := true, apart := false, narrowed := true }
def SpotOrderUptoSaid : Prop := spotOrderUptoRow.holds Try.pinned (OpenSpec.upto spotOrderSpec)

/-- 'printworkskeep2.SpotTintBetween', WHERE WHAT IT READS IS OF BULK AT MOST 1048576: true; the input reads as it did. -/
def spotTintBetweenUptoRow : OpenClaim := { program := "ytfgaefpdccdfiaa", sum := "cc1270df32855d8eaa26353b1de4406905b1ae726cb1094cf1dbbcdbe22714b6", func := "printworks/printworkskeep2.SpotTintBetween", spec := "spotTintBetween", unfollowed := true, recurses := true, apart := false, narrowed := true }
def SpotTintBetweenUptoSaid : Prop := spotTintBetweenUptoRow.holds Try.pinned (OpenSpec.upto spotTintBetweenSpec)

/-- 'printworkskeep2.SpotMergedTwice', WHERE WHAT IT READS IS OF BULK AT MOST 1048576: true; the input reads as it did. -/
def spotMergedTwiceUptoRow : OpenClaim := { program := "ytfgaefpdccdfiaa", sum := "cc1270df32855d8eaa26353b1de4406905b1ae726cb1094cf1dbbcdbe22714b6", func := "printworks/printworkskeep2.SpotMergedTwice", spec := "spotMergedTwice", unfollowed := true, recurses := true, apart := false, narrowed := true }
def SpotMergedTwiceUptoSaid : Prop := spotMergedTwiceUptoRow.holds Try.pinned (OpenSpec.upto spotMergedTwiceSpec)

end Rows
end Go.Proofs.Ytfgaefpdccdfiaa
