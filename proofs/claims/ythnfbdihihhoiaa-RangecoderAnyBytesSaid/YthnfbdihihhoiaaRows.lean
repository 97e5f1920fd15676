/-
  No cell of these rows narrows 'for every input' (looked for: loops, veiled, ifaces, maps, wideKeys, modest, calm, conditions, laid).
  DERIVED. THE GIVEN ROWS OF THIS SEAT. 12 by the template 'for every input the law returns true; each argument reads behind the call as it read before'; 0 by the template 'total and deterministic' (their statements: YthnfbdihihhoiaaTotals.lean).
  GIVEN WITH THE SEED: the statements are not yours to turn. If you find one false, say at which input.
  Laid BY PROGRAM, IN A SANDBOX (cutbox-rows.mjs): the forced cells as the released guide's own fill.sh prints them over the translation 55a59ed0a8e9adc7… (all of the seat's roots in one cut). By AI agents, Wed Nov 11 2026. No macro, syntax, notation, axiom, sorry.
-/
import Derived.Test.YthnfbdihihhoiaaChecked
import GoSem.Claim
import GoSem.ClaimJoined
import GoSem.ClaimMapViews
import Derived.JoinedTies
import Derived.KernelRfl
namespace Go.Proofs.Ythnfbdihihhoiaa
/- THE CELL 'sum', in the pinned program and in every row, IS THE sha256 OF THE DUMP (.gsa) THAT YthnfbdihihhoiaaProg.lean LOADS. Nothing in Lean hashes anything: it is a label: what it is worth is what the hold of that sum in a sandbox is worth. -/
noncomputable def Try.pinned : Pinned := { name := "ythnfbdihihhoiaa", sum := "55a59ed0a8e9adc719cc6707c47af442f3d8950a1d532e5df3aff54b857e3693", checked := Try.checked }
namespace Rows
def none {H : Type} : Left H := { results := [], args := [] }

/-- 'printworkskeep2.GridHull': WHATEVER THE INPUT: true; the input reads as it did. -/
def gridHullSpec : ChangeSpec := { name := "gridHull", fn := fun _ => fun
  | [d1, d2, d3, d4] => { results := [.lit (.bool true)], args := [d1, d2, d3, d4] }
  | _ => none }
def gridHullRow : OpenClaim := { program := "ythnfbdihihhoiaa", sum := "55a59ed0a8e9adc719cc6707c47af442f3d8950a1d532e5df3aff54b857e3693", func := "printworks/printworkskeep2.GridHull", spec := "gridHull", apart := false }
def GridHullSaid : Prop := gridHullRow.holds Try.pinned (OpenSpec.ofChange gridHullSpec)

/-- ITS FALSE NEIGHBOUR: 'it returns false'. Refute it at one input. -/
def gridHullWrong : ChangeSpec := { name := "gridHull", fn := fun _ => fun
  | [d1, d2, d3, d4] => { results := [.lit (.bool false)], args := [d1, d2, d3, d4] }
  | _ => none }
def GridHullWrongFalsely : Prop := gridHullRow.holds Try.pinned (OpenSpec.ofChange gridHullWrong)

/-- 'printworkskeep2.GridAffine': WHATEVER THE INPUT: true; the input reads as it did. -/
def gridAffineSpec : ChangeSpec := { name := "gridAffine", fn := fun _ => fun
  | [d1, d2, d3, d4] => { results := [.lit (.bool true)], args := [d1, d2, d3, d4] }
  | _ => none }
def gridAffineRow : OpenClaim := { program := "ythnfbdihihhoiaa", sum := "55a59ed0a8e9adc719cc6707c47af442f3d8950a1d532e5df3aff54b857e3693", func := "printworks/printworkskeep2.GridAffine", spec := "gridAffine", apart := false }
def GridAffineSaid : Prop := gridAffineRow.holds Try.pinned (OpenSpec.ofChange gridAffineSpec)

/-- ITS FALSE NEIGHBOUR: 'it returns false'. Refute it at one input. -/
def gridAffineWrong : ChangeSpec := { name := "gridAffine", fn := fun _ => fun
  | [d1, d2, d3, d4] => { results := [.lit (.bool false)], args := [d1, d2, d3, d4] }
  | _ => none }
def GridAffineWrongFalsely : Prop := gridAffineRow.holds Try.pinned (OpenSpec.ofChange gridAffineWrong)

/-- 'printworkskeep2.GridAxes': WHATEVER THE INPUT: true; the input reads as it did. -/
def gridAxesSpec : ChangeSpec := { name := "gridAxes", fn := fun _ => fun
  | [d1, d2] => { results := [.lit (.bool true)], args := [d1, d2] }
  | _ => none }
def gridAxesRow : OpenClaim := { program := "ythnfbdihihhoiaa", sum := "55a59ed0a8e9adc719cc6707c47af442f3d8950a1d532e5df3aff54b857e3693", func := "printworks/printworkskeep2.GridAxes", spec := "gridAxes", apart := false }
def GridAxesSaid : Prop := gridAxesRow.holds Try.pinned (OpenSpec.ofChange gridAxesSpec)

/-- ITS FALSE NEIGHBOUR: 'it returns false'. Refute it at one input. -/
def gridAxesWrong : ChangeSpec := { name := "gridAxes", fn := fun _ => fun
  | [d1, d2] => { results := [.lit (.bool false)], args := [d1, d2] }
  | _ => none }
def GridAxesWrongFalsely : Prop := gridAxesRow.holds Try.pinned (OpenSpec.ofChange gridAxesWrong)

/-- 'printworkskeep2.GridRefined': WHATEVER THE INPUT: true; the input reads as it did. -/
def gridRefinedSpec : ChangeSpec := { name := "gridRefined", fn := fun _ => fun
  | [d1, d2, d3] => { results := [.lit (.bool true)], args := [d1, d2, d3] }
  | _ => none }
def gridRefinedRow : OpenClaim := { program := "ythnfbdihihhoiaa", sum := "55a59ed0a8e9adc719cc6707c47af442f3d8950a1d532e5df3aff54b857e3693", func := "printworks/printworkskeep2.GridRefined", spec := "gridRefined", unfollowed := true, recurses := true, apart := false }
def GridRefinedSaid : Prop := gridRefinedRow.holds Try.pinned (OpenSpec.ofChange gridRefinedSpec)

/-- ITS FALSE NEIGHBOUR: 'it returns false'. Refute it at one input. -/
def gridRefinedWrong : ChangeSpec := { name := "gridRefined", fn := fun _ => fun
  | [d1, d2, d3] => { results := [.lit (.bool false)], args := [d1, d2, d3] }
  | _ => none }
def GridRefinedWrongFalsely : Prop := gridRefinedRow.holds Try.pinned (OpenSpec.ofChange gridRefinedWrong)

/-- 'printworkskeep2.ProfileComposed': WHATEVER THE INPUT: true; the input reads as it did. -/
def profileComposedSpec : ChangeSpec := { name := "profileComposed", fn := fun _ => fun
  | [d1, d2] => { results := [.lit (.bool true)], args := [d1, d2] }
  | _ => none }
def profileComposedRow : OpenClaim := { program := "ythnfbdihihhoiaa", sum := "55a59ed0a8e9adc719cc6707c47af442f3d8950a1d532e5df3aff54b857e3693", func := "printworks/printworkskeep2.ProfileComposed", spec := "profileComposed", apart := false }
def ProfileComposedSaid : Prop := profileComposedRow.holds Try.pinned (OpenSpec.ofChange profileComposedSpec)

/-- ITS FALSE NEIGHBOUR: 'it returns false'. Refute it at one input. -/
def profileComposedWrong : ChangeSpec := { name := "profileComposed", fn := fun _ => fun
  | [d1, d2] => { results := [.lit (.bool false)], args := [d1, d2] }
  | _ => none }
def ProfileComposedWrongFalsely : Prop := profileComposedRow.holds Try.pinned (OpenSpec.ofChange profileComposedWrong)

/-- 'printworkskeep2.RangecoderReturns': WHATEVER THE INPUT: true; the input reads as it did. -/
def rangecoderReturnsSpec : ChangeSpec := { name := "rangecoderReturns", fn := fun _ => fun
  | [d1, d2, d3] => { results := [.lit (.bool true)], args := [d1, d2, d3] }
  | _ => none }
def rangecoderReturnsRow : OpenClaim := { program := "ythnfbdihihhoiaa", sum := "55a59ed0a8e9adc719cc6707c47af442f3d8950a1d532e5df3aff54b857e3693", func := "printworks/printworkskeep2.RangecoderReturns", spec := "rangecoderReturns", apart := false }
def RangecoderReturnsSaid : Prop := rangecoderReturnsRow.holds Try.pinned (OpenSpec.ofChange rangecoderReturnsSpec)

/-- ITS FALSE NEIGHBOUR: 'it returns false'. Refute it at one input. -/
def rangecoderReturnsWrong : ChangeSpec := { name := "rangecoderReturns", fn := fun _ => fun
  | [d1, d2, d3] => { results := [.lit (.bool false)], args := [d1, d2, d3] }
  | _ => none }
def RangecoderReturnsWrongFalsely : Prop := rangecoderReturnsRow.holds Try.pinned (OpenSpec.ofChange rangecoderReturnsWrong)

/-- 'printworkskeep2.RangecoderShort': WHATEVER THE INPUT: true; the input reads as it did. -/
def rangecoderShortSpec : ChangeSpec := { name := "rangecoderShort", fn := fun _ => fun
  | [d] => { results := [.lit (.bool true)], args := [d] }
  | _ => none }
def rangecoderShortRow : OpenClaim := { program := "ythnfbdihihhoiaa", sum := "55a59ed0a8e9adc719cc6707c47af442f3d8950a1d532e5df3aff54b857e3693", func := "printworks/printworkskeep2.RangecoderShort", spec := "rangecoderShort", apart := false }
def RangecoderShortSaid : Prop := rangecoderShortRow.holds Try.pinned (OpenSpec.ofChange rangecoderShortSpec)

/-- ITS FALSE NEIGHBOUR: 'it returns false'. Refute it at one input. -/
def rangecoderShortWrong : ChangeSpec := { name := "rangecoderShort", fn := fun _ => fun
  | [d] => { results := [.lit (.bool false)], args := [d] }
  | _ => none }
def RangecoderShortWrongFalsely : Prop := rangecoderShortRow.holds Try.pinned (OpenSpec.ofChange rangecoderShortWrong)

/-- 'printworkskeep2.RangecoderAnyBytes': WHATEVER THE INPUT: true; the input reads as it did. -/
def rangecoderAnyBytesSpec : ChangeSpec := { name := "rangecoderAnyBytes", fn := fun _ => fun
  | [d1, d2] => { results := [.lit (.bool true)], args := [d1, d2] }
  | _ => none }
def rangecoderAnyBytesRow : OpenClaim := { program := "ythnfbdihihhoiaa", sum := "55a59ed0a8e9adc719cc6707c47af442f3d8950a1d532e5df3aff54b857e3693", func := "printworks/printworkskeep2.RangecoderAnyBytes", spec := "rangecoderAnyBytes", apart := false }
def RangecoderAnyBytesSaid : Prop := rangecoderAnyBytesRow.holds Try.pinned (OpenSpec.ofChange rangecoderAnyBytesSpec)

/-- ITS FALSE NEIGHBOUR: 'it returns false'. Refute it at one input. -/
def rangecoderAnyBytesWrong : ChangeSpec := { name := "rangecoderAnyBytes", fn := fun _ => fun
  | [d1, d2] => { results := [.lit (.bool false)], args := [d1, d2] }
  | _ => none }
def RangecoderAnyBytesWrongFalsely : Prop := rangecoderAnyBytesRow.holds Try.pinned (OpenSpec.ofChange rangecoderAnyBytesWrong)

/-- 'printworkskeep2.ReedsolomonSums': WHATEVER THE INPUT: true; the input reads as it did. -/
def reedsolomonSumsSpec : ChangeSpec := { name := "reedsolomonSums", fn := fun _ => fun
  | [d1, d2, d3, d4, d5] => { results := [.lit (.bool true)], args := [d1, d2, d3, d4, d5] }
  | _ => none }
def reedsolomonSumsRow : OpenClaim := { program := "ythnfbdihihhoiaa", sum := "55a59ed0a8e9adc719cc6707c47af442f3d8950a1d532e5df3aff54b857e3693", func := "printworks/printworkskeep2.ReedsolomonSums", spec := "reedsolomonSums", apart := false }
def ReedsolomonSumsSaid : Prop := reedsolomonSumsRow.holds Try.pinned (OpenSpec.ofChange reedsolomonSumsSpec)

/-- ITS FALSE NEIGHBOUR: 'it returns false'. Refute it at one input. -/
def reedsolomonSumsWrong : ChangeSpec := { name := "reedsolomonSums", fn := fun _ => fun
  | [d1, d2, d3, d4, d5] => { results := [.lit (.bool false)], args := [d1, d2, d3, d4, d5] }
  | _ => none }
def ReedsolomonSumsWrongFalsely : Prop := reedsolomonSumsRow.holds Try.pinned (OpenSpec.ofChange reedsolomonSumsWrong)

/-- 'printworkskeep2.ReedsolomonCorrects': WHATEVER THE INPUT: true; the input reads as it did. -/
def reedsolomonCorrectsSpec : ChangeSpec := { name := "reedsolomonCorrects", fn := fun _ => fun
  | [d1, d2, d3, d4, d5] => { results := [.lit (.bool true)], args := [d1, d2, d3, d4, d5] }
  | _ => none }
def reedsolomonCorrectsRow : OpenClaim := { program := "ythnfbdihihhoiaa", sum := "55a59ed0a8e9adc719cc6707c47af442f3d8950a1d532e5df3aff54b857e3693", func := "printworks/printworkskeep2.ReedsolomonCorrects", spec := "reedsolomonCorrects", apart := false }
def ReedsolomonCorrectsSaid : Prop := reedsolomonCorrectsRow.holds Try.pinned (OpenSpec.ofChange reedsolomonCorrectsSpec)

/-- ITS FALSE NEIGHBOUR: 'it returns false'. Refute it at one input. -/
def reedsolomonCorrectsWrong : ChangeSpec := { name := "reedsolomonCorrects", fn := fun _ => fun
  | [d1, d2, d3, d4, d5] => { results := [.lit (.bool false)], args := [d1, d2, d3, d4, d5] }
  | _ => none }
def ReedsolomonCorrectsWrongFalsely : Prop := reedsolomonCorrectsRow.holds Try.pinned (OpenSpec.ofChange reedsolomonCorrectsWrong)

/-- 'printworkskeep2.ScreenRepeats': WHATEVER THE INPUT: true; the input reads as it did. -/
def screenRepeatsSpec : ChangeSpec := { name := "screenRepeats", fn := fun _ => fun
  | [d1, d2, d3] => { results := [.lit (.bool true)], args := [d1, d2, d3] }
  | _ => none }
def screenRepeatsRow : OpenClaim := { program := "ythnfbdihihhoiaa", sum := "55a59ed0a8e9adc719cc6707c47af442f3d8950a1d532e5df3aff54b857e3693", func := "printworks/printworkskeep2.ScreenRepeats", spec := "screenRepeats", unfollowed := true, recurses := true, apart := false }
def ScreenRepeatsSaid : Prop := screenRepeatsRow.holds Try.pinned (OpenSpec.ofChange screenRepeatsSpec)

/-- ITS FALSE NEIGHBOUR: 'it returns false'. Refute it at one input. -/
def screenRepeatsWrong : ChangeSpec := { name := "screenRepeats", fn := fun _ => fun
  | [d1, d2, d3] => { results := [.lit (.bool false)], args := [d1, d2, d3] }
  | _ => none }
def ScreenRepeatsWrongFalsely : Prop := screenRepeatsRow.holds Try.pinned (OpenSpec.ofChange screenRepeatsWrong)

/-- 'printworkskeep2.ScreenCommonShifts': WHATEVER THE INPUT: true; the input reads as it did. -/
def screenCommonShiftsSpec : ChangeSpec := { name := "screenCommonShifts", fn := fun _ => fun
  | [d1, d2, d3, d4] => { results := [.lit (.bool true)], args := [d1, d2, d3, d4] }
  | _ => none }
def screenCommonShiftsRow : OpenClaim := { program := "ythnfbdihihhoiaa", sum := "55a59ed0a8e9adc719cc6707c47af442f3d8950a1d532e5df3aff54b857e3693", func := "printworks/printworkskeep2.ScreenCommonShifts", spec := "screenCommonShifts", unfollowed := true, recurses := true, apart := false }
def ScreenCommonShiftsSaid : Prop := screenCommonShiftsRow.holds Try.pinned (OpenSpec.ofChange screenCommonShiftsSpec)

/-- ITS FALSE NEIGHBOUR: 'it returns false'. Refute it at one input. -/
def screenCommonShiftsWrong : ChangeSpec := { name := "screenCommonShifts", fn := fun _ => fun
  | [d1, d2, d3, d4] => { results := [.lit (.bool false)], args := [d1, d2, d3, d4] }
  | _ => none }
def ScreenCommonShiftsWrongFalsely : Prop := screenCommonShiftsRow.holds Try.pinned (OpenSpec.ofChange screenCommonShiftsWrong)

/- THE SECOND FORM. 'bulk': how many values and letters a reading holds, each counted each time it is reached (what is shared counts as often as it is met; a slice's spare places count too). A statement '..UptoSaid' is the law's where the arguments, and the package variables that the reading takes, are together of bulk at most 1048576: NARROWER than '..Said'. Prove '..Said' where nothing that the law and all that it calls make is longer than what came in: it says more and counts as full. Else prove '..UptoSaid'. A law counts once. -/
mutual
def uptoBulk {H : Type} : DataW H → Nat
  | .lit (.string bytes) => bytes.length + 1
  | .lit _ => 1
  | .nil => 1
  | .ptr d => uptoBulk d + 1
  | .slice elems spare => uptoBulkAll elems + uptoBulkAll spare + 1
  | .agg parts => uptoBulkAll parts + 1
  | .iface _ d => uptoBulk d + 1
  | .map entries => uptoBulkEntries entries + 1
  | .held _ => 1
def uptoBulkAll {H : Type} : List (DataW H) → Nat
  | [] => 0
  | d :: r => uptoBulk d + uptoBulkAll r
def uptoBulkEntries {H : Type} : List (Lit × DataW H) → Nat
  | [] => 0
  | x :: r => uptoBulkEntry x + uptoBulkEntries r
def uptoBulkEntry {H : Type} : Lit × DataW H → Nat
  | (.string bytes, d) => bytes.length + uptoBulk d + 1
  | (_, d) => uptoBulk d + 1
 end
def uptoSmall : (H : Type) → List (DataW H) → Bool := fun _ ds => decide (uptoBulkAll ds ≤ 1048576)
def OpenSpec.upto (s : _root_.Go.ChangeSpec) : _root_.Go.OpenSpec := { _root_.Go.OpenSpec.ofChange s with cond := some uptoSmall }

/-- 'printworkskeep2.GridHull', WHERE WHAT IT READS IS OF BULK AT MOST 1048576: true; the input reads as it did. -/
def gridHullUptoRow : OpenClaim := { program := "ythnfbdihihhoiaa", sum := "55a59ed0a8e9adc719cc6707c47af442f3d8950a1d532e5df3aff54b857e3693", func := "printworks/printworkskeep2.GridHull", spec := "gridHull", apart := false, narrowed := true }
def GridHullUptoSaid : Prop := gridHullUptoRow.holds Try.pinned (OpenSpec.upto gridHullSpec)

/-- 'printworkskeep2.GridAffine', WHERE WHAT IT READS IS OF BULK AT MOST 1048576: true; the input reads as it did. -/
def gridAffineUptoRow : OpenClaim := { program := "ythnfbdihihhoiaa", sum := "55a59ed0a8e9adc719cc6707c47af442f3d8950a1d532e5df3aff54b857e3693", func := "printworks/printworkskeep2.GridAffine", spec := "gridAffine", apart := false, narrowed := true }
def GridAffineUptoSaid : Prop := gridAffineUptoRow.holds Try.pinned (OpenSpec.upto gridAffineSpec)

/-- 'printworkskeep2.GridAxes', WHERE WHAT IT READS IS OF BULK AT MOST 1048576: true; the input reads as it did. -/
def gridAxesUptoRow : OpenClaim := { program := "ythnfbdihihhoiaa", sum := "55a59ed0a8e9adc719cc6707c47af442f3d8950a1d532e5df3aff54b857e3693", func := "printworks/printworkskeep2.GridAxes", spec := "gridAxes", apart := false, narrowed := true }
def GridAxesUptoSaid : Prop := gridAxesUptoRow.holds Try.pinned (OpenSpec.upto gridAxesSpec)

/-- 'printworkskeep2.GridRefined', WHERE WHAT IT READS IS OF BULK AT MOST 1048576: true; the input reads as it did. -/
def gridRefinedUptoRow : OpenClaim := { program := "ythnfbdihihhoiaa", sum := "55a59ed0a8e9adc719cc6707c47af442f3d8950a1d532e5df3aff54b857e3693", func := "printworks/printworkskeep2.GridRefined", spec := "gridRefined", unfollowed := true, recurses := true, apart := false, narrowed := true }
def GridRefinedUptoSaid : Prop := gridRefinedUptoRow.holds Try.pinned (OpenSpec.upto gridRefinedSpec)

/-- 'printworkskeep2.ProfileComposed', WHERE WHAT IT READS IS OF BULK AT MOST 1048576: true; the input reads as it did. -/
def profileComposedUptoRow : OpenClaim := { program := "ythnfbdihihhoiaa", sum := "55a59ed0a8e9adc719cc6707c47af442f3d8950a1d532e5df3aff54b857e3693", func := "printworks/printworkskeep2.ProfileComposed", spec := "profileComposed", apart := false, narrowed := true }
def ProfileComposedUptoSaid : Prop := profileComposedUptoRow.holds Try.pinned (OpenSpec.upto profileComposedSpec)

/-- 'printworkskeep2.RangecoderReturns', WHERE WHAT IT READS IS OF BULK AT MOST 1048576: true; the input reads as it did. -/
def rangecoderReturnsUptoRow : OpenClaim := { program := "ythnfbdihihhoiaa", sum := "55a59ed0a8e9adc719cc6707c47af442f3d8950a1d532e5df3aff54b857e3693", func := "printworks/printworkskeep2.RangecoderReturns", spec := "rangecoderReturns", apart := false, narrowed := true }
def RangecoderReturnsUptoSaid : Prop := rangecoderReturnsUptoRow.holds Try.pinned (OpenSpec.upto rangecoderReturnsSpec)

/-- 'printworkskeep2.RangecoderShort', WHERE WHAT IT READS IS OF BULK AT MOST 1048576: true; the input reads as it did. -/
def rangecoderShortUptoRow : OpenClaim := { program := "ythnfbdihihhoiaa", sum := "55a59ed0a8e9adc719cc6707c47af442f3d8950a1d532e5df3aff54b857e3693", func := "printworks/printworkskeep2.RangecoderShort", spec := "rangecoderShort", apart := false, narrowed := true }
def RangecoderShortUptoSaid : Prop := rangecoderShortUptoRow.holds Try.pinned (OpenSpec.upto rangecoderShortSpec)

/-- 'printworkskeep2.RangecoderAnyBytes', WHERE WHAT IT READS IS OF BULK AT MOST 1048576: true; the input reads as it did. -/
def rangecoderAnyBytesUptoRow : OpenClaim := { program := "ythnfbdihihhoiaa", sum := "55a59ed0a8e9adc719cc6707c47af442f3d8950a1d532e5df3aff54b857e3693", func := "printworks/printworkskeep2.RangecoderAnyBytes", spec := "rangecoderAnyBytes", apart := false, narrowed := true }
def RangecoderAnyBytesUptoSaid : Prop := rangecoderAnyBytesUptoRow.holds Try.pinned (OpenSpec.upto rangecoderAnyBytesSpec)

/-- 'printworkskeep2.ReedsolomonSums', WHERE WHAT IT READS IS OF BULK AT MOST 1048576: true; the input reads as it did. -/
def reedsolomonSumsUptoRow : OpenClaim := { program := "ythnfbdihihhoiaa", sum := "55a59ed0a8e9adc719cc6707c47af442f3d8950a1d532e5df3aff54b857e3693", func := "printworks/printworkskeep2.ReedsolomonSums", spec := "reedsolomonSums", apart := false, narrowed := true }
def ReedsolomonSumsUptoSaid : Prop := reedsolomonSumsUptoRow.holds Try.pinned (OpenSpec.upto reedsolomonSumsSpec)

/-- 'printworkskeep2.ReedsolomonCorrects', WHERE WHAT IT READS IS OF BULK AT MOST 1048576: true; the input reads as it did. -/
def reedsolomonCorrectsUptoRow : OpenClaim := { program := "ythnfbdihihhoiaa", sum := "55a59ed0a8e9adc719cc6707c47af442f3d8950a1d532e5df3aff54b857e3693", func := "printworks/printworkskeep2.ReedsolomonCorrects", spec := "reedsolomonCorrects", apart := false, narrowed := true }
def ReedsolomonCorrectsUptoSaid : Prop := reedsolomonCorrectsUptoRow.holds Try.pinned (OpenSpec.upto reedsolomonCorrectsSpec)

/-- 'printworkskeep2.ScreenRepeats', WHERE WHAT IT READS IS OF BULK AT MOST 1048576: true; the input reads as it did. -/
def screenRepeatsUptoRow : OpenClaim := { program := "ythnfbdihihhoiaa", sum := "55a59ed0a8e9adc719cc6707c47af442f3d8950a1d532e5df3aff54b857e3693", func := "printworks/printworkskeep2.ScreenRepeats", spec := "screenRepeats", unfollowed := true, recurses := true, apart := false, narrowed := true }
def ScreenRepeatsUptoSaid : Prop := screenRepeatsUptoRow.holds Try.pinned (OpenSpec.upto screenRepeatsSpec)

/-- 'printworkskeep2.ScreenCommonShifts', WHERE WHAT IT READS IS OF BULK AT MOST 1048576: true; the input reads as it did. -/
def screenCommonShiftsUptoRow : OpenClaim := { program := "ythnfbdihihhoiaa", sum := "55a59ed0a8e9adc719cc6707c47af442f3d8950a1d532e5df3aff54b857e3693", func := "printworks/printworkskeep2.ScreenCommonShifts", spec := "screenCommonShifts", unfollowed := true, recurses := true, apart := false, narrowed := true }
def ScreenCommonShiftsUptoSaid : Prop := screenCommonShiftsUptoRow.holds Try.pinned (OpenSpec.upto screenCommonShiftsSpec)

end Rows
end Go.Proofs.Ythnfbdihihhoiaa
