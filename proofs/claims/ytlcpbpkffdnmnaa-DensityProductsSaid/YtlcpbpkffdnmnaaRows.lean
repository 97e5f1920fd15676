/-
  No cell of these rows narrows 'for every input' (looked for: loops, veiled, ifaces, maps, wideKeys, modest, calm, conditions, laid).
  DERIVED. THE GIVEN ROWS OF THIS SEAT. 5 by the template 'for every input the law returns true; each argument reads behind the call as it read before'; 0 by the template 'total and deterministic' (their statements: YtlcpbpkffdnmnaaTotals.lean).
  GIVEN WITH THE SEED: the statements are not yours to turn. If you find one false, say at which input.
  Laid BY PROGRAM, IN A SANDBOX (cutbox-rows.mjs): the forced cells as the released guide's own fill.sh prints them over the translation b7c600fa0e0b8e55… (all of the seat's roots in one cut). By AI agents, Wed Nov 11 2026. No macro, syntax, notation, axiom, sorry.
-/
import Derived.Test.YtlcpbpkffdnmnaaChecked
import GoSem.Claim
import GoSem.ClaimJoined
import GoSem.ClaimMapViews
import Derived.JoinedTies
import Derived.KernelRfl
namespace Go.Proofs.Ytlcpbpkffdnmnaa
/- THE CELL 'sum', in the pinned program and in every row, IS THE sha256 OF THE DUMP (.gsa) THAT YtlcpbpkffdnmnaaProg.lean LOADS. Nothing in Lean hashes anything: it is a label: what it is worth is what the hold of that sum in a sandbox is worth. -/
noncomputable def Try.pinned : Pinned := { name := "ytlcpbpkffdnmnaa", sum := "b7c600fa0e0b8e55dc96a1e31909c614fac9e20443b204c7ef82ff3ebd8ab11b", checked := Try.checked }
namespace Rows
def none {H : Type} : Left H := { results := [], args := [] }

/-- 'printworkskeep2.DensityProducts': WHATEVER THE INPUT: true; the input reads as it did. -/
def densityProductsSpec : ChangeSpec := { name := "densityProducts", fn := fun _ => fun
  | [d1, d2] => { results := [.lit (.bool true)], args := [d1, d2] }
  | _ => none }
def densityProductsRow : OpenClaim := { program := "ytlcpbpkffdnmnaa", sum := "b7c600fa0e0b8e55dc96a1e31909c614fac9e20443b204c7ef82ff3ebd8ab11b", func := "printworks/printworkskeep2.DensityProducts", spec := "densityProducts", apart := false }
def DensityProductsSaid : Prop := densityProductsRow.holds Try.pinned (OpenSpec.ofChange densityProductsSpec)

/-- ITS FALSE NEIGHBOUR: 'it returns false'. Refute it at one input. -/
def densityProductsWrong : ChangeSpec := { name := "densityProducts", fn := fun _ => fun
  | [d1, d2] => { results := [.lit (.bool false)], args := [d1, d2] }
  | _ => none }
def DensityProductsWrongFalsely : Prop := densityProductsRow.holds Try.pinned (OpenSpec.ofChange densityProductsWrong)

/-- 'printworkskeep2.DensityReturns': WHATEVER THE INPUT: true; the input reads as it did. -/
def densityReturnsSpec : ChangeSpec := { name := "densityReturns", fn := fun _ => fun
  | [d1, d2] => { results := [.lit (.bool true)], args := [d1, d2] }
  | _ => none }
def densityReturnsRow : OpenClaim := { program := "ytlcpbpkffdnmnaa", sum := "b7c600fa0e0b8e55dc96a1e31909c614fac9e20443b204c7ef82ff3ebd8ab11b", func := "printworks/printworkskeep2.DensityReturns", spec := "densityReturns", apart := false }
def DensityReturnsSaid : Prop := densityReturnsRow.holds Try.pinned (OpenSpec.ofChange densityReturnsSpec)

/-- ITS FALSE NEIGHBOUR: 'it returns false'. Refute it at one input. -/
def densityReturnsWrong : ChangeSpec := { name := "densityReturns", fn := fun _ => fun
  | [d1, d2] => { results := [.lit (.bool false)], args := [d1, d2] }
  | _ => none }
def DensityReturnsWrongFalsely : Prop := densityReturnsRow.holds Try.pinned (OpenSpec.ofChange densityReturnsWrong)

/-- 'printworkskeep2.DensityGalois': WHATEVER THE INPUT: true; the input reads as it did. -/
def densityGaloisSpec : ChangeSpec := { name := "densityGalois", fn := fun _ => fun
  | [d] => { results := [.lit (.bool true)], args := [d] }
  | _ => none }
def densityGaloisRow : OpenClaim := { program := "ytlcpbpkffdnmnaa", sum := "b7c600fa0e0b8e55dc96a1e31909c614fac9e20443b204c7ef82ff3ebd8ab11b", func := "printworks/printworkskeep2.DensityGalois", spec := "densityGalois", apart := false }
def DensityGaloisSaid : Prop := densityGaloisRow.holds Try.pinned (OpenSpec.ofChange densityGaloisSpec)

/-- ITS FALSE NEIGHBOUR: 'it returns false'. Refute it at one input. -/
def densityGaloisWrong : ChangeSpec := { name := "densityGalois", fn := fun _ => fun
  | [d] => { results := [.lit (.bool false)], args := [d] }
  | _ => none }
def DensityGaloisWrongFalsely : Prop := densityGaloisRow.holds Try.pinned (OpenSpec.ofChange densityGaloisWrong)

/-- 'printworkskeep2.CurveGalois': WHATEVER THE INPUT: true; the input reads as it did. -/
def curveGaloisSpec : ChangeSpec := { name := "curveGalois", fn := fun _ => fun
  | [d1, d2] => { results := [.lit (.bool true)], args := [d1, d2] }
  | _ => none }
def curveGaloisRow : OpenClaim := { program := "ytlcpbpkffdnmnaa", sum := "b7c600fa0e0b8e55dc96a1e31909c614fac9e20443b204c7ef82ff3ebd8ab11b", func := "printworks/printworkskeep2.CurveGalois", spec := "curveGalois", apart := false }
def CurveGaloisSaid : Prop := curveGaloisRow.holds Try.pinned (OpenSpec.ofChange curveGaloisSpec)

/-- ITS FALSE NEIGHBOUR: 'it returns false'. Refute it at one input. -/
def curveGaloisWrong : ChangeSpec := { name := "curveGalois", fn := fun _ => fun
  | [d1, d2] => { results := [.lit (.bool false)], args := [d1, d2] }
  | _ => none }
def CurveGaloisWrongFalsely : Prop := curveGaloisRow.holds Try.pinned (OpenSpec.ofChange curveGaloisWrong)

/-- 'printworkskeep2.CurveMonotone': WHATEVER THE INPUT: true; the input reads as it did. -/
def curveMonotoneSpec : ChangeSpec := { name := "curveMonotone", fn := fun _ => fun
  | [d1, d2, d3] => { results := [.lit (.bool true)], args := [d1, d2, d3] }
  | _ => none }
def curveMonotoneRow : OpenClaim := { program := "ytlcpbpkffdnmnaa", sum := "b7c600fa0e0b8e55dc96a1e31909c614fac9e20443b204c7ef82ff3ebd8ab11b", func := "printworks/printworkskeep2.CurveMonotone", spec := "curveMonotone", apart := false }
def CurveMonotoneSaid : Prop := curveMonotoneRow.holds Try.pinned (OpenSpec.ofChange curveMonotoneSpec)

/-- ITS FALSE NEIGHBOUR: 'it returns false'. Refute it at one input. -/
def curveMonotoneWrong : ChangeSpec := { name := "curveMonotone", fn := fun _ => fun
  | [d1, d2, d3] => { results := [.lit (.bool false)], args := [d1, d2, d3] }
  | _ => none }
def CurveMonotoneWrongFalsely : Prop := curveMonotoneRow.holds Try.pinned (OpenSpec.ofChange curveMonotoneWrong)

/- THE SECOND FORM. 'bulk': how many values and letters a reading holds, each counted each time it is reached (what is shared counts as often as it is met; a slice's spare places count too). A statement '..UptoSaid' is the law's where the arguments, and the package variables that the reading takes, are together of bulk at most 1048576: NARROWER than '..Said'. Prove '..Said' where nothing that the law and all that it calls make is longer than what came in: it says more and counts as full. Else prove '..UptoSaid'. A law counts once. -/
mutual
def uptoBulk {H : Type} : DataW H → Nat
  | .lit (.string bytes) => bytes.length + 1
  | .lit _ => 1
  | .nil => 1
  | .ptr d => uptoBulk d + 1
  | .slice elems spare => uptoBulkAll elems + uptoBulkAll spare + 1
  | .agg parts => uptoBulkAll parts + 1
  | .iface _ d => uptoBulk d + 1
  | .map entries => uptoBulkEntries entries + 1
  | .held _ => 1
def uptoBulkAll {H : Type} : List (DataW H) → Nat
  | [] => 0
  | d :: r => uptoBulk d + uptoBulkAll r
def uptoBulkEntries {H : Type} : List (Lit × DataW H) → Nat
  | [] => 0
  | x :: r => uptoBulkEntry x + uptoBulkEntries r
def uptoBulkEntry {H : Type} : Lit × DataW H → Nat
  | (.string bytes, d) => bytes.length + uptoBulk d + 1
  | (_, d) => uptoBulk d + 1
 end
def uptoSmall : (H : Type) → List (DataW H) → Bool := fun _ ds => decide (uptoBulkAll ds ≤ 1048576)
def OpenSpec.upto (s : _root_.Go.ChangeSpec) : _root_.Go.OpenSpec := { _root_.Go.OpenSpec.ofChange s with cond := some uptoSmall }

/-- 'printworkskeep2.DensityProducts', WHERE WHAT IT READS IS OF BULK AT MOST 1048576: true; the input reads as it did. -/
def densityProductsUptoRow : OpenClaim := { program := "ytlcpbpkffdnmnaa", sum := "b7c600fa0e0b8e55dc96a1e31909c614fac9e20443b204c7ef82ff3ebd8ab11b", func := "printworks/printworkskeep2.DensityProducts", spec := "densityProducts", apart := false, narrowed := true }
def DensityProductsUptoSaid : Prop := densityProductsUptoRow.holds Try.pinned (OpenSpec.upto densityProductsSpec)

/-- 'printworkskeep2.DensityReturns', WHERE WHAT IT READS IS OF BULK AT MOST 1048576: true; the input reads as it did. -/
def densityReturnsUptoRow : OpenClaim := { program := "ytlcpbpkffdnmnaa", sum := "b7c600fa0e0b8e55dc96a1e31909c614fac9e20443b204c7ef82ff3ebd8ab11b", func := "printworks/printworkskeep2.DensityReturns", spec := "densityReturns", apart := false, narrowed := true }
def DensityReturnsUptoSaid : Prop := densityReturnsUptoRow.holds Try.pinned (OpenSpec.upto densityReturnsSpec)

/-- 'printworkskeep2.DensityGalois', WHERE WHAT IT READS IS OF BULK AT MOST 1048576: true; the input reads as it did. -/
def densityGaloisUptoRow : OpenClaim := { program := "ytlcpbpkffdnmnaa", sum := "b7c600fa0e0b8e55dc96a1e31909c614fac9e20443b204c7ef82ff3ebd8ab11b", func := "printworks/printworkskeep2.DensityGalois", spec := "densityGalois", apart := false, narrowed := true }
def DensityGaloisUptoSaid : Prop := densityGaloisUptoRow.holds Try.pinned (OpenSpec.upto densityGaloisSpec)

/-- 'printworkskeep2.CurveGalois', WHERE WHAT IT READS IS OF BULK AT MOST 1048576: true; the input reads as it did. -/
def curveGaloisUptoRow : OpenClaim := { program := "ytlcpbpkffdnmnaa", sum := "b7c600fa0e0b8e55dc96a1e31909c614fac9e20443b204c7ef82ff3ebd8ab11b", func := "printworks/printworkskeep2.CurveGalois", spec := "curveGalois", apart := false, narrowed := true }
def CurveGaloisUptoSaid : Prop := curveGaloisUptoRow.holds Try.pinned (OpenSpec.upto curveGaloisSpec)

/-- 'printworkskeep2.CurveMonotone', WHERE WHAT IT READS IS OF BULK AT MOST 1048576: true; the input reads as it did. -/
def curveMonotoneUptoRow : OpenClaim := { program := "ytlcpbpkffdnmnaa", sum := "b7c600fa0e0b8e55dc96a1e31909c614fac9e20443b204c7ef82ff3ebd8ab11b", func := "printworks/printworkskeep2.CurveMonotone", spec := "curveMonotone", apart := false, narrowed := true }
def CurveMonotoneUptoSaid : Prop := curveMonotoneUptoRow.holds Try.pinned (OpenSpec.upto curveMonotoneSpec)

end Rows
end Go.Proofs.Ytlcpbpkffdnmnaa
