/-
  No cell of these rows narrows 'for every input' (looked for: loops, veiled, ifaces, maps, wideKeys, modest, calm, conditions, laid).
  DERIVED. THE GIVEN ROWS OF THIS SEAT. 5 by the template 'for every input the law returns true; each argument reads behind the call as it read before'; 0 by the template 'total and deterministic' (their statements: YthkilkjngincpaaTotals.lean).
  GIVEN WITH THE SEED: the statements are not yours to turn. If you find one false, say at which input.
  Laid BY PROGRAM, IN A SANDBOX (cutbox-rows.mjs): the forced cells as the released guide's own fill.sh prints them over the translation cd1fd49bb1271599… (all of the seat's roots in one cut). By AI agents, Wed Nov 11 2026. No macro, syntax, notation, axiom, sorry.
-/
import Derived.Test.YthkilkjngincpaaChecked
import GoSem.Claim
import GoSem.ClaimJoined
import GoSem.ClaimMapViews
import Derived.JoinedTies
import Derived.KernelRfl
namespace Go.Proofs.Ythkilkjngincpaa
/- THE CELL 'sum', in the pinned program and in every row, IS THE sha256 OF THE DUMP (.gsa) THAT YthkilkjngincpaaProg.lean LOADS. Nothing in Lean hashes anything: it is a label: what it is worth is what the hold of that sum in a sandbox is worth. -/
noncomputable def Try.pinned : Pinned := { name := "ythkilkjngincpaa", sum := "cd1fd49bb1271599308e2cbc0b159a3d66ed81199ea1cc1e1f29675a9e1beb00", checked := Try.checked }
namespace Rows
def none {H : Type} : Left H := { results := [], args := [] }

/-- 'printworkskeep2.MatrixWord': WHATEVER THE INPUT: true; the input reads as it did. -/
def matrixWordSpec : ChangeSpec := { name := "matrixWord", fn := fun _ => fun
  | [d1, d2] => { results := [.lit (.bool true)], args := [d1, d2] }
  | _ => none }
def matrixWordRow : OpenClaim := { program := "ythkilkjngincpaa", sum := "cd1fd49bb1271599308e2cbc0b159a3d66ed81199ea1cc1e1f29675a9e1beb00", func := "printworks/printworkskeep2.MatrixWord", spec := "matrixWord", unfollowed := true, recurses := true, apart := false }
def MatrixWordSaid : Prop := matrixWordRow.holds Try.pinned (OpenSpec.ofChange matrixWordSpec)

/-- ITS FALSE NEIGHBOUR: 'it returns false'. Refute it at one input. -/
def matrixWordWrong : ChangeSpec := { name := "matrixWord", fn := fun _ => fun
  | [d1, d2] => { results := [.lit (.bool false)], args := [d1, d2] }
  | _ => none }
def MatrixWordWrongFalsely : Prop := matrixWordRow.holds Try.pinned (OpenSpec.ofChange matrixWordWrong)

/-- 'printworkskeep2.ReedsolomonCorrects': WHATEVER THE INPUT: true; the input reads as it did. -/
def reedsolomonCorrectsSpec : ChangeSpec := { name := "reedsolomonCorrects", fn := fun _ => fun
  | [d1, d2, d3, d4, d5] => { results := [.lit (.bool true)], args := [d1, d2, d3, d4, d5] }
  | _ => none }
def reedsolomonCorrectsRow : OpenClaim := { program := "ythkilkjngincpaa", sum := "cd1fd49bb1271599308e2cbc0b159a3d66ed81199ea1cc1e1f29675a9e1beb00", func := "printworks/printworkskeep2.ReedsolomonCorrects", spec := "reedsolomonCorrects", apart := false }
def ReedsolomonCorrectsSaid : Prop := reedsolomonCorrectsRow.holds Try.pinned (OpenSpec.ofChange reedsolomonCorrectsSpec)

/-- ITS FALSE NEIGHBOUR: 'it returns false'. Refute it at one input. -/
def reedsolomonCorrectsWrong : ChangeSpec := { name := "reedsolomonCorrects", fn := fun _ => fun
  | [d1, d2, d3, d4, d5] => { results := [.lit (.bool false)], args := [d1, d2, d3, d4, d5] }
  | _ => none }
def ReedsolomonCorrectsWrongFalsely : Prop := reedsolomonCorrectsRow.holds Try.pinned (OpenSpec.ofChange reedsolomonCorrectsWrong)

/-- 'printworkskeep2.MatrixReturns': WHATEVER THE INPUT: true; the input reads as it did. -/
def matrixReturnsSpec : ChangeSpec := { name := "matrixReturns", fn := fun _ => fun
  | [d1, d2, d3, d4, d5] => { results := [.lit (.bool true)], args := [d1, d2, d3, d4, d5] }
  | _ => none }
def matrixReturnsRow : OpenClaim := { program := "ythkilkjngincpaa", sum := "cd1fd49bb1271599308e2cbc0b159a3d66ed81199ea1cc1e1f29675a9e1beb00", func := "printworks/printworkskeep2.MatrixReturns", spec := "matrixReturns", unfollowed := true, recurses := true, apart := false }
def MatrixReturnsSaid : Prop := matrixReturnsRow.holds Try.pinned (OpenSpec.ofChange matrixReturnsSpec)

/-- ITS FALSE NEIGHBOUR: 'it returns false'. Refute it at one input. -/
def matrixReturnsWrong : ChangeSpec := { name := "matrixReturns", fn := fun _ => fun
  | [d1, d2, d3, d4, d5] => { results := [.lit (.bool false)], args := [d1, d2, d3, d4, d5] }
  | _ => none }
def MatrixReturnsWrongFalsely : Prop := matrixReturnsRow.holds Try.pinned (OpenSpec.ofChange matrixReturnsWrong)

/-- 'printworkstop.TopMatrixRead': WHATEVER THE INPUT: true; the input reads as it did. -/
def topMatrixReadSpec : ChangeSpec := { name := "topMatrixRead", fn := fun _ => fun
  | [d1, d2, d3, d4] => { results := [.lit (.bool true)], args := [d1, d2, d3, d4] }
  | _ => none }
def topMatrixReadRow : OpenClaim := { program := "ythkilkjngincpaa", sum := "cd1fd49bb1271599308e2cbc0b159a3d66ed81199ea1cc1e1f29675a9e1beb00", func := "printworks/printworkstop.TopMatrixRead", spec := "topMatrixRead", unfollowed := true, recurses := true, apart := false }
def TopMatrixReadSaid : Prop := topMatrixReadRow.holds Try.pinned (OpenSpec.ofChange topMatrixReadSpec)

/-- ITS FALSE NEIGHBOUR: 'it returns false'. Refute it at one input. -/
def topMatrixReadWrong : ChangeSpec := { name := "topMatrixRead", fn := fun _ => fun
  | [d1, d2, d3, d4] => { results := [.lit (.bool false)], args := [d1, d2, d3, d4] }
  | _ => none }
def TopMatrixReadWrongFalsely : Prop := topMatrixReadRow.holds Try.pinned (OpenSpec.ofChange topMatrixReadWrong)

/-- 'printworkskeep2.StripDrawn': WHATEVER THE INPUT: true; the input reads as it did. -/
def stripDrawnSpec : ChangeSpec := { name := "stripDrawn", fn := fun _ => fun
  | [d1, d2, d3, d4] => { results := [.lit (.bool true)], args := [d1, d2, d3, d4] }
  | _ => none }
def stripDrawnRow : OpenClaim := { program := "ythkilkjngincpaa", sum := "cd1fd49bb1271599308e2cbc0b159a3d66ed81199ea1cc1e1f29675a9e1beb00", func := "printworks/printworkskeep2.StripDrawn", spec := "stripDrawn", unfollowed := true, recurses := true, apart := false }
def StripDrawnSaid : Prop := stripDrawnRow.holds Try.pinned (OpenSpec.ofChange stripDrawnSpec)

/-- ITS FALSE NEIGHBOUR: 'it returns false'. Refute it at one input. -/
def stripDrawnWrong : ChangeSpec := { name := "stripDrawn", fn := fun _ => fun
  | [d1, d2, d3, d4] => { results := [.lit (.bool false)], args := [d1, d2, d3, d4] }
  | _ => none }
def StripDrawnWrongFalsely : Prop := stripDrawnRow.holds Try.pinned (OpenSpec.ofChange stripDrawnWrong)

/- THE SECOND FORM. 'bulk': how many values and letters a reading holds, each counted each time it is reached (what is shared counts as often as it is met; a slice's spare places count too). A statement '..UptoSaid' is the law's where the arguments, and the package variables that the reading takes, are together of bulk at most 1048576: NARROWER than '..Said'. Prove '..Said' where nothing that the law and all that it calls make is longer than what came in: it says more and counts as full. Else prove '..UptoSaid'. A law counts once. -/
mutual
def uptoBulk {H : Type} : DataW H → Nat
  | .lit (.string bytes) => bytes.length + 1
  | .lit _ => 1
  | .nil => 1
  | .ptr d => uptoBulk d + 1
  | .slice elems spare => uptoBulkAll elems + uptoBulkAll spare + 1
  | .agg parts => uptoBulkAll parts + 1
  | .iface _ d => uptoBulk d + 1
  | .map entries => uptoBulkEntries entries + 1
  | .held _ => 1
def uptoBulkAll {H : Type} : List (DataW H) → Nat
  | [] => 0
  | d :: r => uptoBulk d + uptoBulkAll r
def uptoBulkEntries {H : Type} : List (Lit × DataW H) → Nat
  | [] => 0
  | x :: r => uptoBulkEntry x + uptoBulkEntries r
def uptoBulkEntry {H : Type} : Lit × DataW H → Nat
  | (.string bytes, d) => bytes.length + uptoBulk d + 1
  | (_, d) => uptoBulk d + 1
 end
def uptoSmall : (H : Type) → List (DataW H) → Bool := fun _ ds => decide (uptoBulkAll ds ≤ 1048576)
def OpenSpec.upto (s : _root_.Go.ChangeSpec) : _root_.Go.OpenSpec := { _root_.Go.OpenSpec.ofChange s with cond := some uptoSmall }

/-- 'printworkskeep2.MatrixWord', WHERE WHAT IT READS IS OF BULK AT MOST 1048576: true; the input reads as it did. -/
def matrixWordUptoRow : OpenClaim := { program := "ythkilkjngincpaa", sum := "cd1fd49bb1271599308e2cbc0b159a3d66ed81199ea1cc1e1f29675a9e1beb00", func := "printworks/printworkskeep2.MatrixWord", spec := "matrixWord", unfollowed := true, recurses := true, apart := false, narrowed := true }
def MatrixWordUptoSaid : Prop := matrixWordUptoRow.holds Try.pinned (OpenSpec.upto matrixWordSpec)

/-- 'printworkskeep2.ReedsolomonCorrects', WHERE WHAT IT READS IS OF BULK AT MOST 1048576: true; the input reads as it did. -/
def reedsolomonCorrectsUptoRow : OpenClaim := { program := "ythkilkjngincpaa", sum := "cd1fd49bb1271599308e2cbc0b159a3d66ed81199ea1cc1e1f29675a9e1beb00", func := "printworks/printworkskeep2.ReedsolomonCorrects", spec := "reedsolomonCorrects", apart := false, narrowed := true }
def ReedsolomonCorrectsUptoSaid : Prop := reedsolomonCorrectsUptoRow.holds Try.pinned (OpenSpec.upto reedsolomonCorrectsSpec)

/-- 'printworkskeep2.MatrixReturns', WHERE WHAT IT READS IS OF BULK AT MOST 1048576: true; the input reads as it did. -/
def matrixReturnsUptoRow : OpenClaim := { program := "ythkilkjngincpaa", sum := "cd1fd49bb1271599308e2cbc0b159a3d66ed81199ea1cc1e1f29675a9e1beb00", func := "printworks/printworkskeep2.MatrixReturns", spec := "matrixReturns", unfollowed := true, recurses := true, apart := false, narrowed := true }
def MatrixReturnsUptoSaid : Prop := matrixReturnsUptoRow.holds Try.pinned (OpenSpec.upto matrixReturnsSpec)

/-- 'printworkstop.TopMatrixRead', WHERE WHAT IT READS IS OF BULK AT MOST 1048576: true; the input reads as it did. -/
def topMatrixReadUptoRow : OpenClaim := { program := "ythkilkjngincpaa", sum := "cd1fd49bb1271599308e2cbc0b159a3d66ed81199ea1cc1e1f29675a9e1beb00", func := "printworks/printworkstop.TopMatrixRead", spec := "topMatrixRead", unfollowed := true, recurses := true, apart := false, narrowed := true }
def TopMatrixReadUptoSaid : Prop := topMatrixReadUptoRow.holds Try.pinned (OpenSpec.upto topMatrixReadSpec)

/-- 'printworkskeep2.StripDrawn', WHERE WHAT IT READS IS OF BULK AT MOST 1048576: true; the input reads as it did. -/
def stripDrawnUptoRow : OpenClaim := { program := "ythkilkjngincpaa", sum := "cd1fd49bb1271599308e2cbc0b159a3d66ed81199ea1cc1e1f29675a9e1beb00", func := "printworks/printworkskeep2.StripDrawn", spec := "stripDrawn", unfollowed := true, recurses := true, apart := false, narrowed := true }
def StripDrawnUptoSaid : Prop := stripDrawnUptoRow.holds Try.pinned (OpenSpec.upto stripDrawnSpec)

end Rows
end Go.Proofs.Ythkilkjngincpaa
