/-
  No cell of these rows narrows 'for every input' (looked for: loops, veiled, ifaces, maps, wideKeys, modest, calm, conditions, laid).
  DERIVED. THE GIVEN ROWS OF THIS SEAT. 4 by the template 'for every input the law returns true; each argument reads behind the call as it read before'; 0 by the template 'total and deterministic' (their statements: YtagfanbodglplaaTotals.lean).
  GIVEN WITH THE SEED: the statements are not yours to turn. If you find one false, say at which input.
  Laid BY PROGRAM, IN A SANDBOX (cutbox-rows.mjs): the forced cells as the released guide's own fill.sh prints them over the translation 2b2c6ce169071d2e… (all of the seat's roots in one cut). By AI agents, Wed Nov 11 2026. No macro, syntax, notation, axiom, sorry.
-/
import Derived.Test.YtagfanbodglplaaChecked
import GoSem.Claim
import GoSem.ClaimJoined
import GoSem.ClaimMapViews
import Derived.JoinedTies
import Derived.KernelRfl
namespace Go.Proofs.Ytagfanbodglplaa
/- THE CELL 'sum', in the pinned program and in every row, IS THE sha256 OF THE DUMP (.gsa) THAT YtagfanbodglplaaProg.lean LOADS. Nothing in Lean hashes anything: it is a label: what it is worth is what the hold of that sum in a sandbox is worth. -/
noncomputable def Try.pinned : Pinned := { name := "ytagfanbodglplaa", sum := "2b2c6ce169071d2e8de897e588bdfed22f6e01e41502c55c40dfd65c9c388dab", checked := Try.checked }
namespace Rows
def none {H : Type} : Left H := { results := [], args := [] }

/-- 'printworkskeep2.GamutBoundary': WHATEVER THE INPUT: true; the input reads as it did. -/
def gamutBoundarySpec : ChangeSpec := { name := "gamutBoundary", fn := fun _ => fun
  | [d1, d2, d3] => { results := [.lit (.bool true)], args := [d1, d2, d3] }
  | _ => none }
def gamutBoundaryRow : OpenClaim := { program := "ytagfanbodglplaa", sum := "2b2c6ce169071d2e8de897e588bdfed22f6e01e41502c55c40dfd65c9c388dab", func := "printworks/printworkskeep2.GamutBoundary", spec := "gamutBoundary", unfollowed := true, recurses := true, apart := false }
def GamutBoundarySaid : Prop := gamutBoundaryRow.holds Try.pinned (OpenSpec.ofChange gamutBoundarySpec)

/-- ITS FALSE NEIGHBOUR: 'it returns false'. Refute it at one input. -/
def gamutBoundaryWrong : ChangeSpec := { name := "gamutBoundary", fn := fun _ => fun
  | [d1, d2, d3] => { results := [.lit (.bool false)], args := [d1, d2, d3] }
  | _ => none }
def GamutBoundaryWrongFalsely : Prop := gamutBoundaryRow.holds Try.pinned (OpenSpec.ofChange gamutBoundaryWrong)

/-- 'printworkstop.TopCalibrated': WHATEVER THE INPUT: true; the input reads as it did. -/
def topCalibratedSpec : ChangeSpec := { name := "topCalibrated", fn := fun _ => fun
  | [d1, d2, d3] => { results := [.lit (.bool true)], args := [d1, d2, d3] }
  | _ => none }
def topCalibratedRow : OpenClaim := { program := "ytagfanbodglplaa", sum := "2b2c6ce169071d2e8de897e588bdfed22f6e01e41502c55c40dfd65c9c388dab", func := "printworks/printworkstop.TopCalibrated", spec := "topCalibrated", unfollowed := true, recurses := true, apart := false }
def TopCalibratedSaid : Prop := topCalibratedRow.holds Try.pinned (OpenSpec.ofChange topCalibratedSpec)

/-- ITS FALSE NEIGHBOUR: 'it returns false'. Refute it at one input. -/
def topCalibratedWrong : ChangeSpec := { name := "topCalibrated", fn := fun _ => fun
  | [d1, d2, d3] => { results := [.lit (.bool false)], args := [d1, d2, d3] }
  | _ => none }
def TopCalibratedWrongFalsely : Prop := topCalibratedRow.holds Try.pinned (OpenSpec.ofChange topCalibratedWrong)

/-- 'printworkskeep2.ProfileComposed': WHATEVER THE INPUT: true; the input reads as it did. -/
def profileComposedSpec : ChangeSpec := { name := "profileComposed", fn := fun _ => fun
  | [d1, d2] => { results := [.lit (.bool true)], args := [d1, d2] }
  | _ => none }
def profileComposedRow : OpenClaim := { program := "ytagfanbodglplaa", sum := "2b2c6ce169071d2e8de897e588bdfed22f6e01e41502c55c40dfd65c9c388dab", func := "printworks/printworkskeep2.ProfileComposed", spec := "profileComposed", apart := false }
def ProfileComposedSaid : Prop := profileComposedRow.holds Try.pinned (OpenSpec.ofChange profileComposedSpec)

/-- ITS FALSE NEIGHBOUR: 'it returns false'. Refute it at one input. -/
def profileComposedWrong : ChangeSpec := { name := "profileComposed", fn := fun _ => fun
  | [d1, d2] => { results := [.lit (.bool false)], args := [d1, d2] }
  | _ => none }
def ProfileComposedWrongFalsely : Prop := profileComposedRow.holds Try.pinned (OpenSpec.ofChange profileComposedWrong)

/-- 'printworkskeep2.ProfileReturns': WHATEVER THE INPUT: true; the input reads as it did. -/
def profileReturnsSpec : ChangeSpec := { name := "profileReturns", fn := fun _ => fun
  | [d1, d2, d3] => { results := [.lit (.bool true)], args := [d1, d2, d3] }
  | _ => none }
def profileReturnsRow : OpenClaim := { program := "ytagfanbodglplaa", sum := "2b2c6ce169071d2e8de897e588bdfed22f6e01e41502c55c40dfd65c9c388dab", func := "printworks/printworkskeep2.ProfileReturns", spec := "profileReturns", unfollowed := true, recurses := true, apart := false }
def ProfileReturnsSaid : Prop := profileReturnsRow.holds Try.pinned (OpenSpec.ofChange profileReturnsSpec)

/-- ITS FALSE NEIGHBOUR: 'it returns false'. Refute it at one input. -/
def profileReturnsWrong : ChangeSpec := { name := "profileReturns", fn := fun _ => fun
  | [d1, d2, d3] => { results := [.lit (.bool false)], args := [d1, d2, d3] }
  | _ => none }
def ProfileReturnsWrongFalsely : Prop := profileReturnsRow.holds Try.pinned (OpenSpec.ofChange profileReturnsWrong)

/- THE SECOND FORM. 'bulk': how many values and letters a reading holds, each counted each time it is reached (what is shared counts as often as it is met; a slice's spare places count too). A statement '..UptoSaid' is the law's where the arguments, and the package variables that the reading takes, are together of bulk at most 1048576: NARROWER than '..Said'. Prove '..Said' where nothing that the law and all that it calls make is longer than what came in: it says more and counts as full. Else prove '..UptoSaid'. A law counts once. -/
mutual
def uptoBulk {H : Type} : DataW H → Nat
  | .lit (.string bytes) => bytes.length + 1
  | .lit _ => 1
  | .nil => 1
  | .ptr d => uptoBulk d + 1
  | .slice elems spare => uptoBulkAll elems + uptoBulkAll spare + 1
  | .agg parts => uptoBulkAll parts + 1
  | .iface _ d => uptoBulk d + 1
  | .map entries => uptoBulkEntries entries + 1
  | .held _ => 1
def uptoBulkAll {H : Type} : List (DataW H) → Nat
  | [] => 0
  | d :: r => uptoBulk d + uptoBulkAll r
def uptoBulkEntries {H : Type} : List (Lit × DataW H) → Nat
  | [] => 0
  | x :: r => uptoBulkEntry x + uptoBulkEntries r
def uptoBulkEntry {H : Type} : Lit × DataW H → Nat
  | (.string bytes, d) => bytes.length + uptoBulk d + 1
  | (_, d) => uptoBulk d + 1
 end
def uptoSmall : (H : Type) → List (DataW H) → Bool := fun _ ds => decide (uptoBulkAll ds ≤ 1048576)
def OpenSpec.upto (s : _root_.Go.ChangeSpec) : _root_.Go.OpenSpec := { _root_.Go.OpenSpec.ofChange s with cond := some uptoSmall }

/-- 'printworkskeep2.GamutBoundary', WHERE WHAT IT READS IS OF BULK AT MOST 1048576: true; the input reads as it did. -/
def gamutBoundaryUptoRow : OpenClaim := { program := "ytagfanbodglplaa", sum := "2b2c6ce169071d2e8de897e588bdfed22f6e01e41502c55c40dfd65c9c388dab", func := "printworks/printworkskeep2.GamutBoundary", spec := "gamutBoundary", unfollowed := true, recurses := true, apart := false, narrowed := true }
def GamutBoundaryUptoSaid : Prop := gamutBoundaryUptoRow.holds Try.pinned (OpenSpec.upto gamutBoundarySpec)

/-- 'printworkstop.TopCalibrated', WHERE WHAT IT READS IS OF BULK AT MOST 1048576: true; the input reads as it did. -/
def topCalibratedUptoRow : OpenClaim := { program := "ytagfanbodglplaa", sum := "2b2c6ce169071d2e8de897e588bdfed22f6e01e41502c55c40dfd65c9c388dab", func := "printworks/printworkstop.TopCalibrated", spec := "topCalibrated", unfollowed := true, recurses := true, apart := false, narrowed := true }
def TopCalibratedUptoSaid : Prop := topCalibratedUptoRow.holds Try.pinned (OpenSpec.upto topCalibratedSpec)

/-- 'printworkskeep2.ProfileComposed', WHERE WHAT IT READS IS OF BULK AT MOST 1048576: true; the input reads as it did. -/
def profileComposedUptoRow : OpenClaim := { program := "ytagfanbodglplaa", sum := "2b2c6ce169071d2e8de897e588bdfed22f6e01e41502c55c40dfd65c9c388dab", func := "printworks/printworkskeep2.ProfileComposed", spec := "profileComposed", apart := false, narrowed := true }
def ProfileComposedUptoSaid : Prop := profileComposedUptoRow.holds Try.pinned (OpenSpec.upto profileComposedSpec)

/-- 'printworkskeep2.ProfileReturns', WHERE WHAT IT READS IS OF BULK AT MOST 1048576: true; the input reads as it did. -/
def profileReturnsUptoRow : OpenClaim := { program := "ytagfanbodglplaa", sum := "2b2c6ce169071d2e8de897e588bdfed22f6e01e41502c55c40dfd65c9c388dab", func := "printworks/printworkskeep2.ProfileReturns", spec := "profileReturns", unfollowed := true, recurses := true, apart := false, narrowed := true }
def ProfileReturnsUptoSaid : Prop := profileReturnsUptoRow.holds Try.pinned (OpenSpec.upto profileReturnsSpec)

end Rows
end Go.Proofs.Ytagfanbodglplaa
