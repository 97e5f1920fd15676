/-
  No cell of these rows narrows 'for every input' (looked for: loops, veiled, ifaces, maps, wideKeys, modest, calm, conditions, laid).
  DERIVED. THE GIVEN ROWS OF THIS SEAT. 8 by the template 'for every input the law returns true; each argument reads behind the call as it read before'; 0 by the template 'total and deterministic' (their statements: YtjedljdfkoagbaaTotals.lean).
  GIVEN WITH THE SEED: the statements are not yours to turn. If you find one false, say at which input.
  Laid BY PROGRAM, IN A SANDBOX (cutbox-rows.mjs): the forced cells as the released guide's own fill.sh prints them over the translation 8ec54daf76fca6f3… (all of the seat's roots in one cut). By AI agents, Wed Nov 11 2026. No macro, syntax, notation, axiom, sorry.
-/
import Derived.Test.YtjedljdfkoagbaaChecked
import GoSem.Claim
import GoSem.ClaimJoined
import GoSem.ClaimMapViews
import Derived.JoinedTies
import Derived.KernelRfl
namespace Go.Proofs.Ytjedljdfkoagbaa
/- THE CELL 'sum', in the pinned program and in every row, IS THE sha256 OF THE DUMP (.gsa) THAT YtjedljdfkoagbaaProg.lean LOADS. Nothing in Lean hashes anything: it is a label: what it is worth is what the hold of that sum in a sandbox is worth. -/
noncomputable def Try.pinned : Pinned := { name := "ytjedljdfkoagbaa", sum := "8ec54daf76fca6f3119eb12bb1eb27df8213ac837798d6db5e31334e36f60658", checked := Try.checked }
namespace Rows
def none {H : Type} : Left H := { results := [], args := [] }

/-- 'printworkskeep2.CameraTurned': WHATEVER THE INPUT: true; the input reads as it did. -/
def cameraTurnedSpec : ChangeSpec := { name := "cameraTurned", fn := fun _ => fun
  | [d1, d2] => { results := [.lit (.bool true)], args := [d1, d2] }
  | _ => none }
def cameraTurnedRow : OpenClaim := { program := "ytjedljdfkoagbaa", sum := "8ec54daf76fca6f3119eb12bb1eb27df8213ac837798d6db5e31334e36f60658", func := "printworks/printworkskeep2.CameraTurned", spec := "cameraTurned", unfollowed := true, recurses := true, apart := false }
def CameraTurnedSaid : Prop := cameraTurnedRow.holds Try.pinned (OpenSpec.ofChange cameraTurnedSpec)

/-- ITS FALSE NEIGHBOUR: 'it returns false'. Refute it at one input. -/
def cameraTurnedWrong : ChangeSpec := { name := "cameraTurned", fn := fun _ => fun
  | [d1, d2] => { results := [.lit (.bool false)], args := [d1, d2] }
  | _ => none }
def CameraTurnedWrongFalsely : Prop := cameraTurnedRow.holds Try.pinned (OpenSpec.ofChange cameraTurnedWrong)

/-- 'printworkskeep2.CameraSees': WHATEVER THE INPUT: true; the input reads as it did. -/
def cameraSeesSpec : ChangeSpec := { name := "cameraSees", fn := fun _ => fun
  | [d1, d2] => { results := [.lit (.bool true)], args := [d1, d2] }
  | _ => none }
def cameraSeesRow : OpenClaim := { program := "ytjedljdfkoagbaa", sum := "8ec54daf76fca6f3119eb12bb1eb27df8213ac837798d6db5e31334e36f60658", func := "printworks/printworkskeep2.CameraSees", spec := "cameraSees", unfollowed := true, recurses := true, apart := false }
def CameraSeesSaid : Prop := cameraSeesRow.holds Try.pinned (OpenSpec.ofChange cameraSeesSpec)

/-- ITS FALSE NEIGHBOUR: 'it returns false'. Refute it at one input. -/
def cameraSeesWrong : ChangeSpec := { name := "cameraSees", fn := fun _ => fun
  | [d1, d2] => { results := [.lit (.bool false)], args := [d1, d2] }
  | _ => none }
def CameraSeesWrongFalsely : Prop := cameraSeesRow.holds Try.pinned (OpenSpec.ofChange cameraSeesWrong)

/-- 'printworkskeep2.BilevelBlank': WHATEVER THE INPUT: true; the input reads as it did. -/
def bilevelBlankSpec : ChangeSpec := { name := "bilevelBlank", fn := fun _ => fun
  | [d1, d2] => { results := [.lit (.bool true)], args := [d1, d2] }
  | _ => none }
def bilevelBlankRow : OpenClaim := { program := "ytjedljdfkoagbaa", sum := "8ec54daf76fca6f3119eb12bb1eb27df8213ac837798d6db5e31334e36f60658", func := "printworks/printworkskeep2.BilevelBlank", spec := "bilevelBlank", unfollowed := true, recurses := true, apart := false }
def BilevelBlankSaid : Prop := bilevelBlankRow.holds Try.pinned (OpenSpec.ofChange bilevelBlankSpec)

/-- ITS FALSE NEIGHBOUR: 'it returns false'. Refute it at one input. -/
def bilevelBlankWrong : ChangeSpec := { name := "bilevelBlank", fn := fun _ => fun
  | [d1, d2] => { results := [.lit (.bool false)], args := [d1, d2] }
  | _ => none }
def BilevelBlankWrongFalsely : Prop := bilevelBlankRow.holds Try.pinned (OpenSpec.ofChange bilevelBlankWrong)

/-- 'printworkskeep2.BilevelReturns': WHATEVER THE INPUT: true; the input reads as it did. -/
def bilevelReturnsSpec : ChangeSpec := { name := "bilevelReturns", fn := fun _ => fun
  | [d1, d2, d3] => { results := [.lit (.bool true)], args := [d1, d2, d3] }
  | _ => none }
def bilevelReturnsRow : OpenClaim := { program := "ytjedljdfkoagbaa", sum := "8ec54daf76fca6f3119eb12bb1eb27df8213ac837798d6db5e31334e36f60658", func := "printworks/printworkskeep2.BilevelReturns", spec := "bilevelReturns", unfollowed := true, recurses := true, apart := false }
def BilevelReturnsSaid : Prop := bilevelReturnsRow.holds Try.pinned (OpenSpec.ofChange bilevelReturnsSpec)

/-- ITS FALSE NEIGHBOUR: 'it returns false'. Refute it at one input. -/
def bilevelReturnsWrong : ChangeSpec := { name := "bilevelReturns", fn := fun _ => fun
  | [d1, d2, d3] => { results := [.lit (.bool false)], args := [d1, d2, d3] }
  | _ => none }
def BilevelReturnsWrongFalsely : Prop := bilevelReturnsRow.holds Try.pinned (OpenSpec.ofChange bilevelReturnsWrong)

/-- 'printworkskeep2.BilevelDamage': WHATEVER THE INPUT: true; the input reads as it did. -/
def bilevelDamageSpec : ChangeSpec := { name := "bilevelDamage", fn := fun _ => fun
  | [d1, d2, d3, d4, d5] => { results := [.lit (.bool true)], args := [d1, d2, d3, d4, d5] }
  | _ => none }
def bilevelDamageRow : OpenClaim := { program := "ytjedljdfkoagbaa", sum := "8ec54daf76fca6f3119eb12bb1eb27df8213ac837798d6db5e31334e36f60658", func := "printworks/printworkskeep2.BilevelDamage", spec := "bilevelDamage", unfollowed := true, recurses := true, apart := false }
def BilevelDamageSaid : Prop := bilevelDamageRow.holds Try.pinned (OpenSpec.ofChange bilevelDamageSpec)

/-- ITS FALSE NEIGHBOUR: 'it returns false'. Refute it at one input. -/
def bilevelDamageWrong : ChangeSpec := { name := "bilevelDamage", fn := fun _ => fun
  | [d1, d2, d3, d4, d5] => { results := [.lit (.bool false)], args := [d1, d2, d3, d4, d5] }
  | _ => none }
def BilevelDamageWrongFalsely : Prop := bilevelDamageRow.holds Try.pinned (OpenSpec.ofChange bilevelDamageWrong)

/-- 'printworkskeep2.ScreenBalance': WHATEVER THE INPUT: true; the input reads as it did. -/
def screenBalanceSpec : ChangeSpec := { name := "screenBalance", fn := fun _ => fun
  | [d1, d2, d3] => { results := [.lit (.bool true)], args := [d1, d2, d3] }
  | _ => none }
def screenBalanceRow : OpenClaim := { program := "ytjedljdfkoagbaa", sum := "8ec54daf76fca6f3119eb12bb1eb27df8213ac837798d6db5e31334e36f60658", func := "printworks/printworkskeep2.ScreenBalance", spec := "screenBalance", unfollowed := true, recurses := true, apart := false }
def ScreenBalanceSaid : Prop := screenBalanceRow.holds Try.pinned (OpenSpec.ofChange screenBalanceSpec)

/-- ITS FALSE NEIGHBOUR: 'it returns false'. Refute it at one input. -/
def screenBalanceWrong : ChangeSpec := { name := "screenBalance", fn := fun _ => fun
  | [d1, d2, d3] => { results := [.lit (.bool false)], args := [d1, d2, d3] }
  | _ => none }
def ScreenBalanceWrongFalsely : Prop := screenBalanceRow.holds Try.pinned (OpenSpec.ofChange screenBalanceWrong)

/-- 'printworkskeep2.GamutBoundary': WHATEVER THE INPUT: true; the input reads as it did. -/
def gamutBoundarySpec : ChangeSpec := { name := "gamutBoundary", fn := fun _ => fun
  | [d1, d2, d3] => { results := [.lit (.bool true)], args := [d1, d2, d3] }
  | _ => none }
def gamutBoundaryRow : OpenClaim := { program := "ytjedljdfkoagbaa", sum := "8ec54daf76fca6f3119eb12bb1eb27df8213ac837798d6db5e31334e36f60658", func := "printworks/printworkskeep2.GamutBoundary", spec := "gamutBoundary", unfollowed := true, recurses := true, apart := false }
def GamutBoundarySaid : Prop := gamutBoundaryRow.holds Try.pinned (OpenSpec.ofChange gamutBoundarySpec)

/-- ITS FALSE NEIGHBOUR: 'it returns false'. Refute it at one input. -/
def gamutBoundaryWrong : ChangeSpec := { name := "gamutBoundary", fn := fun _ => fun
  | [d1, d2, d3] => { results := [.lit (.bool false)], args := [d1, d2, d3] }
  | _ => none }
def GamutBoundaryWrongFalsely : Prop := gamutBoundaryRow.holds Try.pinned (OpenSpec.ofChange gamutBoundaryWrong)

/-- 'printworkskeep2.InverseBest': WHATEVER THE INPUT: true; the input reads as it did. -/
def inverseBestSpec : ChangeSpec := { name := "inverseBest", fn := fun _ => fun
  | [d1, d2, d3] => { results := [.lit (.bool true)], args := [d1, d2, d3] }
  | _ => none }
def inverseBestRow : OpenClaim := { program := "ytjedljdfkoagbaa", sum := "8ec54daf76fca6f3119eb12bb1eb27df8213ac837798d6db5e31334e36f60658", func := "printworks/printworkskeep2.InverseBest", spec := "inverseBest", recurses := true, apart := false }
def InverseBestSaid : Prop := inverseBestRow.holds Try.pinned (OpenSpec.ofChange inverseBestSpec)

/-- ITS FALSE NEIGHBOUR: 'it returns false'. Refute it at one input. -/
def inverseBestWrong : ChangeSpec := { name := "inverseBest", fn := fun _ => fun
  | [d1, d2, d3] => { results := [.lit (.bool false)], args := [d1, d2, d3] }
  | _ => none }
def InverseBestWrongFalsely : Prop := inverseBestRow.holds Try.pinned (OpenSpec.ofChange inverseBestWrong)

/- THE SECOND FORM. 'bulk': how many values and letters a reading holds, each counted each time it is reached (what is shared counts as often as it is met; a slice's spare places count too). A statement '..UptoSaid' is the law's where the arguments, and the package variables that the reading takes, are together of bulk at most 1048576: NARROWER than '..Said'. Prove '..Said' where nothing that the law and all that it calls make is longer than what came in: it says more and counts as full. Else prove '..UptoSaid'. A law counts once. -/
mutual
def uptoBulk {H : Type} : DataW H → Nat
  | .lit (.string bytes) => bytes.length + 1
  | .lit _ => 1
  | .nil => 1
  | .ptr d => uptoBulk d + 1
  | .slice elems spare => uptoBulkAll elems + uptoBulkAll spare + 1
  | .agg parts => uptoBulkAll parts + 1
  | .iface _ d => uptoBulk d + 1
  | .map entries => uptoBulkEntries entries + 1
  | .held _ => 1
def uptoBulkAll {H : Type} : List (DataW H) → Nat
  | [] => 0
  | d :: r => uptoBulk d + uptoBulkAll r
def uptoBulkEntries {H : Type} : List (Lit × DataW H) → Nat
  | [] => 0
  | x :: r => uptoBulkEntry x + uptoBulkEntries r
def uptoBulkEntry {H : Type} : Lit × DataW H → Nat
  | (.string bytes, d) => bytes.length + uptoBulk d + 1
  | (_, d) => uptoBulk d + 1
 end
def uptoSmall : (H : Type) → List (DataW H) → Bool := fun _ ds => decide (uptoBulkAll ds ≤ 1048576)
def OpenSpec.upto (s : _root_.Go.ChangeSpec) : _root_.Go.OpenSpec := { _root_.Go.OpenSpec.ofChange s with cond := some uptoSmall }

/-- 'printworkskeep2.CameraTurned', WHERE WHAT IT READS IS OF BULK AT MOST 1048576: true; the input reads as it did. -/
def cameraTurnedUptoRow : OpenClaim := { program := "ytjedljdfkoagbaa", sum := "8ec54daf76fca6f3119eb12bb1eb27df8213ac837798d6db5e31334e36f60658", func := "printworks/printworkskeep2.CameraTurned", spec := "cameraTurned", unfollowed := true, recurses := true, apart := false, narrowed := true }
def CameraTurnedUptoSaid : Prop := cameraTurnedUptoRow.holds Try.pinned (OpenSpec.upto cameraTurnedSpec)

/-- 'printworkskeep2.CameraSees', WHERE WHAT IT READS IS OF BULK AT MOST 1048576: true; the input reads as it did. -/
def cameraSeesUptoRow : OpenClaim := { program := "ytjedljdfkoagbaa", sum := "8ec54daf76fca6f3119eb12bb1eb27df8213ac837798d6db5e31334e36f60658", func := "printworks/printworkskeep2.CameraSees", spec := "cameraSees", unfollowed := true, recurses := true, apart := false, narrowed := true }
def CameraSeesUptoSaid : Prop := cameraSeesUptoRow.holds Try.pinned (OpenSpec.upto cameraSeesSpec)

/-- 'printworkskeep2.BilevelBlank', WHERE WHAT IT READS IS OF BULK AT MOST 1048576: true; the input reads as it did. -/
def bilevelBlankUptoRow : OpenClaim := { program := "ytjedljdfkoagbaa", sum := "8ec54daf76fca6f3119eb12bb1eb27df8213ac837798d6db5e31334e36f60658", func := "printworks/printworkskeep2.BilevelBlank", spec := "bilevelBlank", unfollowed := true, recurses := true, apart := false, narrowed := true }
def BilevelBlankUptoSaid : Prop := bilevelBlankUptoRow.holds Try.pinned (OpenSpec.upto bilevelBlankSpec)

/-- 'printworkskeep2.BilevelReturns', WHERE WHAT IT READS IS OF BULK AT MOST 1048576: true; the input reads as it did. -/
def bilevelReturnsUptoRow : OpenClaim := { program := "ytjedljdfkoagbaa", sum := "8ec54daf76fca6f3119eb12bb1eb27df8213ac837798d6db5e31334e36f60658", func := "printworks/printworkskeep2.BilevelReturns", spec := "bilevelReturns", unfollowed := true, recurses := true, apart := false, narrowed := true }
def BilevelReturnsUptoSaid : Prop := bilevelReturnsUptoRow.holds Try.pinned (OpenSpec.upto bilevelReturnsSpec)

/-- 'printworkskeep2.BilevelDamage', WHERE WHAT IT READS IS OF BULK AT MOST 1048576: true; the input reads as it did. -/
def bilevelDamageUptoRow : OpenClaim := { program := "ytjedljdfkoagbaa", sum := "8ec54daf76fca6f3119eb12bb1eb27df8213ac837798d6db5e31334e36f60658", func := "printworks/printworkskeep2.BilevelDamage", spec := "bilevelDamage", unfollowed := true, recurses := true, apart := false, narrowed := true }
def BilevelDamageUptoSaid : Prop := bilevelDamageUptoRow.holds Try.pinned (OpenSpec.upto bilevelDamageSpec)

/-- 'printworkskeep2.ScreenBalance', WHERE WHAT IT READS IS OF BULK AT MOST 1048576: true; the input reads as it did. -/
def screenBalanceUptoRow : OpenClaim := { program := "ytjedljdfkoagbaa", sum := "8ec54daf76fca6f3119eb12bb1eb27df8213ac837798d6db5e31334e36f60658", func := "printworks/printworkskeep2.ScreenBalance", spec := "screenBalance", unfollowed := true, recurses := true, apart := false, narrowed := true }
def ScreenBalanceUptoSaid : Prop := screenBalanceUptoRow.holds Try.pinned (OpenSpec.upto screenBalanceSpec)

/-- 'printworkskeep2.GamutBoundary', WHERE WHAT IT READS IS OF BULK AT MOST 1048576: true; the input reads as it did. -/
def gamutBoundaryUptoRow : OpenClaim := { program := "ytjedljdfkoagbaa", sum := "8ec54daf76fca6f3119eb12bb1eb27df8213ac837798d6db5e31334e36f60658", func := "printworks/printworkskeep2.GamutBoundary", spec := "gamutBoundary", unfollowed := true, recurses := true, apart := false, narrowed := true }
def GamutBoundaryUptoSaid : Prop := gamutBoundaryUptoRow.holds Try.pinned (OpenSpec.upto gamutBoundarySpec)

/-- 'printworkskeep2.InverseBest', WHERE WHAT IT READS IS OF BULK AT MOST 1048576: true; the input reads as it did. -/
def inverseBestUptoRow : OpenClaim := { program := "ytjedljdfkoagbaa", sum := "8ec54daf76fca6f3119eb12bb1eb27df8213ac837798d6db5e31334e36f60658", func := "printworks/printworkskeep2.InverseBest", spec := "inverseBest", recurses := true, apart := false, narrowed := true }
def InverseBestUptoSaid : Prop := inverseBestUptoRow.holds Try.pinned (OpenSpec.upto inverseBestSpec)

end Rows
end Go.Proofs.Ytjedljdfkoagbaa
