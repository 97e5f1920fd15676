/-
  No cell of these rows narrows 'for every input' (looked for: loops, veiled, ifaces, maps, wideKeys, modest, calm, conditions, laid).
  DERIVED. THE GIVEN ROWS OF THIS SEAT. 7 by the template 'for every input the law returns true; each argument reads behind the call as it read before'; 0 by the template 'total and deterministic' (their statements: YtbaepacihkgalaaTotals.lean).
  GIVEN WITH THE SEED: the statements are not yours to turn. If you find one false, say at which input.
  Laid BY PROGRAM, IN A SANDBOX (cutbox-rows.mjs): the forced cells as the released guide's own fill.sh prints them over the translation f542274713119570… (all of the seat's roots in one cut). By AI agents, Wed Nov 11 2026. No macro, syntax, notation, axiom, sorry.
-/
import Derived.Test.YtbaepacihkgalaaChecked
import GoSem.Claim
import GoSem.ClaimJoined
import GoSem.ClaimMapViews
import Derived.JoinedTies
import Derived.KernelRfl
namespace Go.Proofs.Ytbaepacihkgalaa
/- THE CELL 'sum', in the pinned program and in every row, IS THE sha256 OF THE DUMP (.gsa) THAT YtbaepacihkgalaaProg.lean LOADS. Nothing in Lean hashes anything: it is a label: what it is worth is what the hold of that sum in a sandbox is worth. -/
noncomputable def Try.pinned : Pinned := { name := "ytbaepacihkgalaa", sum := "f5422747131195709d8cb775db2b20693a2370b115422318ab7e67aa7da7a3cc", checked := Try.checked }
namespace Rows
def none {H : Type} : Left H := { results := [], args := [] }

/-- 'printworkskeep2.PressTally': WHATEVER THE INPUT: true; the input reads as it did. -/
def pressTallySpec : ChangeSpec := { name := "pressTally", fn := fun _ => fun
  | [d1, d2, d3] => { results := [.lit (.bool true)], args := [d1, d2, d3] }
  | _ => none }
def pressTallyRow : OpenClaim := { program := "ytbaepacihkgalaa", sum := "f5422747131195709d8cb775db2b20693a2370b115422318ab7e67aa7da7a3cc", func := "printworks/printworkskeep2.PressTally", spec := "pressTally", apart := false }
def PressTallySaid : Prop := pressTallyRow.holds Try.pinned (OpenSpec.ofChange pressTallySpec)

/-- ITS FALSE NEIGHBOUR: 'it returns false'. Refute it at one input. -/
def pressTallyWrong : ChangeSpec := { name := "pressTally", fn := fun _ => fun
  | [d1, d2, d3] => { results := [.lit (.bool false)], args := [d1, d2, d3] }
  | _ => none }
def PressTallyWrongFalsely : Prop := pressTallyRow.holds Try.pinned (OpenSpec.ofChange pressTallyWrong)

/-- 'printworkskeep2.PressSteady': WHATEVER THE INPUT: true; the input reads as it did. -/
def pressSteadySpec : ChangeSpec := { name := "pressSteady", fn := fun _ => fun
  | [d1, d2, d3] => { results := [.lit (.bool true)], args := [d1, d2, d3] }
  | _ => none }
def pressSteadyRow : OpenClaim := { program := "ytbaepacihkgalaa", sum := "f5422747131195709d8cb775db2b20693a2370b115422318ab7e67aa7da7a3cc", func := "printworks/printworkskeep2.PressSteady", spec := "pressSteady", apart := false }
def PressSteadySaid : Prop := pressSteadyRow.holds Try.pinned (OpenSpec.ofChange pressSteadySpec)

/-- ITS FALSE NEIGHBOUR: 'it returns false'. Refute it at one input. -/
def pressSteadyWrong : ChangeSpec := { name := "pressSteady", fn := fun _ => fun
  | [d1, d2, d3] => { results := [.lit (.bool false)], args := [d1, d2, d3] }
  | _ => none }
def PressSteadyWrongFalsely : Prop := pressSteadyRow.holds Try.pinned (OpenSpec.ofChange pressSteadyWrong)

/-- 'printworkskeep2.PressFeeds': WHATEVER THE INPUT: true; the input reads as it did. -/
def pressFeedsSpec : ChangeSpec := { name := "pressFeeds", fn := fun _ => fun
  | [d1, d2, d3] => { results := [.lit (.bool true)], args := [d1, d2, d3] }
  | _ => none }
def pressFeedsRow : OpenClaim := { program := "ytbaepacihkgalaa", sum := "f5422747131195709d8cb775db2b20693a2370b115422318ab7e67aa7da7a3cc", func := "printworks/printworkskeep2.PressFeeds", spec := "pressFeeds", apart := false }
def PressFeedsSaid : Prop := pressFeedsRow.holds Try.pinned (OpenSpec.ofChange pressFeedsSpec)

/-- ITS FALSE NEIGHBOUR: 'it returns false'. Refute it at one input. -/
def pressFeedsWrong : ChangeSpec := { name := "pressFeeds", fn := fun _ => fun
  | [d1, d2, d3] => { results := [.lit (.bool false)], args := [d1, d2, d3] }
  | _ => none }
def PressFeedsWrongFalsely : Prop := pressFeedsRow.holds Try.pinned (OpenSpec.ofChange pressFeedsWrong)

/-- 'printworkskeep2.ControlSettles': WHATEVER THE INPUT: true; the input reads as it did. -/
def controlSettlesSpec : ChangeSpec := { name := "controlSettles", fn := fun _ => fun
  | [d1, d2, d3, d4] => { results := [.lit (.bool true)], args := [d1, d2, d3, d4] }
  | _ => none }
def controlSettlesRow : OpenClaim := { program := "ytbaepacihkgalaa", sum := "f5422747131195709d8cb775db2b20693a2370b115422318ab7e67aa7da7a3cc", func := "printworks/printworkskeep2.ControlSettles", spec := "controlSettles", unfollowed := true, recurses := true, apart := false }
def ControlSettlesSaid : Prop := controlSettlesRow.holds Try.pinned (OpenSpec.ofChange controlSettlesSpec)

/-- ITS FALSE NEIGHBOUR: 'it returns false'. Refute it at one input. -/
def controlSettlesWrong : ChangeSpec := { name := "controlSettles", fn := fun _ => fun
  | [d1, d2, d3, d4] => { results := [.lit (.bool false)], args := [d1, d2, d3, d4] }
  | _ => none }
def ControlSettlesWrongFalsely : Prop := controlSettlesRow.holds Try.pinned (OpenSpec.ofChange controlSettlesWrong)

/-- 'printworkskeep2.ControlBounded': WHATEVER THE INPUT: true; the input reads as it did. -/
def controlBoundedSpec : ChangeSpec := { name := "controlBounded", fn := fun _ => fun
  | [d1, d2, d3, d4] => { results := [.lit (.bool true)], args := [d1, d2, d3, d4] }
  | _ => none }
def controlBoundedRow : OpenClaim := { program := "ytbaepacihkgalaa", sum := "f5422747131195709d8cb775db2b20693a2370b115422318ab7e67aa7da7a3cc", func := "printworks/printworkskeep2.ControlBounded", spec := "controlBounded", unfollowed := true, recurses := true, apart := false }
def ControlBoundedSaid : Prop := controlBoundedRow.holds Try.pinned (OpenSpec.ofChange controlBoundedSpec)

/-- ITS FALSE NEIGHBOUR: 'it returns false'. Refute it at one input. -/
def controlBoundedWrong : ChangeSpec := { name := "controlBounded", fn := fun _ => fun
  | [d1, d2, d3, d4] => { results := [.lit (.bool false)], args := [d1, d2, d3, d4] }
  | _ => none }
def ControlBoundedWrongFalsely : Prop := controlBoundedRow.holds Try.pinned (OpenSpec.ofChange controlBoundedWrong)

/-- 'printworkskeep2.ControlIdle': WHATEVER THE INPUT: true; the input reads as it did. -/
def controlIdleSpec : ChangeSpec := { name := "controlIdle", fn := fun _ => fun
  | [d1, d2, d3] => { results := [.lit (.bool true)], args := [d1, d2, d3] }
  | _ => none }
def controlIdleRow : OpenClaim := { program := "ytbaepacihkgalaa", sum := "f5422747131195709d8cb775db2b20693a2370b115422318ab7e67aa7da7a3cc", func := "printworks/printworkskeep2.ControlIdle", spec := "controlIdle", unfollowed := true, recurses := true, apart := false }
def ControlIdleSaid : Prop := controlIdleRow.holds Try.pinned (OpenSpec.ofChange controlIdleSpec)

/-- ITS FALSE NEIGHBOUR: 'it returns false'. Refute it at one input. -/
def controlIdleWrong : ChangeSpec := { name := "controlIdle", fn := fun _ => fun
  | [d1, d2, d3] => { results := [.lit (.bool false)], args := [d1, d2, d3] }
  | _ => none }
def ControlIdleWrongFalsely : Prop := controlIdleRow.holds Try.pinned (OpenSpec.ofChange controlIdleWrong)

/-- 'printworkskeep2.ControlReplayed': WHATEVER THE INPUT: true; the input reads as it did. -/
def controlReplayedSpec : ChangeSpec := { name := "controlReplayed", fn := fun _ => fun
  | [d1, d2, d3, d4] => { results := [.lit (.bool true)], args := [d1, d2, d3, d4] }
  | _ => none }
def controlReplayedRow : OpenClaim := { program := "ytbaepacihkgalaa", sum := "f5422747131195709d8cb775db2b20693a2370b115422318ab7e67aa7da7a3cc", func := "printworks/printworkskeep2.ControlReplayed", spec := "controlReplayed", unfollowed := true, recurses := true, apart := false }
def ControlReplayedSaid : Prop := controlReplayedRow.holds Try.pinned (OpenSpec.ofChange controlReplayedSpec)

/-- ITS FALSE NEIGHBOUR: 'it returns false'. Refute it at one input. -/
def controlReplayedWrong : ChangeSpec := { name := "controlReplayed", fn := fun _ => fun
  | [d1, d2, d3, d4] => { results := [.lit (.bool false)], args := [d1, d2, d3, d4] }
  | _ => none }
def ControlReplayedWrongFalsely : Prop := controlReplayedRow.holds Try.pinned (OpenSpec.ofChange controlReplayedWrong)

/- THE SECOND FORM. 'bulk': how many values and letters a reading holds, each counted each time it is reached (what is shared counts as often as it is met; a slice's spare places count too). A statement '..UptoSaid' is the law's where the arguments, and the package variables that the reading takes, are together of bulk at most 1048576: NARROWER than '..Said'. Prove '..Said' where nothing that the law and all that it calls make is longer than what came in: it says more and counts as full. Else prove '..UptoSaid'. A law counts once. -/
mutual
def uptoBulk {H : Type} : DataW H → Nat
  | .lit (.string bytes) => bytes.length + 1
  | .lit _ => 1
  | .nil => 1
  | .ptr d => uptoBulk d + 1
  | .slice elems spare => uptoBulkAll elems + uptoBulkAll spare + 1
  | .agg parts => uptoBulkAll parts + 1
  | .iface _ d => uptoBulk d + 1
  | .map entries => uptoBulkEntries entries + 1
  | .held _ => 1
def uptoBulkAll {H : Type} : List (DataW H) → Nat
  | [] => 0
  | d :: r => uptoBulk d + uptoBulkAll r
def uptoBulkEntries {H : Type} : List (Lit × DataW H) → Nat
  | [] => 0
  | x :: r => uptoBulkEntry x + uptoBulkEntries r
def uptoBulkEntry {H : Type} : Lit × DataW H → Nat
  | (.string bytes, d) => bytes.length + uptoBulk d + 1
  | (_, d) => uptoBulk d + 1
 end
def uptoSmall : (H : Type) → List (DataW H) → Bool := fun _ ds => decide (uptoBulkAll ds ≤ 1048576)
def OpenSpec.upto (s : _root_.Go.ChangeSpec) : _root_.Go.OpenSpec := { _root_.Go.OpenSpec.ofChange s with cond := some uptoSmall }

/-- 'printworkskeep2.PressTally', WHERE WHAT IT READS IS OF BULK AT MOST 1048576: true; the input reads as it did. -/
def pressTallyUptoRow : OpenClaim := { program := "ytbaepacihkgalaa", sum := "f5422747131195709d8cb775db2b20693a2370b115422318ab7e67aa7da7a3cc", func := "printworks/printworkskeep2.PressTally", spec := "pressTally", apart := false, narrowed := true }
def PressTallyUptoSaid : Prop := pressTallyUptoRow.holds Try.pinned (OpenSpec.upto pressTallySpec)

/-- 'printworkskeep2.PressSteady', WHERE WHAT IT READS IS OF BULK AT MOST 1048576: true; the input reads as it did. -/
def pressSteadyUptoRow : OpenClaim := { program := "ytbaepacihkgalaa", sum := "f5422747131195709d8cb775db2b20693a2370b115422318ab7e67aa7da7a3cc", func := "printworks/printworkskeep2.PressSteady", spec := "pressSteady", apart := false, narrowed := true }
def PressSteadyUptoSaid : Prop := pressSteadyUptoRow.holds Try.pinned (OpenSpec.upto pressSteadySpec)

/-- 'printworkskeep2.PressFeeds', WHERE WHAT IT READS IS OF BULK AT MOST 1048576: true; the input reads as it did. -/
def pressFeedsUptoRow : OpenClaim := { program := "ytbaepacihkgalaa", sum := "f5422747131195709d8cb775db2b20693a2370b115422318ab7e67aa7da7a3cc", func := "printworks/printworkskeep2.PressFeeds", spec := "pressFeeds", apart := false, narrowed := true }
def PressFeedsUptoSaid : Prop := pressFeedsUptoRow.holds Try.pinned (OpenSpec.upto pressFeedsSpec)

/-- 'printworkskeep2.ControlSettles', WHERE WHAT IT READS IS OF BULK AT MOST 1048576: true; the input reads as it did. -/
def controlSettlesUptoRow : OpenClaim := { program := "ytbaepacihkgalaa", sum := "f5422747131195709d8cb775db2b20693a2370b115422318ab7e67aa7da7a3cc", func := "printworks/printworkskeep2.ControlSettles", spec := "controlSettles", unfollowed := true, recurses := true, apart := false, narrowed := true }
def ControlSettlesUptoSaid : Prop := controlSettlesUptoRow.holds Try.pinned (OpenSpec.upto controlSettlesSpec)

/-- 'printworkskeep2.ControlBounded', WHERE WHAT IT READS IS OF BULK AT MOST 1048576: true; the input reads as it did. -/
def controlBoundedUptoRow : OpenClaim := { program := "ytbaepacihkgalaa", sum := "f5422747131195709d8cb775db2b20693a2370b115422318ab7e67aa7da7a3cc", func := "printworks/printworkskeep2.ControlBounded", spec := "controlBounded", unfollowed := true, recurses := true, apart := false, narrowed := true }
def ControlBoundedUptoSaid : Prop := controlBoundedUptoRow.holds Try.pinned (OpenSpec.upto controlBoundedSpec)

/-- 'printworkskeep2.ControlIdle', WHERE WHAT IT READS IS OF BULK AT MOST 1048576: true; the input reads as it did. -/
def controlIdleUptoRow : OpenClaim := { program := "ytbaepacihkgalaa", sum := "f5422747131195709d8cb775db2b20693a2370b115422318ab7e67aa7da7a3cc", func := "printworks/printworkskeep2.ControlIdle", spec := "controlIdle", unfollowed := true, recurses := true, apart := false, narrowed := true }
def ControlIdleUptoSaid : Prop := controlIdleUptoRow.holds Try.pinned (OpenSpec.upto controlIdleSpec)

/-- 'printworkskeep2.ControlReplayed', WHERE WHAT IT READS IS OF BULK AT MOST 1048576: true; the input reads as it did. -/
def controlReplayedUptoRow : OpenClaim := { program := "ytbaepacihkgalaa", sum := "f5422747131195709d8cb775db2b20693a2370b115422318ab7e67aa7da7a3cc", func := "printworks/printworkskeep2.ControlReplayed", spec := "controlReplayed", unfollowed := true, recurses := true, apart := false, narrowed := true }
def ControlReplayedUptoSaid : Prop := controlReplayedUptoRow.holds Try.pinned (OpenSpec.upto controlReplayedSpec)

end Rows
end Go.Proofs.Ytbaepacihkgalaa
