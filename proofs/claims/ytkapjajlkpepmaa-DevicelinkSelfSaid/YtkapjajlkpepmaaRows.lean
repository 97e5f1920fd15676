/-
  No cell of these rows narrows 'for every input' (looked for: loops, veiled, ifaces, maps, wideKeys, modest, calm, conditions, laid).
  DERIVED. THE GIVEN ROWS OF THIS SEAT. 3 by the template 'for every input the law returns true; each argument reads behind the call as it read before'; 0 by the template 'total and deterministic' (their statements: YtkapjajlkpepmaaTotals.lean).
  GIVEN WITH THE SEED: the statements are not yours to turn. If you find one false, say at which input.
  Laid BY PROGRAM, IN A SANDBOX (cutbox-rows.mjs): the forced cells as the released guide's own fill.sh prints them over the translation bf85280e9f93f4cb… (all of the seat's roots in one cut). By AI agents, Wed Nov 11 2026. No macro, syntax, notation, axiom, sorry.
-/
import Derived.Test.YtkapjajlkpepmaaChecked
import GoSem.Claim
import GoSem.ClaimJoined
import GoSem.ClaimMapViews
import Derived.JoinedTies
import Derived.KernelRfl
namespace Go.Proofs.Ytkapjajlkpepmaa
/- THE CELL 'sum', in the pinned program and in every row, IS THE sha256 OF THE DUMP (.gsa) THAT YtkapjajlkpepmaaProg.lean LOADS. Nothing in Lean hashes anything: it is a label: what it is worth is what the hold of that sum in a sandbox is worth. -/
noncomputable def Try.pinned : Pinned := { name := "ytkapjajlkpepmaa", sum := "bf85280e9f93f4cba4de45a1615b03aec7b1781393791efb1e54d2fa65d7b74b", checked := Try.checked }
namespace Rows
def none {H : Type} : Left H := { results := [], args := [] }

/-- 'printworkskeep2.InverseBest': WHATEVER THE INPUT: true; the input reads as it did. -/
def inverseBestSpec : ChangeSpec := { name := "inverseBest", fn := fun _ => fun
  | [d1, d2, d3] => { results := [.lit (.bool true)], args := [d1, d2, d3] }
  | _ => none }
def inverseBestRow : OpenClaim := { program := "ytkapjajlkpepmaa", sum := "bf85280e9f93f4cba4de45a1615b03aec7b1781393791efb1e54d2fa65d7b74b", func := "printworks/printworkskeep2.InverseBest", spec := "inverseBest", recurses := true, apart := false }
def InverseBestSaid : Prop := inverseBestRow.holds Try.pinned (OpenSpec.ofChange inverseBestSpec)

/-- ITS FALSE NEIGHBOUR: 'it returns false'. Refute it at one input. -/
def inverseBestWrong : ChangeSpec := { name := "inverseBest", fn := fun _ => fun
  | [d1, d2, d3] => { results := [.lit (.bool false)], args := [d1, d2, d3] }
  | _ => none }
def InverseBestWrongFalsely : Prop := inverseBestRow.holds Try.pinned (OpenSpec.ofChange inverseBestWrong)

/-- 'printworkskeep2.DevicelinkSelf': WHATEVER THE INPUT: true; the input reads as it did. -/
def devicelinkSelfSpec : ChangeSpec := { name := "devicelinkSelf", fn := fun _ => fun
  | [d1, d2, d3] => { results := [.lit (.bool true)], args := [d1, d2, d3] }
  | _ => none }
def devicelinkSelfRow : OpenClaim := { program := "ytkapjajlkpepmaa", sum := "bf85280e9f93f4cba4de45a1615b03aec7b1781393791efb1e54d2fa65d7b74b", func := "printworks/printworkskeep2.DevicelinkSelf", spec := "devicelinkSelf", unfollowed := true, recurses := true, apart := false }
def DevicelinkSelfSaid : Prop := devicelinkSelfRow.holds Try.pinned (OpenSpec.ofChange devicelinkSelfSpec)

/-- ITS FALSE NEIGHBOUR: 'it returns false'. Refute it at one input. -/
def devicelinkSelfWrong : ChangeSpec := { name := "devicelinkSelf", fn := fun _ => fun
  | [d1, d2, d3] => { results := [.lit (.bool false)], args := [d1, d2, d3] }
  | _ => none }
def DevicelinkSelfWrongFalsely : Prop := devicelinkSelfRow.holds Try.pinned (OpenSpec.ofChange devicelinkSelfWrong)

/-- 'printworkskeep2.GamutBoundary': WHATEVER THE INPUT: true; the input reads as it did. -/
def gamutBoundarySpec : ChangeSpec := { name := "gamutBoundary", fn := fun _ => fun
  | [d1, d2, d3] => { results := [.lit (.bool true)], args := [d1, d2, d3] }
  | _ => none }
def gamutBoundaryRow : OpenClaim := { program := "ytkapjajlkpepmaa", sum := "bf85280e9f93f4cba4de45a1615b03aec7b1781393791efb1e54d2fa65d7b74b", func := "printworks/printworkskeep2.GamutBoundary", spec := "gamutBoundary", unfollowed := true, recurses := true, apart := false }
def GamutBoundarySaid : Prop := gamutBoundaryRow.holds Try.pinned (OpenSpec.ofChange gamutBoundarySpec)

/-- ITS FALSE NEIGHBOUR: 'it returns false'. Refute it at one input. -/
def gamutBoundaryWrong : ChangeSpec := { name := "gamutBoundary", fn := fun _ => fun
  | [d1, d2, d3] => { results := [.lit (.bool false)], args := [d1, d2, d3] }
  | _ => none }
def GamutBoundaryWrongFalsely : Prop := gamutBoundaryRow.holds Try.pinned (OpenSpec.ofChange gamutBoundaryWrong)

/- THE SECOND FORM. 'bulk': how many values and letters a reading holds, each counted each time it is reached (what is shared counts as often as it is met; a slice's spare places count too). A statement '..UptoSaid' is the law's where the arguments, and the package variables that the reading takes, are together of bulk at most 1048576: NARROWER than '..Said'. Prove '..Said' where nothing that the law and all that it calls make is longer than what came in: it says more and counts as full. Else prove '..UptoSaid'. A law counts once. -/
mutual
def uptoBulk {H : Type} : DataW H → Nat
  | .lit (.string bytes) => bytes.length + 1
  | .lit _ => 1
  | .nil => 1
  | .ptr d => uptoBulk d + 1
  | .slice elems spare => uptoBulkAll elems + uptoBulkAll spare + 1
  | .agg parts => uptoBulkAll parts + 1
  | .iface _ d => uptoBulk d + 1
  | .map entries => uptoBulkEntries entries + 1
  | .held _ => 1
def uptoBulkAll {H : Type} : List (DataW H) → Nat
  | [] => 0
  | d :: r => uptoBulk d + uptoBulkAll r
def uptoBulkEntries {H : Type} : List (Lit × DataW H) → Nat
  | [] => 0
  | x :: r => uptoBulkEntry x + uptoBulkEntries r
def uptoBulkEntry {H : Type} : Lit × DataW H → Nat
  | (.string bytes, d) => bytes.length + uptoBulk d + 1
  | (_, d) => uptoBulk d + 1
 end
def uptoSmall : (H : Type) → List (DataW H) → Bool := fun _ ds => decide (uptoBulkAll ds ≤ 1048576)
def OpenSpec.upto (s : _root_.Go.ChangeSpec) : _root_.Go.OpenSpec := { _root_.Go.OpenSpec.ofChange s with cond := some uptoSmall }

/-- 'printworkskeep2.InverseBest', WHERE WHAT IT READS IS OF BULK AT MOST 1048576: true; the input reads as it did. -/
def inverseBestUptoRow : OpenClaim := { program := "ytkapjajlkpepmaa", sum := "bf85280e9f93f4cba4de45a1615b03aec7b1781393791efb1e54d2fa65d7b74b", func := "printworks/printworkskeep2.InverseBest", spec := "inverseBest", recurses := true, apart := false, narrowed := true }
def InverseBestUptoSaid : Prop := inverseBestUptoRow.holds Try.pinned (OpenSpec.upto inverseBestSpec)

/-- 'printworkskeep2.DevicelinkSelf', WHERE WHAT IT READS IS OF BULK AT MOST 1048576: true; the input reads as it did. -/
def devicelinkSelfUptoRow : OpenClaim := { program := "ytkapjajlkpepmaa", sum := "bf85280e9f93f4cba4de45a1615b03aec7b1781393791efb1e54d2fa65d7b74b", func := "printworks/printworkskeep2.DevicelinkSelf", spec := "devicelinkSelf", unfollowed := true, recurses := true, apart := false, narrowed := true }
def DevicelinkSelfUptoSaid : Prop := devicelinkSelfUptoRow.holds Try.pinned (OpenSpec.upto devicelinkSelfSpec)

/-- 'printworkskeep2.GamutBoundary', WHERE WHAT IT READS IS OF BULK AT MOST 1048576: true; the input reads as it did. -/
def gamutBoundaryUptoRow : OpenClaim := { program := "ytkapjajlkpepmaa", sum := "bf85280e9f93f4cba4de45a1615b03aec7b1781393791efb1e54d2fa65d7b74b", func := "printworks/printworkskeep2.GamutBoundary", spec := "gamutBoundary", unfollowed := true, recurses := true, apart := false, narrowed := true }
def GamutBoundaryUptoSaid : Prop := gamutBoundaryUptoRow.holds Try.pinned (OpenSpec.upto gamutBoundarySpec)

end Rows
end Go.Proofs.Ytkapjajlkpepmaa
