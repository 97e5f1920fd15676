/- Halftone: what is said of bad plates; empty bitmaps. -/
import Derived.Test.YtcehapmkhlmgdaaHftW
import Derived.Test.YtcehapmkhlmgdaaBits3
import Derived.Test.YtcehapmkhlmgdaaGo
namespace Go.Proofs.Ytcehapmkhlmgdaa
open Go Go.Lite
set_option linter.unusedVariables false
set_option linter.unusedSimpArgs false
set_option maxRecDepth 100000
set_option maxHeartbeats 4000000
-- @simp rdi rdy

theorem dot_get {n : Nat} {v : Int} (h : 0 ≤ v ∧ v ≤ 255) : (dotT n).getD v.toNat 0 = dotV n v := by
  unfold dotT
  rw [tab_get (by omega), Int.toNat_of_nonneg h.1]
end Go.Proofs.Ytcehapmkhlmgdaa
