/- Merge: libraries of spot inks put together. -/
import Derived.Test.YtogbkhopanaoiaaSpot3
import Derived.Test.YtogbkhopanaoiaaGo
namespace Go.Proofs.Ytogbkhopanaoiaa
open Go Go.Lite
set_option linter.unusedVariables false
set_option linter.unusedSimpArgs false
set_option maxRecDepth 100000
set_option maxHeartbeats 4000000
-- @simp rdi rd2i

theorem at1_found {l : List Sp} {n : ByteArray} (h : at1 l n < l.length) : (l.getD (at1 l n) dS).1 = n ∧ ∀ j, j < at1 l n → (l.getD j dS).1 ≠ n := by
  unfold at1 at h ⊢
  constructor
  · have := List.findIdx_getElem (w := h)
    rw [getD_get dS h]; simpa using this
  · intro j hj
    have := List.not_of_lt_findIdx hj
    rw [getD_get dS (by omega)]; simpa using this
end Go.Proofs.Ytogbkhopanaoiaa
