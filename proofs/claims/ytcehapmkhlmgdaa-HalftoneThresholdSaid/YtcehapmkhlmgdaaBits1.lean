/- Bitmaps: stride, Is, Check, Mark. -/
import Derived.Test.YtcehapmkhlmgdaaBm
import Derived.Test.YtcehapmkhlmgdaaXHalftoneThreshold0
import Derived.Test.YtcehapmkhlmgdaaGo
namespace Go.Proofs.Ytcehapmkhlmgdaa
open Go Go.Lite
set_option linter.unusedVariables false
set_option linter.unusedSimpArgs false
set_option maxRecDepth 100000
set_option maxHeartbeats 4000000
-- @simp rdi rdy

theorem stride_c (w : Nat) (h : Due (w ≤ 1024)) : TC R Try.prog bitmap_stride_f [.int .i64 w] [] (fun v X => v = .int .i64 (st w) ∧ X = []) := by
  dsimp only [Due] at h
  have e : quo ((w : Int) + 7) 8 = (st w : Int) := by rw [quo_nn (by omega)]; unfold st; omega
  have hb : st w ≤ 128 := by unfold st; omega
  refine tc0 env bitmap_stride_s (by rfl) ?_
  dsimp only [bitmap_stride_c]
  repeat' (first
    | refine GZy_i_y e ?_ ?_ ?_ ?_ ?_ ?_ ?_ ?_
    | with_reducible first | exact BzZq.mk | refine Tw.ret ?_ | refine ImZq.i fun h => ?_ | refine IkZq.i fun hk => ?_)
  exact ⟨rfl, congrArg (TV.int .i64) e, rfl⟩

end Go.Proofs.Ytcehapmkhlmgdaa
