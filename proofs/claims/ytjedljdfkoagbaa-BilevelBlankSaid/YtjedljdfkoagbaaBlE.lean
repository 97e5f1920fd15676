/- Compressed bitmaps: a stripe of a file, all of them. -/
import Derived.Test.YtjedljdfkoagbaaBl10
import Derived.Test.YtjedljdfkoagbaaBl7
import Derived.Test.YtjedljdfkoagbaaGo
namespace Go.Proofs.Ytjedljdfkoagbaa
open Go Go.Lite
set_option linter.unusedVariables false
set_option linter.unusedSimpArgs false
set_option maxRecDepth 100000
set_option maxHeartbeats 4000000
-- @simp rdi rdy

theorem stripes_c (w y r m : Nat) (Q : Nat → List Int) (hw : 1 ≤ w ∧ w ≤ 1024) (hy : 1 ≤ y ∧ y ≤ 1024) (hr : 1 ≤ r ∧ r ≤ 64) (hm : m = (y + r - 1) / r) (hl : (genB w y r Q m).length ≤ 1048576) :
    TC R Try.prog bilevel_Stripes_f [.lst Ey (genB w y r Q m)] [] (fun v X => v = .tup [.int .i64 m, .int .i64 0] ∧ X = []) := by
  have cc := cut_c w y r Q m hw hy hr hm hl
  have lt : (tab m Q).length = m := tab_len
  refine tc0 env bilevel_Stripes_s (by rfl) ?_
  dsimp only [bilevel_Stripes_c]
  repeat' (first
    | ((with_reducible refine TOps.any ?_); refine TOps.callV env (by rfl) (by rfl) (by rfl) (cc) ?_)
    | refine Gy_i_y lt ?_ ?_ ?_ ?_ ?_ ?_ ?_ ?_
    | with_reducible first | exact B0.mk | refine Tw.ret ?_ | refine Im.i fun h => ?_ | refine Ik.i fun hk => ?_)
  rw [lt]
  exact ⟨rfl, rfl, rfl⟩
end Go.Proofs.Ytjedljdfkoagbaa
