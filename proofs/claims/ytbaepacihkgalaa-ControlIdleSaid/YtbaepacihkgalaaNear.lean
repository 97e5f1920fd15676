/- Nearest. -/
import Derived.Test.YtbaepacihkgalaaX0
import Derived.Test.YtbaepacihkgalaaGo
namespace Go.Proofs.Ytbaepacihkgalaa
open Go Go.Lite
set_option linter.unusedVariables false
set_option linter.unusedSimpArgs false
set_option maxRecDepth 100000
set_option maxHeartbeats 4000000

def near (n d : Int) : Int := (2 * n + d) / (2 * d)

theorem nearest_c (n d : Int) (h : Due (0 < d ∧ d ≤ 1000000000000000000 ∧ -1000000000000000000 ≤ n ∧ n ≤ 1000000000000000000)) : TC R Try.prog curve_Nearest_f [.int .i64 n, .int .i64 d] [] (fun v X => v = .int .i64 (near n d) ∧ X = []) := by
  dsimp only [Due] at h
  have hd : 0 < 2 * d := by omega
  have hq := quo_bd (a := 2 * n + d) hd
  refine tc env curve_Nearest_s (by rfl) ?_
  dsimp only [curve_Nearest_c]
  repeat' (first
    | refine GZ ?_ ?_ ?_ ?_ ?_ ?_ ?_ ?_
    | with_reducible first | exact BzZq.mk | refine Tw.ret ?_ | refine ImZq.i fun h => ?_ | refine IkZq.i fun hk => ?_)
  · rw [quo_fl1 hd h]; exact ⟨rfl, rfl⟩
  · rw [quo_fl hd h]; exact ⟨rfl, rfl⟩
end Go.Proofs.Ytbaepacihkgalaa
