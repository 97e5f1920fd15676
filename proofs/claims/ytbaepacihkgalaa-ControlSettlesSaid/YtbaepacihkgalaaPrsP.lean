/- Presses: what holds of the sheets of a run. -/
import Derived.Test.YtbaepacihkgalaaPrsT
import Derived.Test.YtbaepacihkgalaaPrsU
namespace Go.Proofs.Ytbaepacihkgalaa
open Go Go.Lite
set_option linter.unusedVariables false
set_option linter.unusedSimpArgs false
set_option maxRecDepth 100000
set_option maxHeartbeats 4000000

theorem flL_at {S : Su} {us : Nat → Un} : ∀ {n j i : Nat}, i < n → (flL S us n j).getD i [] = (dnU S us (j + i)).fl
  | 0, _, _, h => by omega
  | n + 1, j, 0, h => rfl
  | n + 1, j, i + 1, h => by
    rw [flL, List.getD_cons_succ, flL_at (by omega)]
    congr 1
    rw [show j + 1 + i = j + (i + 1) by omega]
/-- What holds of a sheet that is fed. -/
structure RecOk (S : Su) (u : Nat) (k : Nat) (r : SRec) : Prop where
  n : r.1 = (k : Int) + 1
  st : r.2.1 = 0 ∨ r.2.1 = 1 ∨ r.2.1 = 2
  dry : (k : Int) + 51 ≤ r.2.2.2.2
  sl : r.2.2.1.length = u
  fl : r.2.2.2.1.length = u
  fz : ∀ i, i < u → (r.2.2.2.1.getD i []).length = S.Z ∧ ∀ z, z < S.Z → 0 ≤ (r.2.2.2.1.getD i []).getD z 0 ∧ (r.2.2.2.1.getD i []).getD z 0 ≤ 24000
  gd : r.2.1 = 0 → S.mr < r.1 ∧ ∀ i, i < u → (-S.rg ≤ (r.2.2.1.getD i (0, 0)).1 ∧ (r.2.2.1.getD i (0, 0)).1 ≤ S.rg ∧ -S.rg ≤ (r.2.2.1.getD i (0, 0)).2 ∧ (r.2.2.1.getD i (0, 0)).2 ≤ S.rg) ∧ ∀ z, z < S.Z → -S.tol ≤ (r.2.2.2.1.getD i []).getD z 0 - S.tg.getD i 0 ∧ (r.2.2.2.1.getD i []).getD z 0 - S.tg.getD i 0 ≤ S.tol
end Go.Proofs.Ytbaepacihkgalaa
