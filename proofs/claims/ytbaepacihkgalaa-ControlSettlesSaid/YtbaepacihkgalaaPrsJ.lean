/- Presses: the rows of a press behind others. -/
import Derived.Test.YtbaepacihkgalaaFst
import Derived.Test.YtbaepacihkgalaaPrsF
namespace Go.Proofs.Ytbaepacihkgalaa
open Go Go.Lite
set_option linter.unusedVariables false
set_option linter.unusedSimpArgs false
set_option maxRecDepth 100000
set_option maxHeartbeats 4000000

def unsB (Z b : Nat) (us : Nat → Un) : Nat → Nat → List (TV A)
  | 0, _ => []
  | k + 1, i => unC Z (b + (2 + 2 * i)) (us i) ++ unsB Z b us k (i + 1)
def prD (b : Nat) (S : Su) (u : Nat) (p : Ps) : List (TV A) := [.int .i64 p.n, .int .i64 p.s, .int .i64 p.j, .int .i64 S.Z, .int .i64 S.mr, .int .i64 S.rg, .int .i64 S.tol, .lst Ei S.tg, .lst ELiJ S.ks, .lst ELiJ S.ld, .sl 7 (b + 1) 0 u]
def prB (b : Nat) (S : Su) (u : Nat) (p : Ps) : List (Option (TRow A)) := some (.cells (prD b S u p)) :: some (.cells (unsB S.Z b p.us u 0)) :: unR p.us u 0
theorem trenL_app {g : Nat → Nat} : ∀ a b : List (TV A), trenL g (a ++ b) = trenL g a ++ trenL g b
  | [], _ => rfl
  | c :: a, b => by rw [List.cons_append, trenL, trenL_app a b]; rfl
theorem unsB_sh {Z b : Nat} {us : Nat → Un} : ∀ k i, trenL (fun j => b + j) (unsC Z us k i) = unsB Z b us k i
  | 0, _ => rfl
  | k + 1, i => by rw [unsC, unsB, trenL_app, unsB_sh k (i + 1)]; rfl
theorem unR_sh {g : Nat → Nat} {us : Nat → Un} : ∀ k i, trenH g (unR us k i) = unR us k i
  | 0, _ => rfl
  | k + 1, i => by
    show _ :: _ :: trenH g (unR us k (i + 1)) = _
    rw [unR_sh k (i + 1)]; rfl
theorem prB_sh {b : Nat} {S : Su} {u : Nat} {p : Ps} : trenH (fun j => b + j) (prR S u p) = prB b S u p := by
  show some (.cells (trenL _ (prC S u p))) :: some (.cells (trenL _ (unsC S.Z p.us u 0))) :: trenH _ (unR p.us u 0) = _
  rw [unsB_sh, unR_sh]
  rfl
end Go.Proofs.Ytbaepacihkgalaa
