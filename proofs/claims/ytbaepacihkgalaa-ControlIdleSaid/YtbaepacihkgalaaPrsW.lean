/- Presses: the keys' rows behind others. -/
import Derived.Test.YtbaepacihkgalaaPrsK
import Derived.Test.YtbaepacihkgalaaPrsQ
namespace Go.Proofs.Ytbaepacihkgalaa
open Go Go.Lite
set_option linter.unusedVariables false
set_option linter.unusedSimpArgs false
set_option maxRecDepth 100000
set_option maxHeartbeats 4000000

def kyD (b Z u : Nat) : Nat → Nat → List (TV A)
  | 0, _ => []
  | n + 1, i => .sla 1 (b + (2 * u + 2 + i)) 0 Z :: kyD b Z u n (i + 1)
def kyB (b : Nat) (S : Su) (u : Nat) (p : Ps) : Nat → List (Option (TRow A))
  | 0 => prB b S u p
  | k + 1 => prB b S u p ++ kyA p.us (k + 1) 0 ++ [some (.cells (kyD b S.Z u (k + 1) 0))]
theorem trenH_app {g : Nat → Nat} : ∀ X Y : TH A, trenH g (X ++ Y) = trenH g X ++ trenH g Y
  | [], _ => rfl
  | x :: X, Y => by rw [List.cons_append, trenH, trenH_app X Y]; rfl
theorem kyA_sh {g : Nat → Nat} {us : Nat → Un} : ∀ k i, trenH g (kyA us k i) = kyA us k i
  | 0, _ => rfl
  | k + 1, i => by
    show _ :: trenH g (kyA us k (i + 1)) = _
    rw [kyA_sh k (i + 1)]; rfl
theorem kyD_sh {b Z u : Nat} : ∀ k i, trenL (fun j => b + j) (kyC Z u k i) = kyD b Z u k i
  | 0, _ => rfl
  | k + 1, i => by
    show _ :: trenL _ (kyC Z u k (i + 1)) = _
    rw [kyD_sh k (i + 1)]; rfl
theorem kyB_sh {b : Nat} {S : Su} {u : Nat} {p : Ps} : ∀ k, trenH (fun j => b + j) (kyR S u p k) = kyB b S u p k
  | 0 => prB_sh
  | k + 1 => by
    rw [kyR, trenH_app, trenH_app, prB_sh, kyA_sh, kyB]
    rw [← kyD_sh]; rfl
end Go.Proofs.Ytbaepacihkgalaa
