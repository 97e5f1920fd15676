import Derived.Test.YtogbkhopanaoiaaCurve1
import Derived.Test.YtogbkhopanaoiaaGo
namespace Go.Proofs.Ytogbkhopanaoiaa
open Go Go.Lite
set_option linter.unusedVariables false
set_option linter.unusedSimpArgs false
set_option maxRecDepth 100000
set_option maxHeartbeats 4000000
-- @simp rd2i

/-- The last point up to n that is not right of x. -/
def seg (c : List (Int × Int)) (x : Int) : Nat → Nat
  | 0 => 0
  | n + 1 => if (c.getD (n + 1) (0, 0)).1 ≤ x then n + 1 else seg c x n
def rawAt (c : List (Int × Int)) (x : Int) (i : Nat) : Int := (c.getD i (0, 0)).2 + near (((c.getD (i + 1) (0, 0)).2 - (c.getD i (0, 0)).2) * (x - (c.getD i (0, 0)).1)) ((c.getD (i + 1) (0, 0)).1 - (c.getD i (0, 0)).1)
def raw (c : List (Int × Int)) (x : Int) : Int := rawAt c x (seg c x (c.length - 2))

theorem Valid.mono {c : List (Int × Int)} (v : Valid c) : ∀ (n i : Nat), i + n < c.length → (c.getD i (0, 0)).1 + n ≤ (c.getD (i + n) (0, 0)).1 ∧ (c.getD i (0, 0)).2 ≤ (c.getD (i + n) (0, 0)).2 := by
  intro n
  induction n with
  | zero => intro i h; simp
  | succ n ih =>
    intro i h
    have h1 := ih i (by omega)
    have h2 := v.ord (i + n) (by omega)
    rw [show i + (n + 1) = i + n + 1 by omega]
    omega

end Go.Proofs.Ytogbkhopanaoiaa
