/- Presses: setups and presses that are in order. -/
import Derived.Test.YtbaepacihkgalaaPrs8
namespace Go.Proofs.Ytbaepacihkgalaa
open Go Go.Lite
set_option linter.unusedVariables false
set_option linter.unusedSimpArgs false
set_option maxRecDepth 100000
set_option maxHeartbeats 4000000

structure SuOk (S : Su) (u : Nat) : Prop where
  un : 1 ≤ u ∧ u ≤ 8
  Z : 1 ≤ S.Z ∧ S.Z ≤ 16
  mr : 0 ≤ S.mr ∧ S.mr ≤ 4000
  rg : 0 ≤ S.rg ∧ S.rg ≤ 1000
  tol : 0 ≤ S.tol ∧ S.tol ≤ 24000
  tl : S.tg.length = u
  kl : S.ks.length = u
  ll : S.ld.length = u
  t : ∀ i, i < u → 0 ≤ S.tg.getD i 0 ∧ S.tg.getD i 0 ≤ 24000
  k : ∀ i, i < u → (S.ks.getD i []).length = S.Z ∧ ∀ z, z < S.Z → 0 ≤ (S.ks.getD i []).getD z 0 ∧ (S.ks.getD i []).getD z 0 ≤ 1000
  l : ∀ i, i < u → (S.ld.getD i []).length = S.Z ∧ ∀ z, z < S.Z → 0 ≤ (S.ld.getD i []).getD z 0 ∧ (S.ld.getD i []).getD z 0 ≤ 8
structure PsOk (S : Su) (u : Nat) (p : Ps) : Prop where
  n : 0 ≤ p.n ∧ p.n ≤ 4000
  s : 0 ≤ p.s ∧ p.s ≤ p.n
  j : 0 ≤ p.j ∧ p.j ≤ 20
  un : ∀ i, i < u → UOk S.Z (p.us i)
end Go.Proofs.Ytbaepacihkgalaa
