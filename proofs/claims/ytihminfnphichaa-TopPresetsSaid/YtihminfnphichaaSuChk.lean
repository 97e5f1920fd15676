/- A setup that is as it should be is accepted. -/
import Derived.Test.YtihminfnphichaaPrsO
import Derived.Test.YtihminfnphichaaPrs3
namespace Go.Proofs.Ytihminfnphichaa
open Go Go.Lite
set_option linter.unusedVariables false
set_option linter.unusedSimpArgs false
set_option maxRecDepth 100000
set_option maxHeartbeats 4000000

theorem slU_chk {S : Su} {u : Nat} (so : SuOk S u) : chkE S.Z S.mr S.rg S.tol S.tg S.ks S.ld = 0 := by
  have hu := so.un
  have oZ := so.Z
  have h1 := so.mr
  have h2 := so.rg
  have h3 := so.tol
  have tl := so.tl
  have row : ∀ (l : List Int) (m : Int), l.length = S.Z → (∀ z, z < S.Z → 0 ≤ l.getD z 0 ∧ l.getD z 0 ≤ m) → rowE S.Z m l = 0 := fun l m hl hv => by
    unfold rowE
    rw [if_neg (by omega)]
    exact fstE_zero.2 fun z hz => if_neg (by have := hv z (by omega); omega)
  have tbl : ∀ (l : List (List Int)) (m : Int), l.length = u → (∀ i, i < u → rowE S.Z m (l.getD i []) = 0) → tblE l u S.Z m = 0 := fun l m hl hv => by
    unfold tblE
    rw [if_neg (by omega)]
    exact fstE_zero.2 fun i hi => hv i (by omega)
  have ek := tbl S.ks 1000 so.kl fun i hi => row _ _ (so.k i hi).1 (so.k i hi).2
  have el := tbl S.ld 8 so.ll fun i hi => row _ _ (so.l i hi).1 (so.l i hi).2
  unfold chkE
  rw [if_neg (by omega), if_neg (by omega), if_neg (by omega), if_neg, if_neg]
  · rw [tl]; exact el
  · rw [tl]; exact fun h => h ek
  · refine fun h => h ?_
    exact fstE_zero.2 fun i hi => if_neg (by have := so.t i (by omega); omega)
end Go.Proofs.Ytihminfnphichaa
