/- Presses: a run. -/
import Derived.Test.YtbaepacihkgalaaPrsJ
import Derived.Test.YtbaepacihkgalaaGo
namespace Go.Proofs.Ytbaepacihkgalaa
open Go Go.Lite
set_option linter.unusedVariables false
set_option linter.unusedSimpArgs false
set_option maxRecDepth 100000
set_option maxHeartbeats 4000000
-- @simp rdi rd6i rdLiJ

abbrev SRec := Int × Int × List (Int × Int) × List (List Int) × Int
def recO (S : Su) (u : Nat) (p : Ps) : SRec := (p.n + 1, fedS S u p, shK S p.us u, flL S p.us u 0, fedD S u p)
theorem evP_n {Z : Nat} {p : Ps} {v : Ev} : (evP Z p v).n = p.n := by unfold evP; split <;> (try split) <;> rfl
theorem scE_all {l : List Ev} {u Z : Int} (h : scE l u Z = 0) (hl : l.length ≤ 200) : ∀ v ∈ l, evE v u Z = 0 := by
  unfold scE at h
  rw [if_neg (by omega)] at h
  intro v hv
  obtain ⟨i, hi, rfl⟩ := List.getElem_of_mem hv
  have := fstE_zero.1 h i hi
  unfold scI at this
  have e : l.getD i dEv = l[i] := by rw [List.getD_eq_getElem?_getD, List.getElem?_eq_getElem hi]; rfl
  rw [e] at this
  split at this
  · contradiction
  · rename_i h'
    exact Decidable.not_not.1 h'
end Go.Proofs.Ytbaepacihkgalaa
