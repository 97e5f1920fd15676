/- Controllers: the events of a controller, put in front of those of the script. -/
import Derived.Test.YtbaepacihkgalaaCtl6
namespace Go.Proofs.Ytbaepacihkgalaa
open Go Go.Lite
set_option linter.unusedVariables false
set_option linter.unusedSimpArgs false
set_option maxRecDepth 100000
set_option maxHeartbeats 4000000

theorem scE_of {l : List Ev} {u Z : Int} (hl : l.length ≤ 200) (h1 : ∀ v ∈ l, evE v u Z = 0) (h2 : l.Pairwise (fun a b => a.1 ≤ b.1)) : scE l u Z = 0 := by
  unfold scE
  rw [if_neg (by omega)]
  refine fstE_zero.2 fun i hi => ?_
  have g : ∀ {i : Nat} (hi : i < l.length), l.getD i dEv = l[i] := fun hi => by rw [List.getD_eq_getElem?_getD, List.getElem?_eq_getElem hi]; rfl
  unfold scI
  rw [g hi, if_neg (fun h => h (h1 _ (List.getElem_mem hi)))]
  by_cases h0 : 0 < i
  · rw [g (show i - 1 < l.length by omega), if_neg]
    rw [List.pairwise_iff_getElem] at h2
    have := h2 (i - 1) i (by omega) hi (by omega)
    omega
  · rw [if_neg (fun h => h0 h.1)]
end Go.Proofs.Ytbaepacihkgalaa
