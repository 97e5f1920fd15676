/- Controllers: one that never corrects. -/
import Derived.Test.YtbaepacihkgalaaCtl4
import Derived.Test.YtbaepacihkgalaaPrsR
namespace Go.Proofs.Ytbaepacihkgalaa
open Go Go.Lite
set_option linter.unusedVariables false
set_option linter.unusedSimpArgs false
set_option maxRecDepth 100000
set_option maxHeartbeats 4000000

theorem lpL_succ' {S : Su} {u : Nat} {c : Ct} {l : List Ev} {n k : Nat} (h : k < n) : (lpL S u c l n).getD k (0, 0, [], [], 0) = recO S u (lpB S k (lp S u c l k)) := tab_get h
end Go.Proofs.Ytbaepacihkgalaa
