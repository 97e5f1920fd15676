/- Controllers: a record is read. -/
import Derived.Test.YtbaepacihkgalaaCtl2a
namespace Go.Proofs.Ytbaepacihkgalaa
open Go Go.Lite
set_option linter.unusedVariables false
set_option linter.unusedSimpArgs false
set_option maxRecDepth 100000
set_option maxHeartbeats 100000000

end Go.Proofs.Ytbaepacihkgalaa
namespace Go.Proofs.Ytbaepacihkgalaa
open Go Go.Lite
set_option linter.unusedVariables false
set_option linter.unusedSimpArgs false
set_option maxRecDepth 100000
set_option maxHeartbeats 100000000

end Go.Proofs.Ytbaepacihkgalaa
namespace Go.Proofs.Ytbaepacihkgalaa
open Go Go.Lite
set_option linter.unusedVariables false
set_option linter.unusedSimpArgs false
set_option maxRecDepth 100000
set_option maxHeartbeats 100000000

end Go.Proofs.Ytbaepacihkgalaa
namespace Go.Proofs.Ytbaepacihkgalaa
open Go Go.Lite
set_option linter.unusedVariables false
set_option linter.unusedSimpArgs false
set_option maxRecDepth 100000
set_option maxHeartbeats 4000000

theorem cfeed_c (S : Su) (u : Nat) (c : Ct) (st dr : Int) (sh : List (Int × Int)) (fm : List (List Int)) (so : SuOk S u) (ck : CtOk S u c) (hn : Due (c.n < 3999)) (ok : RcOk S u sh fm) : TC R Try.prog __control_Controller__Feed_f [.ptr 0 0, .agg [.int .i64 (c.n + 1), .int .i64 st, .lst E2i sh, .lst ELiJ fm, .int .i64 dr]] (ctR S u c) (fun v X => v = .tup [.sla 6 (u + 2) 0 (feE S c sh fm u).length, .int .i64 0] ∧ X = ctR S u { c with n := c.n + 1, ks := keK S c fm u } ++ [some (.arr E6i (feE S c sh fm u))]) := by
  rcases eight (u := u) (so.un) with e8 | e8 | e8
  · exact cfeed_c_1 S u c st dr sh fm so ck hn ok e8
  · exact cfeed_c_2 S u c st dr sh fm so ck hn ok e8
  · exact cfeed_c_3 S u c st dr sh fm so ck hn ok e8
end Go.Proofs.Ytbaepacihkgalaa
