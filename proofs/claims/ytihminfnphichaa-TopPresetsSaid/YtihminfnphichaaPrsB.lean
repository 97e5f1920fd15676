/- Presses: a sheet is fed. -/
import Derived.Test.YtihminfnphichaaPrsBa
namespace Go.Proofs.Ytihminfnphichaa
open Go Go.Lite
set_option linter.unusedVariables false
set_option linter.unusedSimpArgs false
set_option maxRecDepth 100000
set_option maxHeartbeats 100000000

end Go.Proofs.Ytihminfnphichaa
namespace Go.Proofs.Ytihminfnphichaa
open Go Go.Lite
set_option linter.unusedVariables false
set_option linter.unusedSimpArgs false
set_option maxRecDepth 100000
set_option maxHeartbeats 100000000

end Go.Proofs.Ytihminfnphichaa
namespace Go.Proofs.Ytihminfnphichaa
open Go Go.Lite
set_option linter.unusedVariables false
set_option linter.unusedSimpArgs false
set_option maxRecDepth 100000
set_option maxHeartbeats 4000000

theorem feed_c (S : Su) (u : Nat) (p : Ps) (so : SuOk S u) (ok : PsOk S u p) (hn : p.n < 4000) : TC R Try.prog __press_Press__Feed_f [.ptr 0 0] (prR S u p) (fun v X => v = .tup [.agg [.int .i64 (p.n + 1), .int .i64 (fedS S u p), .lst E2i (shK S p.us u), .lst ELiJ (flL S p.us u 0), .int .i64 (fedD S u p)], .int .i64 0] ∧ X = prR S u (fedP S u p)) := by
  rcases eight (u := u) (so.un) with e8 | e8 | e8
  · exact feed_c_1 S u p so ok hn e8
  · exact feed_c_2 S u p so ok hn e8
  · exact feed_c_3 S u p so ok hn e8
end Go.Proofs.Ytihminfnphichaa
