/- Controllers: a press is run under a controller. -/
import Derived.Test.YtbaepacihkgalaaCtl5b
import Derived.Test.YtbaepacihkgalaaCtl5c
namespace Go.Proofs.Ytbaepacihkgalaa
open Go Go.Lite
set_option linter.unusedVariables false
set_option linter.unusedSimpArgs false
set_option maxRecDepth 100000
set_option maxHeartbeats 4000000

theorem loop_c (S : Su) (u : Nat) (ci cr : Int) (l : List Ev) (n : Nat) (so : SuOk S u) (hc : chkE S.Z S.mr S.rg S.tol S.tg S.ks S.ld = 0) (h0 : ctlE ci cr = 0) (hs : scE l u S.Z = 0) (hl : l.length ≤ 200) (hn : Due (n ≤ 3999)) : TC R Try.prog control_Loop_f [.agg [.int .i64 S.Z, .int .i64 S.mr, .int .i64 S.rg, .int .i64 S.tol, .lst Ei S.tg, .lst ELiJ S.ks, .lst ELiJ S.ld], .agg [.int .i64 ci, .int .i64 cr], .lst E6i l, .int .i64 n] [] (fun v X => v = .tup [.lst E2iL2iJLLiJJi (lpL S u (newCt S ci cr) l n), .int .i64 0] ∧ X = []) := by
  rcases eight (u := u) (so.un) with e8 | e8 | e8 | e8 | e8 | e8 | e8 | e8
  · exact loop_c_1 S u ci cr l n so hc h0 hs hl hn e8
  · exact loop_c_2 S u ci cr l n so hc h0 hs hl hn e8
  · exact loop_c_3 S u ci cr l n so hc h0 hs hl hn e8
  · exact loop_c_4 S u ci cr l n so hc h0 hs hl hn e8
  · exact loop_c_5 S u ci cr l n so hc h0 hs hl hn e8
  · exact loop_c_6 S u ci cr l n so hc h0 hs hl hn e8
  · exact loop_c_7 S u ci cr l n so hc h0 hs hl hn e8
  · exact loop_c_8 S u ci cr l n so hc h0 hs hl hn e8
end Go.Proofs.Ytbaepacihkgalaa
