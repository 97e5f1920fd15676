import Derived.Test.YtfgaefpdccdfiaaXRefspaceTriangle0
namespace Go.Proofs.Ytfgaefpdccdfiaa
open Go Go.Lite
set_option linter.unusedVariables false
set_option linter.unusedSimpArgs false
set_option maxRecDepth 100000
set_option maxHeartbeats 4000000
def tblRef : List (Nat × SF) := tbl_refspace ++ (tbl_curve ++ tbl_K2)
theorem tblRef_ok : okT Try.prog tblRef := okT_app tbl_refspace_ok (okT_app tbl_curve_ok tbl_K2_ok)
theorem refWorks_c : TC R Try.prog K2_refspaceWorks_f [] [] (fun v X => v = .bool true ∧ X = []) := .ev (n := 300) (d := 20) env (find_ok _ tblRef_ok) (by kernel_rfl)
end Go.Proofs.Ytfgaefpdccdfiaa
