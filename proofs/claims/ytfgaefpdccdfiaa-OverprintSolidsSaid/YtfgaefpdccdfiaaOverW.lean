import Derived.Test.YtfgaefpdccdfiaaXOverprintSolids0
namespace Go.Proofs.Ytfgaefpdccdfiaa
open Go Go.Lite
set_option linter.unusedVariables false
set_option linter.unusedSimpArgs false
set_option maxRecDepth 100000
set_option maxHeartbeats 4000000
def tblOver : List (Nat × SF) := tbl_overprint ++ (tbl_curve ++ (tbl_K2 ++ (tbl_R2 ++ (tbl_profile ++ tbl_refspace))))
theorem tblOver_ok : okT Try.prog tblOver := okT_app tbl_overprint_ok (okT_app tbl_curve_ok (okT_app tbl_K2_ok (okT_app tbl_R2_ok (okT_app tbl_profile_ok tbl_refspace_ok))))
theorem overWorks_c : TC R Try.prog K2_overprintWorks_f [] [] (fun v X => v = .bool true ∧ X = []) := .ev (n := 300) (d := 20) env (find_ok _ tblOver_ok) (by kernel_rfl)
end Go.Proofs.Ytfgaefpdccdfiaa
