import Derived.Test.YtkapjajlkpepmaaXDevicelinkSelf0
namespace Go.Proofs.Ytkapjajlkpepmaa
open Go Go.Lite
set_option linter.unusedVariables false
set_option linter.unusedSimpArgs false
set_option maxRecDepth 100000
set_option maxHeartbeats 4000000
def tblDvl : List (Nat × SF) := tbl_devicelink ++ (tbl_grid ++ (tbl_curve ++ (tbl_K2 ++ (tbl_R2 ++ (tbl_profile ++ (tbl_refspace ++ tbl_inverse))))))
theorem tblDvl_ok : okT Try.prog tblDvl := okT_app tbl_devicelink_ok (okT_app tbl_grid_ok (okT_app tbl_curve_ok (okT_app tbl_K2_ok (okT_app tbl_R2_ok (okT_app tbl_profile_ok (okT_app tbl_refspace_ok tbl_inverse_ok))))))
theorem dvlWorks_c : TC R Try.prog K2_devicelinkWorks_f [] [] (fun v X => v = .bool true ∧ X = []) := .ev (n := 300) (d := 20) env (find_ok _ tblDvl_ok) (by kernel_rfl)
end Go.Proofs.Ytkapjajlkpepmaa
