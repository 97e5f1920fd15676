import Derived.Test.YtogbkhopanaoiaaXConditionTotals0
namespace Go.Proofs.Ytogbkhopanaoiaa
open Go Go.Lite
set_option linter.unusedVariables false
set_option linter.unusedSimpArgs false
set_option maxRecDepth 100000
set_option maxHeartbeats 4000000
def tblCnd : List (Nat × SF) := tbl_condition ++ (tbl_devicelink ++ (tbl_grid ++ (tbl_spot ++ (tbl_inklimit ++ (tbl_curve ++ (tbl_K2 ++ (tbl_R2 ++ (tbl_profile ++ tbl_refspace))))))))
theorem tblCnd_ok : okT Try.prog tblCnd := okT_app tbl_condition_ok (okT_app tbl_devicelink_ok (okT_app tbl_grid_ok (okT_app tbl_spot_ok (okT_app tbl_inklimit_ok (okT_app tbl_curve_ok (okT_app tbl_K2_ok (okT_app tbl_R2_ok (okT_app tbl_profile_ok tbl_refspace_ok))))))))
theorem condWorks_c : TC R Try.prog K2_conditionWorks_f [] [] (fun v X => v = .bool true ∧ X = []) := .ev (n := 300) (d := 20) env (find_ok _ tblCnd_ok) (by kernel_rfl)
end Go.Proofs.Ytogbkhopanaoiaa
