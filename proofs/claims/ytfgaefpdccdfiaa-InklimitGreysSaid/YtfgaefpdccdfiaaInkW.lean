import Derived.Test.YtfgaefpdccdfiaaXInklimitGreys0
namespace Go.Proofs.Ytfgaefpdccdfiaa
open Go Go.Lite
set_option linter.unusedVariables false
set_option linter.unusedSimpArgs false
set_option maxRecDepth 100000
set_option maxHeartbeats 4000000
def tblInk : List (Nat × SF) := tbl_inklimit ++ (tbl_curve ++ (tbl_K2 ++ (tbl_R2 ++ tbl_profile)))
theorem tblInk_ok : okT Try.prog tblInk := okT_app tbl_inklimit_ok (okT_app tbl_curve_ok (okT_app tbl_K2_ok (okT_app tbl_R2_ok tbl_profile_ok)))
theorem inkWorks_c : TC R Try.prog K2_inklimitWorks_f [] [] (fun v X => v = .bool true ∧ X = []) := .ev (n := 300) (d := 20) env (find_ok _ tblInk_ok) (by kernel_rfl)
end Go.Proofs.Ytfgaefpdccdfiaa
