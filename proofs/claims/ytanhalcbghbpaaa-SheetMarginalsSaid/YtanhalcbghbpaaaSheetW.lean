import Derived.Test.YtanhalcbghbpaaaXSheetMarginals0
namespace Go.Proofs.Ytanhalcbghbpaaa
open Go Go.Lite
set_option linter.unusedVariables false
set_option linter.unusedSimpArgs false
set_option maxRecDepth 100000
set_option maxHeartbeats 4000000
def tblSheet : List (Nat × SF) := tbl_sheet ++ (tbl_bitmap ++ (tbl_K2 ++ (tbl_R2 ++ tbl_curve)))
theorem tblSheet_ok : okT Try.prog tblSheet := okT_app tbl_sheet_ok (okT_app tbl_bitmap_ok (okT_app tbl_K2_ok (okT_app tbl_R2_ok tbl_curve_ok)))
theorem sheetWorks_c : TC R Try.prog K2_sheetWorks_f [] [] (fun v X => v = .bool true ∧ X = []) := .ev (n := 300) (d := 20) env (find_ok _ tblSheet_ok) (by kernel_rfl)
end Go.Proofs.Ytanhalcbghbpaaa
