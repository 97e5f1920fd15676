import Derived.Test.YthnfbdihihhoiaaXGridRefined0
namespace Go.Proofs.Ythnfbdihihhoiaa
open Go Go.Lite
set_option linter.unusedVariables false
set_option linter.unusedSimpArgs false
set_option maxRecDepth 100000
set_option maxHeartbeats 4000000
def tblGrid : List (Nat × SF) := tbl_grid ++ (tbl_curve ++ (tbl_K2 ++ tbl_R2))
theorem tblGrid_ok : okT Try.prog tblGrid := okT_app tbl_grid_ok (okT_app tbl_curve_ok (okT_app tbl_K2_ok tbl_R2_ok))
theorem gridWorks_c : TC R Try.prog K2_gridWorks_f [] [] (fun v X => v = .bool true ∧ X = []) := .ev (n := 300) (d := 20) env (find_ok _ tblGrid_ok) (by kernel_rfl)
end Go.Proofs.Ythnfbdihihhoiaa
