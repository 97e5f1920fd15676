/- The reference's own trial of the press. -/
import Derived.Test.YtbaepacihkgalaaPrs2
import Derived.Test.YtbaepacihkgalaaX0
namespace Go.Proofs.Ytbaepacihkgalaa
open Go Go.Lite
set_option linter.unusedVariables false
set_option linter.unusedSimpArgs false
set_option maxRecDepth 100000
set_option maxHeartbeats 4000000
-- @simp rdi
def tblPress : List (Nat × SF) := tbl_press ++ (tbl_bitmap ++ (tbl_curve ++ (tbl_K2 ++ tbl_R2)))
theorem tblPress_ok : okT Try.prog tblPress := okT_app tbl_press_ok (okT_app tbl_bitmap_ok (okT_app tbl_curve_ok (okT_app tbl_K2_ok tbl_R2_ok)))
theorem pressWorks_c : TC R Try.prog K2_pressWorks_f [] [] (fun v X => v = .bool true ∧ X = []) := .ev (n := 1000) (d := 20) env (find_ok _ tblPress_ok) (by kernel_rfl)
end Go.Proofs.Ytbaepacihkgalaa
