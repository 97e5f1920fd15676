import Derived.Test.YtagfanbodglplaaXTopCalibrated0
namespace Go.Proofs.Ytagfanbodglplaa
open Go Go.Lite
set_option linter.unusedVariables false
set_option linter.unusedSimpArgs false
set_option maxRecDepth 100000
set_option maxHeartbeats 4000000
def tblScreen : List (Nat × SF) := tbl_screen ++ (tbl_K2 ++ (tbl_R2 ++ (tbl_slices ++ (tbl_bits ++ tbl_curve))))
theorem tblScreen_ok : okT Try.prog tblScreen := okT_app tbl_screen_ok (okT_app tbl_K2_ok (okT_app tbl_R2_ok (okT_app tbl_slices_ok (okT_app tbl_bits_ok tbl_curve_ok))))
end Go.Proofs.Ytagfanbodglplaa
