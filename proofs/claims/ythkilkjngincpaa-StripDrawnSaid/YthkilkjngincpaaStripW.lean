import Derived.Test.YthkilkjngincpaaXStripDrawn0
namespace Go.Proofs.Ythkilkjngincpaa
open Go Go.Lite
set_option linter.unusedVariables false
set_option linter.unusedSimpArgs false
set_option maxRecDepth 100000
set_option maxHeartbeats 4000000
def tblStrip : List (Nat × SF) := tbl_strip ++ (tbl_bitmap ++ (tbl_K2 ++ (tbl_R2 ++ tbl_curve)))
theorem tblStrip_ok : okT Try.prog tblStrip := okT_app tbl_strip_ok (okT_app tbl_bitmap_ok (okT_app tbl_K2_ok (okT_app tbl_R2_ok tbl_curve_ok)))
theorem stripWorks_c : TC R Try.prog K2_stripWorks_f [] [] (fun v X => v = .bool true ∧ X = []) := .ev (n := 300) (d := 20) env (find_ok _ tblStrip_ok) (by kernel_rfl)
end Go.Proofs.Ythkilkjngincpaa
