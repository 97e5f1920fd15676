import Derived.Test.YthkilkjngincpaaXReedsolomonCorrects0
namespace Go.Proofs.Ythkilkjngincpaa
open Go Go.Lite
set_option linter.unusedVariables false
set_option linter.unusedSimpArgs false
set_option maxRecDepth 100000
set_option maxHeartbeats 4000000
def tblReedsolomon : List (Nat × SF) := tbl_reedsolomon ++ (tbl_K2 ++ tbl_R2)
theorem tblReedsolomon_ok : okT Try.prog tblReedsolomon := okT_app tbl_reedsolomon_ok (okT_app tbl_K2_ok tbl_R2_ok)
theorem reedsolomonWorks_c : TC R Try.prog K2_reedsolomonWorks_f [] [] (fun v X => v = .bool true ∧ X = []) := .ev (n := 300) (d := 20) env (find_ok _ tblReedsolomon_ok) (by kernel_rfl)
end Go.Proofs.Ythkilkjngincpaa
