/- Presses: the facts' sPress. -/
import Derived.Test.YtihminfnphichaaPst1
import Derived.Test.YtihminfnphichaaX0
namespace Go.Proofs.Ytihminfnphichaa
open Go Go.Lite
set_option linter.unusedVariables false
set_option linter.unusedSimpArgs false
set_option maxRecDepth 100000
set_option maxHeartbeats 4000000
-- @simp rdi rdy rd2iLyJ

def tblSPress : List (Nat × SF) := tbl_press ++ (tbl_bitmap ++ (tbl_curve ++ tbl_T))
theorem tblSPress_ok : okT Try.prog tblSPress := okT_app tbl_press_ok (okT_app tbl_bitmap_ok (okT_app tbl_curve_ok tbl_T_ok))
theorem sPress_c : TC R Try.prog T_sPress_f [] [] (fun v X => v = .bool true ∧ X = []) := .ev (n := 1000) (d := 20) env (find_ok _ tblSPress_ok) (by kernel_rfl)
theorem nilS {f e : Nat} {x y : TV A} {Q : TV A → TH A → Prop} (hx : thfree x = true) (hy : thfree y = true) (k : TC R Try.prog f [x, .lst e [], y] [] Q) : TC R Try.prog f [x, .nils, y] [] Q := by
  refine TC.args ?_ ?_ k
  · rfl
  · intro i h1 h2
    match i, h1, h2 with
    | 0, _, _ => exact Less.same hx
    | 1, _, _ => exact Less.nil (R := R) (e := e)
    | 2, _, _ => exact Less.same hy
end Go.Proofs.Ytihminfnphichaa
