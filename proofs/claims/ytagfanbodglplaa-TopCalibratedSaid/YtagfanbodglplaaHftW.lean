/- The facts' call of package halftone. -/
import Derived.Test.YtagfanbodglplaaHft2
import Derived.Test.YtagfanbodglplaaScreenW
import Derived.Test.YtagfanbodglplaaRBytes
import Derived.Test.YtagfanbodglplaaRInts
import Derived.Test.YtagfanbodglplaaXTopCalibrated0
import Derived.Test.YtagfanbodglplaaGo
namespace Go.Proofs.Ytagfanbodglplaa
open Go Go.Lite
set_option linter.unusedVariables false
set_option linter.unusedSimpArgs false
set_option maxRecDepth 100000
set_option maxHeartbeats 4000000
-- @simp rdi rdy

def tblHft : List (Nat × SF) := tbl_halftone ++ (tbl_bitmap ++ tblScreen)
theorem tblHft_ok : okT Try.prog tblHft := okT_app tbl_halftone_ok (okT_app tbl_bitmap_ok tblScreen_ok)
def p55 : List Int := [128, 128, 128, 128, 128]
def r21 : List Int := [0, 1, 2, 3, 4]
def l1 : List Int := [128]
theorem rk21_e : TC R Try.prog screen_Ranks_f [.agg [.int .i64 2, .int .i64 1, .int .i64 0]] [] (fun v X => v = .sla 1 4 0 5 ∧ X = [some (.cells [.int .i64 2, .int .i64 1, .int .i64 0]), some (.cells [.int .i64 5, .int .i64 2, .int .i64 1]), some (.arr Ei r21), some (.cells [.fn screen_Ranks_1_f [.ptr 0 0, .ptr 1 0]]), some (.arr Ei r21)]) := .ev (n := 300) (d := 20) env (find_ok _ tblHft_ok) (by kernel_rfl)
theorem rk21_c : TC R Try.prog screen_Ranks_f [.agg [.int .i64 2, .int .i64 1, .int .i64 0]] [] (fun v X => v = .sla 1 0 0 5 ∧ X = [some (.arr Ei r21)]) := by
  refine rk21_e.wk fun v X h => ?_
  obtain ⟨rfl, rfl⟩ := h
  refine ⟨_, [some (.arr Ei r21)], TWk.fcanon env [some 4] (F' := [(0, .sla 1 0 0 5)]) (by rfl) ?_, rfl, rfl⟩
  repeat' (first
    | refine GZ_i_y ?_ ?_ ?_ ?_ ?_ ?_ ?_ ?_
    | with_reducible first | exact BzZq.mk | refine Tw.ret ?_ | refine ImZq.i fun h => ?_ | refine IkZq.i fun hk => ?_)
end Go.Proofs.Ytagfanbodglplaa
