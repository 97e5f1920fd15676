/- The facts' call of package halftone. -/
import Derived.Test.YtcehapmkhlmgdaaHft2
import Derived.Test.YtcehapmkhlmgdaaScreenW
import Derived.Test.YtcehapmkhlmgdaaRBytes
import Derived.Test.YtcehapmkhlmgdaaRInts
import Derived.Test.YtcehapmkhlmgdaaXHalftoneTone0
import Derived.Test.YtcehapmkhlmgdaaGo
namespace Go.Proofs.Ytcehapmkhlmgdaa
open Go Go.Lite
set_option linter.unusedVariables false
set_option linter.unusedSimpArgs false
set_option maxRecDepth 100000
set_option maxHeartbeats 4000000
-- @simp rdi rdy

def tblHft : List (Nat × SF) := tbl_halftone ++ (tbl_bitmap ++ tblScreen)
theorem tblHft_ok : okT Try.prog tblHft := okT_app tbl_halftone_ok (okT_app tbl_bitmap_ok tblScreen_ok)
def p55 : List Int := [128, 128, 128, 128, 128]
def p22 : List Int := [128, 64]
def r21 : List Int := [0, 1, 2, 3, 4]
def l1 : List Int := [128]
theorem rk21_e : TC R Try.prog screen_Ranks_f [.agg [.int .i64 2, .int .i64 1, .int .i64 0]] [] (fun v X => v = .sla 1 4 0 5 ∧ X = [some (.cells [.int .i64 2, .int .i64 1, .int .i64 0]), some (.cells [.int .i64 5, .int .i64 2, .int .i64 1]), some (.arr Ei r21), some (.cells [.fn screen_Ranks_1_f [.ptr 0 0, .ptr 1 0]]), some (.arr Ei r21)]) := .ev (n := 300) (d := 20) env (find_ok _ tblHft_ok) (by kernel_rfl)
theorem rk21_c : TC R Try.prog screen_Ranks_f [.agg [.int .i64 2, .int .i64 1, .int .i64 0]] [] (fun v X => v = .sla 1 0 0 5 ∧ X = [some (.arr Ei r21)]) := by
  refine rk21_e.wk fun v X h => ?_
  obtain ⟨rfl, rfl⟩ := h
  refine ⟨_, [some (.arr Ei r21)], TWk.fcanon env [some 4] (F' := [(0, .sla 1 0 0 5)]) (by rfl) ?_, rfl, rfl⟩
  repeat' (first
    | refine GZ_i_y ?_ ?_ ?_ ?_ ?_ ?_ ?_ ?_
    | with_reducible first | exact BzZq.mk | refine Tw.ret ?_ | refine ImZq.i fun h => ?_ | refine IkZq.i fun hk => ?_)
theorem tones_e : TC R Try.prog halftone_Tones_f [.agg [.int .i64 2, .int .i64 2, .lst Ey p22], .agg [.int .i64 1, .int .i64 1, .int .i64 0]] [] (fun v X => v = .tup [.sla 1 3 0 1, .int .i64 0] ∧ X = [some (.cells [.int .i64 2, .int .i64 2, .lst Ey p22]), some (.cells [.int .i64 1, .int .i64 1, .int .i64 0]), some (.arr Ei l1), some (.arr Ei l1)]) := .ev (n := 300) (d := 20) env (find_ok _ tblHft_ok) (by kernel_rfl)
theorem tones_e1 : TC R Try.prog halftone_Tones_f [.agg [.int .i64 2, .int .i64 2, .lst Ey p22], .agg [.int .i64 1, .int .i64 1, .int .i64 0]] [] (fun v X => v = .tup [.sla 1 0 0 1, .int .i64 0] ∧ X = [some (.arr Ei l1)]) := by
  refine tones_e.wk fun v X h => ?_
  obtain ⟨rfl, rfl⟩ := h
  refine ⟨_, [some (.arr Ei l1)], TWk.fcanon env [some 3] (F' := [(0, .tup [.sla 1 0 0 1, .int .i64 0])]) (by rfl) ?_, rfl, rfl⟩
  repeat' (first
    | refine GZ_i_y ?_ ?_ ?_ ?_ ?_ ?_ ?_ ?_
    | with_reducible first | exact BzZq.mk | refine Tw.ret ?_ | refine ImZq.i fun h => ?_ | refine IkZq.i fun hk => ?_)
theorem tones_c : TC R Try.prog halftone_Tones_f [.agg [.int .i64 2, .int .i64 2, .lst Ey p22], .agg [.int .i64 1, .int .i64 1, .int .i64 0]] [] (fun v X => v = .tup [.lst Ei l1, .int .i64 0] ∧ X = []) := by
  refine tones_e1.wk fun v X h => ?_
  obtain ⟨rfl, rfl⟩ := h
  exact ⟨_, [], TWk.frzT env (e := Ei) rfl rfl rfl rfl, rfl, rfl⟩
theorem htWorks_c : TC R Try.prog K2_halftoneWorks_f [] [] (fun v X => v = .bool true ∧ X = []) := by
  obtain ⟨P, f, g, oc, F⟩ := of_ex 2 1 0 (by decide)
  obtain ⟨n1, k1, e1, e2⟩ := F.l1
  have hP := F.pb
  have hg := F.gb
  have hf := F.fb
  have ha := F.area
  have g1 : g = 1 := by
    rcases Int.lt_or_le 1 g with h | h
    · have z : 0 < n1 := by
        refine Int.not_le.1 fun hc => ?_
        have := Int.mul_le_mul_of_nonneg_left hc (show 0 ≤ g by omega)
        omega
      have := Int.mul_le_mul h (show (1 : Int) ≤ n1 by omega) (by omega) (by omega)
      omega
    · omega
  subst g1
  obtain rfl : P = 5 := by omega
  obtain rfl : n1 = 1 := by omega
  obtain rfl : f = 2 := by omega
  have ap := apply_g (k := 0) (by decide) F oc 5 (by unfold Due; decide) r21 rfl rk21_c 5 1 p55 (by unfold Due; omega) (by unfold Due; omega) (by unfold Due; rfl) (fun i hi => by
    have hi' : i < 5 := hi
    have : i = 0 ∨ i = 1 ∨ i = 2 ∨ i = 3 ∨ i = 4 := by omega
    rcases this with rfl | rfl | rfl | rfl | rfl <;> decide)
  have ev : bm 5 1 (hdot r21 5 2 1 (dotT 5) 5 p55) = [224] := by decide +kernel
  rw [ev] at ap
  have sb := sameBits_c 5 1 5 1 [224] [224] (by unfold Due; intro i hi; obtain rfl : i = 0 := by (have : i < 1 := hi; omega)
                                                decide) (by unfold Due; intro i hi; obtain rfl : i = 0 := by (have : i < 1 := hi; omega)
                                                            decide)
  have si := sameInts_c l1 [128] (by unfold Due; decide)
  refine tc0 env K2_halftoneWorks_s (by rfl) ?_
  dsimp only [K2_halftoneWorks_c]
  repeat' (first
    | refine GZp_i_y ?_ ?_ ?_ ?_ ?_ ?_ ?_ ?_
    | with_reducible first | exact BzZq.mk | refine Tw.ret ?_ | refine ImZq.i fun h => ?_ | refine IkZq.i fun hk => ?_)
  refine TOps.frz env 0 (by rfl) (by rfl) (by rfl) ?_ ?_ ?_
  · repeat' (first
      | refine GZ_i_y ?_ ?_ ?_ ?_ ?_ ?_ ?_ ?_
      | with_reducible first | exact BzZq.mk | refine Tw.ret ?_ | refine ImZq.i fun h => ?_ | refine IkZq.i fun hk => ?_)
  · repeat' (first
      | refine GZ_i_y ?_ ?_ ?_ ?_ ?_ ?_ ?_ ?_
      | with_reducible first | exact BzZq.mk | refine Tw.ret ?_ | refine ImZq.i fun h => ?_ | refine IkZq.i fun hk => ?_)
  repeat' (first
    | ((with_reducible refine TOps.any ?_); refine TOps.callV env (by rfl) (by rfl) (by rfl) (ap) ?_)
    | refine GZp_i_y ?_ ?_ ?_ ?_ ?_ ?_ ?_ ?_
    | with_reducible first | exact BzZq.mk | refine Tw.ret ?_ | refine ImZq.i fun h => ?_ | refine IkZq.i fun hk => ?_)
  refine TOps.frz env 2 (by rfl) (by rfl) (by rfl) ?_ ?_ ?_
  · repeat' (first
      | refine GZ_i_y ?_ ?_ ?_ ?_ ?_ ?_ ?_ ?_
      | with_reducible first | exact BzZq.mk | refine Tw.ret ?_ | refine ImZq.i fun h => ?_ | refine IkZq.i fun hk => ?_)
  · repeat' (first
      | refine GZ_i_y ?_ ?_ ?_ ?_ ?_ ?_ ?_ ?_
      | with_reducible first | exact BzZq.mk | refine Tw.ret ?_ | refine ImZq.i fun h => ?_ | refine IkZq.i fun hk => ?_)
  repeat' (first
    | ((with_reducible refine TOps.any ?_); refine TOps.callV env (by rfl) (by rfl) (by rfl) (tones_c) ?_)
    | ((with_reducible refine TOps.any ?_); refine TOps.callE env (by rfl) (by rfl) (by rfl) ?_ (sb) (by rfl) ?_)
    | ((with_reducible refine TOps.any ?_); refine TOps.callE env (by rfl) (by rfl) (by rfl) ?_ (si) (by rfl) ?_)
    | refine GZp_i_y ?_ ?_ ?_ ?_ ?_ ?_ ?_ ?_
    | with_reducible first | exact BzZq.mk | refine Tw.ret ?_ | refine ImZq.i fun h => ?_ | refine IkZq.i fun hk => ?_)
  all_goals exact ⟨rfl, congrArg TV.bool (by decide), rfl⟩
end Go.Proofs.Ytcehapmkhlmgdaa
