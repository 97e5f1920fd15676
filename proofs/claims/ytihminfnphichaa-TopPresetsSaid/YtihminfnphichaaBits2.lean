/- Bitmaps: Mark, Blank, and bitmaps made pixel by pixel. -/
import Derived.Test.YtihminfnphichaaBits1
import Derived.Test.YtihminfnphichaaGo
namespace Go.Proofs.Ytihminfnphichaa
open Go Go.Lite
set_option linter.unusedVariables false
set_option linter.unusedSimpArgs false
set_option maxRecDepth 100000
set_option maxHeartbeats 4000000
-- @simp rdi rdy

theorem blank_r (w k : Nat) (hw : 1 ≤ w ∧ w ≤ 1024) (hk : 1 ≤ k ∧ k ≤ 1024) :
    TC R Try.prog bitmap_Blank_f [.int .i64 w, .int .i64 k] [] (fun v X => v = .agg [.int .i64 w, .int .i64 k, .sla 1 1 0 (st w * k)] ∧ X = [some (.cells [.int .i64 w, .int .i64 k, .sla 1 1 0 (st w * k)]), some (.arr Ey (bm w k fun _ _ => false))]) := by
  have hlb := len_bd hw hk
  have sb := st_bd hw
  have e1 : (st w : Int) * (k : Int) = ((st w * k : Nat) : Int) := by simp
  have sc := stride_c w (by unfold Due; omega)
  rw [bm_blank]
  refine tc env bitmap_Blank_s (by rfl) ?_
  dsimp only [bitmap_Blank_c]
  repeat' (first
    | ((with_reducible refine TOps.any ?_); refine TOps.callV env (by rfl) (by rfl) (by rfl) (sc) ?_)
    | refine GZy_i_y e1 ?_ ?_ ?_ ?_ ?_ ?_ ?_ ?_
    | with_reducible first | exact BzZq.mk | refine Tw.ret ?_ | refine ImZq.i fun h => ?_ | refine IkZq.i fun hk => ?_)
  rw [e1, Int.toNat_natCast]
  exact ⟨rfl, rfl⟩
theorem blank_c (w k : Nat) (hw : Due (1 ≤ w ∧ w ≤ 1024)) (hk : Due (1 ≤ k ∧ k ≤ 1024)) :
    TC R Try.prog bitmap_Blank_f [.int .i64 w, .int .i64 k] [] (fun v X => v = .agg [.int .i64 w, .int .i64 k, .sla 1 0 0 (st w * k)] ∧ X = [some (.arr Ey (bm w k fun _ _ => false))]) := by
  refine (blank_r w k hw hk).wk fun v X h => ?_
  obtain ⟨rfl, rfl⟩ := h
  refine ⟨_, [some (.arr Ey (bm w k fun _ _ => false))], TWk.fcanon env [some 1] (F' := [(0, .agg [.int .i64 w, .int .i64 k, .sla 1 0 0 (st w * k)])]) (by rfl) ?_, rfl, rfl⟩
  repeat' (first
    | refine GZ_i_y ?_ ?_ ?_ ?_ ?_ ?_ ?_ ?_
    | with_reducible first | exact BzZq.mk | refine Tw.ret ?_ | refine ImZq.i fun h => ?_ | refine IkZq.i fun hk => ?_)

end Go.Proofs.Ytihminfnphichaa
