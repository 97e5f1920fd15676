/- Bitmaps: Mark, Blank, and bitmaps made pixel by pixel. -/
import Derived.Test.YtcehapmkhlmgdaaBits1
import Derived.Test.YtcehapmkhlmgdaaGo
namespace Go.Proofs.Ytcehapmkhlmgdaa
open Go Go.Lite
set_option linter.unusedVariables false
set_option linter.unusedSimpArgs false
set_option maxRecDepth 100000
set_option maxHeartbeats 4000000
-- @simp rdi rdy

theorem mark_c (w k : Nat) (d : List Int) (x y : Nat) (hw : Due (1 ≤ w ∧ w ≤ 1024)) (hk : Due (1 ≤ k ∧ k ≤ 1024)) (hl : Due (d.length = st w * k)) (hd : Due (0 ≤ d.getD (at8 w x y) 0 ∧ d.getD (at8 w x y) 0 ≤ 255)) (hx : Due (x < w)) (hy : Due (y < k)) :
    TC R Try.prog bitmap_Mark_f [.ptr 0 0, .int .i64 x, .int .i64 y] [some (.cells [.int .i64 w, .int .i64 k, .sla 1 1 0 (st w * k)]), some (.arr Ey d)]
    (fun v X => v = .tup [] ∧ X = [some (.cells [.int .i64 w, .int .i64 k, .sla 1 1 0 (st w * k)]), some (.arr Ey (d.set (at8 w x y) (bor (d.getD (at8 w x y) 0) ((128 : Int) / 2 ^ (x % 8)))))]) := by
  dsimp only [Due] at hw hk hl hd hx hy
  have hl8 := at8_lt hx hy
  have hlb := len_bd hw hk
  have q1 : quo (x : Int) 8 = ((x / 8 : Nat) : Int) := by rw [quo_nn (by omega)]; omega
  have q2 : rem (x : Int) 8 = ((x % 8 : Nat) : Int) := by rw [rem_nn (by omega)]; omega
  have q3 : (y : Int) * (st w : Int) + ((x / 8 : Nat) : Int) = ((at8 w x y : Nat) : Int) := by unfold at8; simp
  have q4 : 0 ≤ (y : Int) * (st w : Int) ∧ (y : Int) * (st w : Int) ≤ ((at8 w x y : Nat) : Int) := ⟨Int.mul_nonneg (by omega) (by omega), by omega⟩
  have q5 : (0 : Int) ≤ (128 : Int) / 2 ^ (x % 8) ∧ (128 : Int) / 2 ^ (x % 8) ≤ 255 := by
    rw [sh_pow (by omega)]
    have h7 : (2 : Nat) ^ (7 - x % 8) ≤ 2 ^ 7 := Nat.pow_le_pow_right (by omega) (by omega)
    generalize (2 : Nat) ^ (7 - x % 8) = m at *
    omega
  have sc := stride_c w (by unfold Due; omega)
  refine tc env bitmap_Mark_s (by rfl) ?_
  dsimp only [bitmap_Mark_c]
  repeat' (first
    | ((with_reducible refine TDr.any ?_); refine TDr.callE env (by first | rfl | assumption) (by rfl) (by rfl) ?_ (sc) (by rfl) (by rfl) ?_)
    | refine GZy_i_y (And.intro q1 (And.intro q2 q3)) ?_ ?_ ?_ ?_ ?_ ?_ ?_ ?_
    | with_reducible first | exact BzZq.mk | refine Tw.ret ?_ | refine ImZq.i fun h => ?_ | refine IkZq.i fun hk => ?_)
  rw [q2, q1, q3, Int.toNat_natCast, Int.toNat_natCast]
  exact ⟨rfl, rfl⟩

theorem blank_r (w k : Nat) (hw : 1 ≤ w ∧ w ≤ 1024) (hk : 1 ≤ k ∧ k ≤ 1024) :
    TC R Try.prog bitmap_Blank_f [.int .i64 w, .int .i64 k] [] (fun v X => v = .agg [.int .i64 w, .int .i64 k, .sla 1 1 0 (st w * k)] ∧ X = [some (.cells [.int .i64 w, .int .i64 k, .sla 1 1 0 (st w * k)]), some (.arr Ey (bm w k fun _ _ => false))]) := by
  have hlb := len_bd hw hk
  have sb := st_bd hw
  have e1 : (st w : Int) * (k : Int) = ((st w * k : Nat) : Int) := by simp
  have sc := stride_c w (by unfold Due; omega)
  rw [bm_blank]
  refine tc env bitmap_Blank_s (by rfl) ?_
  dsimp only [bitmap_Blank_c]
  repeat' (first
    | ((with_reducible refine TOps.any ?_); refine TOps.callV env (by rfl) (by rfl) (by rfl) (sc) ?_)
    | refine GZy_i_y e1 ?_ ?_ ?_ ?_ ?_ ?_ ?_ ?_
    | with_reducible first | exact BzZq.mk | refine Tw.ret ?_ | refine ImZq.i fun h => ?_ | refine IkZq.i fun hk => ?_)
  rw [e1, Int.toNat_natCast]
  exact ⟨rfl, rfl⟩
theorem blank_c (w k : Nat) (hw : Due (1 ≤ w ∧ w ≤ 1024)) (hk : Due (1 ≤ k ∧ k ≤ 1024)) :
    TC R Try.prog bitmap_Blank_f [.int .i64 w, .int .i64 k] [] (fun v X => v = .agg [.int .i64 w, .int .i64 k, .sla 1 0 0 (st w * k)] ∧ X = [some (.arr Ey (bm w k fun _ _ => false))]) := by
  refine (blank_r w k hw hk).wk fun v X h => ?_
  obtain ⟨rfl, rfl⟩ := h
  refine ⟨_, [some (.arr Ey (bm w k fun _ _ => false))], TWk.fcanon env [some 1] (F' := [(0, .agg [.int .i64 w, .int .i64 k, .sla 1 0 0 (st w * k)])]) (by rfl) ?_, rfl, rfl⟩
  repeat' (first
    | refine GZ_i_y ?_ ?_ ?_ ?_ ?_ ?_ ?_ ?_
    | with_reducible first | exact BzZq.mk | refine Tw.ret ?_ | refine ImZq.i fun h => ?_ | refine IkZq.i fun hk => ?_)

end Go.Proofs.Ytcehapmkhlmgdaa
