/- Bitmaps: Count. -/
import Derived.Test.YtagfanbodglplaaSheet3
import Derived.Test.YtagfanbodglplaaXTopCalibrated0
import Derived.Test.YtagfanbodglplaaOneB
import Derived.Test.YtagfanbodglplaaGo
namespace Go.Proofs.Ytagfanbodglplaa
open Go Go.Lite
set_option linter.unusedVariables false
set_option linter.unusedSimpArgs false
set_option maxRecDepth 100000
set_option maxHeartbeats 4000000
-- @simp rdi rdy

/-- How many pixels of a byte are set. -/
def pop (v : Int) : Int := sumN (fun b => one (bt v b)) 8
theorem pop_bd (v : Int) : 0 ≤ pop v ∧ pop v ≤ 8 := by
  have := sumN_bd (f := fun b => one (bt v b)) (k := 1) (n := 8) fun i _ => by unfold one; split <;> omega
  unfold pop; omega
def popL (d : List Int) : Int := sumN (fun i => pop (d.getD i 0)) d.length
noncomputable def onesOk (n : Nat) : Bool := match evF ty tbl_bits 50 5 math_bits_OnesCount8_f [.int .u8 n] [] with
  | some (.int .i64 m, []) => decide (m = pop (n : Int))
  | _ => false
theorem ones_all : ((List.range 256).all onesOk) = true := by kernel_rfl
theorem ones_c (v : Int) (h : Due (0 ≤ v ∧ v ≤ 255)) : TC R Try.prog math_bits_OnesCount8_f [.int .u8 v] [] (fun x X => x = .int .i64 (pop v) ∧ X = []) := by
  dsimp only [Due] at h
  obtain ⟨n, rfl⟩ : ∃ n : Nat, v = n := ⟨v.toNat, by omega⟩
  have := List.all_eq_true.1 ones_all n (List.mem_range.2 (by omega))
  unfold onesOk at this
  split at this
  · rename_i m e
    have hm := of_decide_eq_true this
    subst hm
    exact .ev (n := 50) (d := 5) env (find_ok _ tbl_bits_ok) e
  · cases this
theorem count_c (w k : Nat) (d : List Int) (ok : Due (BmOk w k d)) : TC R Try.prog bitmap_Count_f [.agg [.int .i64 w, .int .i64 k, .lst Ey d]] [] (fun x X => x = .tup [.int .i64 (popL d), .int .i64 0] ∧ X = []) := by
  dsimp only [Due] at ok
  have cc := bCheck_y w k d ok
  have hlb := len_bd ok.w1 ok.h1
  have hl := ok.len
  refine tc0 env bitmap_Count_s (by rfl) ?_
  dsimp only [bitmap_Count_c]
  repeat' (first
    | ((with_reducible refine TOps.any ?_); refine TOps.callV env (by rfl) (by rfl) (by rfl) (cc) ?_)
    | refine GZp_i_y ?_ ?_ ?_ ?_ ?_ ?_ ?_ ?_
    | with_reducible first | exact BzZq.mk | refine Tw.ret ?_ | refine ImZq.i fun h => ?_ | refine IkZq.i fun hk => ?_)
  refine Tw.loopK [14, 15] (fun i : Nat => i ≤ d.length) (fun i => d.length - i) (fun i => [(5, .int .i64 (sumN (fun i => pop (d.getD i 0)) i)), (16, .int .i64 i)]) (fun _ => []) ⟨0, by omega, TWk.fcanon env [] (by rfl) ?_⟩ (fun i hi => ?_)
  · repeat' (first
      | refine GZ_i_y ?_ ?_ ?_ ?_ ?_ ?_ ?_ ?_
      | with_reducible first | exact BzZq.mk | refine Tw.ret ?_ | refine ImZq.i fun h => ?_ | refine IkZq.i fun hk => ?_)
  have hb := sumN_bd (f := fun i => pop (d.getD i 0)) (k := 8) (n := i) fun j _ => pop_bd _
  rcases Nat.lt_or_ge i d.length with hi | hi
  · have oc := ones_c (d.getD i 0) (ok.byte i hi)
    have hp := pop_bd (d.getD i 0)
    repeat' (first
      | ((with_reducible refine TOps.any ?_); refine TOps.callV env (by rfl) (by rfl) (by rfl) (oc) ?_)
      | refine GZp_i_y ?_ ?_ ?_ ?_ ?_ ?_ ?_ ?_
      | with_reducible first | exact BzZq.mk | refine Tw.ret ?_ | refine ImZq.i fun h => ?_ | refine IkZq.i fun hk => ?_)
    refine ⟨i + 1, by omega, by omega, TWk.fcanon env [] (by rfl) ?_⟩
    repeat' (first
      | refine GZ_i_y ?_ ?_ ?_ ?_ ?_ ?_ ?_ ?_
      | with_reducible first | exact BzZq.mk | refine Tw.ret ?_ | refine ImZq.i fun h => ?_ | refine IkZq.i fun hk => ?_)
  · obtain rfl : i = d.length := by omega
    repeat' (first
      | refine GZp_i_y ?_ ?_ ?_ ?_ ?_ ?_ ?_ ?_
      | with_reducible first | exact BzZq.mk | refine Tw.ret ?_ | refine ImZq.i fun h => ?_ | refine IkZq.i fun hk => ?_)
    exact ⟨rfl, rfl, rfl⟩
end Go.Proofs.Ytagfanbodglplaa
