/- The dot area of a patch. -/
import Derived.Test.YthkilkjngincpaaStrip3
import Derived.Test.YthkilkjngincpaaNear
import Derived.Test.YthkilkjngincpaaOneB
import Derived.Test.YthkilkjngincpaaGo
namespace Go.Proofs.Ythkilkjngincpaa
open Go Go.Lite
set_option linter.unusedVariables false
set_option linter.unusedSimpArgs false
set_option maxRecDepth 100000
set_option maxHeartbeats 4000000
-- @simp rdi rdy

/-- The pixels of a patch that are set. -/
def areaN (w k : Nat) (d : List Int) (X V : Nat) (m : Nat) : Int := sumN (fun y => sumN (fun x => one (px w k d ((X + x : Nat) : Int) (y : Int))) V) m
theorem one_bd (b : Bool) : 0 ≤ one b ∧ one b ≤ 1 := by unfold one; split <;> omega
theorem area_c (w k : Nat) (d : List Int) (X V : Nat) (a b c : Int) (ok : Due (BmOk w k d)) (hV : Due (1 ≤ V ∧ X + V ≤ 1024)) :
    TC R Try.prog strip_area_f [.pel [.int .i64 w, .int .i64 k, .lst Ey d], .agg [.int .i64 X, .int .i64 V, .int .i64 a, .int .i64 b, .int .i64 c]] [] (fun v Y => v = .int .i64 (near (255 * areaN w k d X V k) (V * k)) ∧ Y = []) := by
  dsimp only [Due] at ok hV
  have hw := ok.w1
  have hk := ok.h1
  have rowb : ∀ y n, 0 ≤ sumN (fun x => one (px w k d ((X + x : Nat) : Int) (y : Int))) n ∧ sumN (fun x => one (px w k d ((X + x : Nat) : Int) (y : Int))) n ≤ n := fun y n => by
    have := sumN_bd (f := fun x => one (px w k d ((X + x : Nat) : Int) (y : Int))) (k := 1) (n := n) fun i _ => one_bd _
    omega
  have allb : ∀ m, 0 ≤ areaN w k d X V m ∧ areaN w k d X V m ≤ (V : Int) * m := fun m => sumN_bd fun i _ => rowb i V
  have vm : ∀ m : Nat, m ≤ k → (V : Int) * m ≤ 1024 * 1024 := fun m hm => by
    have : V * m ≤ 1024 * 1024 := Nat.mul_le_mul (by omega) (by omega)
    have e : (V : Int) * m = ((V * m : Nat) : Int) := by simp
    omega
  refine tc0 env strip_area_s (by rfl) ?_
  dsimp only [strip_area_c]
  repeat' (first
    | refine GZp_i_y ?_ ?_ ?_ ?_ ?_ ?_ ?_ ?_
    | with_reducible first | exact BzZq.mk | refine Tw.ret ?_ | refine ImZq.i fun h => ?_ | refine IkZq.i fun hk => ?_)
  refine Tw.loopK [0, 11] (fun y : Nat => y ≤ k) (fun y => k - y) (fun y => [(3, .ptr 0 0), (12, .int .i64 y), (5, .int .i64 (areaN w k d X V y))]) (fun _ => [some (.cells [.int .i64 X, .int .i64 V, .int .i64 a, .int .i64 b, .int .i64 c])]) ⟨0, by omega, TWk.fcanon env [some 0] (by rfl) ?_⟩ (fun y hy => ?_)
  · repeat' (first
      | refine GZ_i_y ?_ ?_ ?_ ?_ ?_ ?_ ?_ ?_
      | with_reducible first | exact BzZq.mk | refine Tw.ret ?_ | refine ImZq.i fun h => ?_ | refine IkZq.i fun hk => ?_)
  rcases Nat.lt_or_ge y k with hy | hy
  · have ay := allb y
    have vy := vm y (by omega)
    have e0 : areaN w k d X V y = areaN w k d X V y + sumN (fun x => one (px w k d ((X + x : Nat) : Int) (y : Int))) 0 := by simp [sumN]
    repeat' (first
      | refine GZp_i_y ?_ ?_ ?_ ?_ ?_ ?_ ?_ ?_
      | with_reducible first | exact BzZq.mk | refine Tw.ret ?_ | refine ImZq.i fun h => ?_ | refine IkZq.i fun hk => ?_)
    rw [e0]
    refine Tw.loopK [0, 11, 12, 6, 16] (fun x : Nat => x ≤ V) (fun x => V - x) (fun x => [(3, .ptr 0 0), (17, .int .i64 x), (5, .int .i64 (areaN w k d X V y + sumN (fun x => one (px w k d ((X + x : Nat) : Int) (y : Int))) x))]) (fun _ => [some (.cells [.int .i64 X, .int .i64 V, .int .i64 a, .int .i64 b, .int .i64 c])]) ⟨0, by omega, TWk.fcanon env [some 0] (by rfl) ?_⟩ (fun x hx => ?_)
    · repeat' (first
        | refine GZ_i_y ?_ ?_ ?_ ?_ ?_ ?_ ?_ ?_
        | with_reducible first | exact BzZq.mk | refine Tw.ret ?_ | refine ImZq.i fun h => ?_ | refine IkZq.i fun hk => ?_)
    rcases Nat.lt_or_ge x V with hx | hx
    · have rx := rowb y x
      have ic := is_c w k d ((X : Int) + x) y ok
      have es : sumN (fun x => one (px w k d ((X + x : Nat) : Int) (y : Int))) (x + 1) = sumN (fun x => one (px w k d ((X + x : Nat) : Int) (y : Int))) x + one (px w k d ((X : Int) + x) (y : Int)) := by
        show _ + one (px w k d ((X + x : Nat) : Int) (y : Int)) = _
        rw [Int.natCast_add]
      by_cases hp : px w k d ((X : Int) + x) y = true
      · rw [hp, show one true = 1 from rfl] at es
        repeat' (first
          | ((with_reducible refine TOps.any ?_); refine TOps.callV env (by rfl) (by rfl) (by rfl) (ic) ?_)
          | refine GZy_i_y hp ?_ ?_ ?_ ?_ ?_ ?_ ?_ ?_
          | with_reducible first | exact BzZq.mk | refine Tw.ret ?_ | refine ImZq.i fun h => ?_ | refine IkZq.i fun hk => ?_)
        refine ⟨x + 1, by omega, by omega, TWk.fcanon env [some 0] (by rfl) ?_⟩
        rw [es]
        repeat' (first
          | refine GZ_i_y ?_ ?_ ?_ ?_ ?_ ?_ ?_ ?_
          | with_reducible first | exact BzZq.mk | refine Tw.ret ?_ | refine ImZq.i fun h => ?_ | refine IkZq.i fun hk => ?_)
      · rw [Bool.not_eq_true] at hp
        rw [hp, show one false = 0 from rfl] at es
        repeat' (first
          | ((with_reducible refine TOps.any ?_); refine TOps.callV env (by rfl) (by rfl) (by rfl) (ic) ?_)
          | refine GZy_i_y hp ?_ ?_ ?_ ?_ ?_ ?_ ?_ ?_
          | with_reducible first | exact BzZq.mk | refine Tw.ret ?_ | refine ImZq.i fun h => ?_ | refine IkZq.i fun hk => ?_)
        refine ⟨x + 1, by omega, by omega, TWk.fcanon env [some 0] (by rfl) ?_⟩
        rw [es]
        repeat' (first
          | refine GZ_i_y ?_ ?_ ?_ ?_ ?_ ?_ ?_ ?_
          | with_reducible first | exact BzZq.mk | refine Tw.ret ?_ | refine ImZq.i fun h => ?_ | refine IkZq.i fun hk => ?_)
    · obtain rfl : x = V := by omega
      repeat' (first
        | refine GZp_i_y ?_ ?_ ?_ ?_ ?_ ?_ ?_ ?_
        | with_reducible first | exact BzZq.mk | refine Tw.ret ?_ | refine ImZq.i fun h => ?_ | refine IkZq.i fun hk => ?_)
      refine ⟨y + 1, by omega, by omega, TWk.fcanon env [some 0] (by rfl) ?_⟩
      repeat' (first
        | refine GZ_i_y ?_ ?_ ?_ ?_ ?_ ?_ ?_ ?_
        | with_reducible first | exact BzZq.mk | refine Tw.ret ?_ | refine ImZq.i fun h => ?_ | refine IkZq.i fun hk => ?_)
  · obtain rfl : y = k := by omega
    have ay := allb y
    have vy := vm y (by omega)
    have vp : 1 ≤ (V : Int) * y := by
      have : 1 * 1 ≤ V * y := Nat.mul_le_mul hV.1 hk.1
      have e : (V : Int) * y = ((V * y : Nat) : Int) := by simp
      omega
    repeat' (first
      | ((with_reducible refine TDr.any ?_); refine TDr.callE env (by first | rfl | assumption) (by rfl) (by rfl) ?_ (nearest_c _ _ ?_) (by rfl) (by rfl) ?_)
      | refine GZp_i_y ?_ ?_ ?_ ?_ ?_ ?_ ?_ ?_
      | with_reducible first | exact BzZq.mk | refine Tw.ret ?_ | refine ImZq.i fun h => ?_ | refine IkZq.i fun hk => ?_)
    exact ⟨rfl, rfl, rfl⟩
end Go.Proofs.Ythkilkjngincpaa
