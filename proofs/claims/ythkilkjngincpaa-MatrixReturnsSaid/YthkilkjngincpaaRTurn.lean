/- The reference: a pixel, a turned bitmap. -/
import Derived.Test.YthkilkjngincpaaTurns
import Derived.Test.YthkilkjngincpaaDrawn
import Derived.Test.YthkilkjngincpaaXMatrixReturns0
import Derived.Test.YthkilkjngincpaaGo
namespace Go.Proofs.Ythkilkjngincpaa
open Go Go.Lite
set_option linter.unusedVariables false
set_option linter.unusedSimpArgs false
set_option maxRecDepth 100000
set_option maxHeartbeats 4000000
-- @simp rdi rdy rdo

theorem bit128 : ∀ v : Fin 256, ∀ b : Fin 8, (decide (band (((v.val : Nat) : Int) * 2 ^ b.val % 256) 128 = 0)) = !(bt ((v.val : Nat) : Int) b.val) := by decide +kernel
theorem bit_lem {v : Int} {b : Nat} (hv : 0 ≤ v ∧ v ≤ 255) (hb : b < 8) : (!decide (band (v * 2 ^ b % 256) 128 = 0)) = bt v b := by
  obtain ⟨n, rfl⟩ : ∃ n : Nat, v = n := ⟨v.toNat, by omega⟩
  have := bit128 ⟨n, by omega⟩ ⟨b, hb⟩
  simp only at this
  rw [this, Bool.not_not]

theorem rBit_c (w k : Nat) (D : List Int) (x y : Int) (ok : BmOk w k D) (hx : -1000000 ≤ x ∧ x ≤ 1000000) (hy : -1000000 ≤ y ∧ y ≤ 1000000) :
    TC R Try.prog R2_Bit_f [.agg [.int .i64 w, .int .i64 k, .lst Ey D], .int .i64 x, .int .i64 y] [] (fun v X => v = .bool (px w k D x y) ∧ X = []) := by
  have hw := ok.w1
  have hk := ok.h1
  have hl := ok.len
  have within : ∀ a b c : Int, TC R Try.prog R2_Within_f [.int .i64 a, .int .i64 b, .int .i64 c] [] (fun v X => v = .bool (decide (b ≤ a) && decide (a ≤ c)) ∧ X = []) := fun a b c => by
    refine tc0 env R2_Within_s (by rfl) ?_
    dsimp only [R2_Within_c]
    repeat' (first
      | refine GZ_i_y_o ?_ ?_ ?_ ?_ ?_ ?_ ?_ ?_
      | with_reducible first | exact BzZq.mk | refine Tw.ret ?_ | refine ImZq.i fun h => ?_ | refine IkZq.i fun hk => ?_)
    all_goals exact ⟨rfl, rfl, rfl⟩
  have w1 := within x 0 ((w : Int) - 1)
  have w2 := within y 0 ((k : Int) - 1)
  refine tc0 env R2_Bit_s (by rfl) ?_
  dsimp only [R2_Bit_c]
  by_cases hin : 0 ≤ x ∧ x < w ∧ 0 ≤ y ∧ y < k
  · obtain ⟨i1, i2, i3, i4⟩ := hin
    obtain ⟨a, rfl⟩ : ∃ a : Nat, x = a := ⟨x.toNat, by omega⟩
    obtain ⟨b, rfl⟩ : ∃ b : Nat, y = b := ⟨y.toNat, by omega⟩
    have ha : a < w := by omega
    have hb : b < k := by omega
    have q0 : quo ((w : Int) + 7) 8 = (st w : Int) := by rw [quo_nn (by omega)]; unfold st; omega
    have q1 : quo (a : Int) 8 = ((a / 8 : Nat) : Int) := by rw [quo_nn (by omega)]; omega
    have q2 : rem (a : Int) 8 = ((a % 8 : Nat) : Int) := by rw [rem_nn (by omega)]; omega
    have q3 : (b : Int) * (st w : Int) + ((a / 8 : Nat) : Int) = ((at8 w a b : Nat) : Int) := by unfold at8; simp
    have hl8 := at8_lt ha hb
    have sb := len_bd hw hk
    have q4 : 0 ≤ (b : Int) * (st w : Int) ∧ (b : Int) * (st w : Int) ≤ ((at8 w a b : Nat) : Int) := ⟨Int.mul_nonneg (by omega) (by omega), by omega⟩
    have vb := ok.byte (at8 w a b) (by omega)
    have bl := bit_lem (b := a % 8) vb (by omega)
    have ep : px w k D a b = bt (D.getD (at8 w a b) 0) (a % 8) := by
      unfold px
      rw [decide_eq_true ⟨i1, i2, i3, i4⟩, Bool.true_and]; rfl
    rw [decide_eq_true (by omega), decide_eq_true (by omega)] at w1 w2
    have sb2 := st_bd hw
    have rq : rng .i64 (quo ((w : Int) + 7) 8) := by rw [q0]; exact ⟨by omega, by omega⟩
    repeat' (first
      | ((with_reducible refine TOps.any ?_); refine TOps.callV env (by rfl) (by rfl) (by rfl) (w1) ?_)
      | ((with_reducible refine TOps.any ?_); refine TOps.callV env (by rfl) (by rfl) (by rfl) (w2) ?_)
      | exact rq
      | refine GZy_i_y_o (And.intro q0 (And.intro q1 (And.intro q2 q3))) ?_ ?_ ?_ ?_ ?_ ?_ ?_ ?_
      | with_reducible first | exact BzZq.mk | refine Tw.ret ?_ | refine ImZq.i fun h => ?_ | refine IkZq.i fun hk => ?_)
    refine ⟨rfl, congrArg TV.bool ?_, rfl⟩
    rw [q0, q1, q2, q3, Int.toNat_natCast, Int.toNat_natCast, ep]
    exact bl
  · rw [px_out hin]
    by_cases h1 : 0 ≤ x ∧ x < w
    · have e1 : (decide (0 ≤ x) && decide (x ≤ (w : Int) - 1)) = true := by rw [decide_eq_true (by omega), decide_eq_true (by omega)]; rfl
      have e2 : (decide (0 ≤ y) && decide (y ≤ (k : Int) - 1)) = false := by
        rw [Bool.and_eq_false_iff, decide_eq_false_iff_not, decide_eq_false_iff_not]; omega
      rw [e1] at w1
      rw [e2] at w2
      repeat' (first
        | ((with_reducible refine TOps.any ?_); refine TOps.callV env (by rfl) (by rfl) (by rfl) (w1) ?_)
        | ((with_reducible refine TOps.any ?_); refine TOps.callV env (by rfl) (by rfl) (by rfl) (w2) ?_)
        | refine GZp_i_y_o ?_ ?_ ?_ ?_ ?_ ?_ ?_ ?_
        | with_reducible first | exact BzZq.mk | refine Tw.ret ?_ | refine ImZq.i fun h => ?_ | refine IkZq.i fun hk => ?_)
      exact ⟨rfl, rfl, rfl⟩
    · have e1 : (decide (0 ≤ x) && decide (x ≤ (w : Int) - 1)) = false := by
        rw [Bool.and_eq_false_iff, decide_eq_false_iff_not, decide_eq_false_iff_not]; omega
      rw [e1] at w1
      repeat' (first
        | ((with_reducible refine TOps.any ?_); refine TOps.callV env (by rfl) (by rfl) (by rfl) (w1) ?_)
        | refine GZp_i_y_o ?_ ?_ ?_ ?_ ?_ ?_ ?_ ?_
        | with_reducible first | exact BzZq.mk | refine Tw.ret ?_ | refine ImZq.i fun h => ?_ | refine IkZq.i fun hk => ?_)
      exact ⟨rfl, rfl, rfl⟩

end Go.Proofs.Ythkilkjngincpaa
