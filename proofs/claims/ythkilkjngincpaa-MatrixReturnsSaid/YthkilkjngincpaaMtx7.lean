/- Matrix codes: bytes and modules of the border that are wrong. -/
import Derived.Test.YthkilkjngincpaaMtx6
import Derived.Test.YthkilkjngincpaaMtx5
import Derived.Test.YthkilkjngincpaaXMatrixReturns0
import Derived.Test.YthkilkjngincpaaGo
namespace Go.Proofs.Ythkilkjngincpaa
open Go Go.Lite
set_option linter.unusedVariables false
set_option linter.unusedSimpArgs false
set_option maxRecDepth 100000
set_option maxHeartbeats 4000000
-- @simp rdi rdy rdo

/-- The place of a module inside the border. -/
def inK (s k : Nat) : Nat := (1 + k / (s - 2)) * s + (1 + k % (s - 2))
theorem inK_xy {s k : Nat} (hs : 8 ≤ s) (hk : k < (s - 2) * (s - 2)) : inK s k % s = 1 + k % (s - 2) ∧ inK s k / s = 1 + k / (s - 2) ∧ inK s k < s * s ∧ mBord s (1 + k % (s - 2)) (1 + k / (s - 2)) = false := by
  have h2 : k % (s - 2) < s - 2 := Nat.mod_lt _ (by omega)
  have h3 : k / (s - 2) < s - 2 := Nat.div_lt_of_lt_mul hk
  unfold inK
  generalize k % (s - 2) = u at *
  generalize k / (s - 2) = v at *
  refine ⟨?_, ?_, ?_, mBord_iff.2 (by omega)⟩
  · rw [Nat.mul_comm, Nat.mul_add_mod]; exact Nat.mod_eq_of_lt (by omega)
  · rw [Nat.mul_comm, Nat.mul_add_div (by omega), Nat.div_eq_of_lt (by omega), Nat.add_zero]
  · have : (1 + v + 1) * s ≤ s * s := Nat.mul_le_mul_right _ (by omega)
    rw [Nat.add_mul, Nat.one_mul] at this
    omega
theorem inK_cnt {s x y : Nat} (hs : 8 ≤ s) (hx : x < s) (hy : y < s) (h : mBord s x y = false) : inK s (mCnt s x y) = y * s + x ∧ mCnt s x y < (s - 2) * (s - 2) := by
  obtain ⟨c1, _⟩ := mCnt_in hs hx hy h
  obtain ⟨h1, h2, h3, h4⟩ := mBord_iff.1 h
  have e1 : mCnt s x y % (s - 2) = x - 1 := by rw [c1, Nat.mul_comm, Nat.mul_add_mod]; exact Nat.mod_eq_of_lt (by omega)
  have e2 : mCnt s x y / (s - 2) = y - 1 := by rw [c1, Nat.mul_comm, Nat.mul_add_div (by omega), Nat.div_eq_of_lt (by omega), Nat.add_zero]
  refine ⟨?_, ?_⟩
  · unfold inK
    rw [e1, e2, show 1 + (y - 1) = y by omega, show 1 + (x - 1) = x by omega]
  · rw [c1]
    have : (y - 1 + 1) * (s - 2) ≤ (s - 2) * (s - 2) := Nat.mul_le_mul_right _ (by omega)
    rw [Nat.add_mul, Nat.one_mul] at this
    omega
theorem inK_inj {s j k : Nat} (hs : 8 ≤ s) (hj : j < (s - 2) * (s - 2)) (hk : k < (s - 2) * (s - 2)) (h : inK s j = inK s k) : j = k := by
  obtain ⟨a1, a2, _, _⟩ := inK_xy hs hj
  obtain ⟨b1, b2, _, _⟩ := inK_xy hs hk
  rw [h] at a1 a2
  have e1 : j % (s - 2) = k % (s - 2) := by omega
  have e2 : j / (s - 2) = k / (s - 2) := by omega
  rw [← Nat.div_add_mod j (s - 2), ← Nat.div_add_mod k (s - 2), e1, e2]
/-- Modules inside the border among the first i. -/
def cI (s i : Nat) : Nat := mCnt s (i % s) (i / s)
theorem next_xy {s i : Nat} (hs : 0 < s) : (i % s + 1 < s → (i + 1) % s = i % s + 1 ∧ (i + 1) / s = i / s) ∧ (i % s + 1 = s → (i + 1) % s = 0 ∧ (i + 1) / s = i / s + 1) := by
  have hd := Nat.div_add_mod i s
  constructor
  · intro h
    have e : i + 1 = s * (i / s) + (i % s + 1) := by omega
    exact ⟨by rw [e, Nat.mul_add_mod]; exact Nat.mod_eq_of_lt h, by rw [e, Nat.mul_add_div hs, Nat.div_eq_of_lt h, Nat.add_zero]⟩
  · intro h
    have e : i + 1 = s * (i / s + 1) := by rw [Nat.mul_add, Nat.mul_one]; omega
    exact ⟨by rw [e]; exact Nat.mul_mod_right _ _, by rw [e]; exact Nat.mul_div_cancel_left _ hs⟩
theorem cI_next {s i : Nat} (hs : 8 ≤ s) (hi : i < s * s) : cI s (i + 1) = if mBord s (i % s) (i / s) then cI s i else cI s i + 1 := by
  have hx : i % s < s := Nat.mod_lt _ (by omega)
  have hy : i / s < s := Nat.div_lt_of_lt_mul hi
  have st : mCnt s (i % s + 1) (i / s) = if mBord s (i % s) (i / s) then cI s i else cI s i + 1 := by
    cases hB : mBord s (i % s) (i / s) with
    | true => rw [if_pos rfl]; exact mCnt_out hs hx hy hB
    | false => rw [if_neg (by simp)]; exact (mCnt_in hs hx hy hB).2
  rw [← st]
  unfold cI
  rcases Nat.lt_or_ge (i % s + 1) s with h | h
  · obtain ⟨e1, e2⟩ := (next_xy (i := i) (show 0 < s by omega)).1 h
    rw [e1, e2]
  · have h2 : i % s + 1 = s := by omega
    obtain ⟨e1, e2⟩ := (next_xy (i := i) (show 0 < s by omega)).2 h2
    rw [e1, e2, h2]
    exact mCnt_row hs hy
theorem cI_zero {s : Nat} (hs : 8 ≤ s ∧ s ≤ 32) : cI s 0 = 0 := by
  unfold cI
  rw [Nat.zero_mod, Nat.zero_div]; exact mCnt_zero hs
theorem cI_all {s : Nat} (hs : 8 ≤ s) : cI s (s * s) = (s - 2) * (s - 2) := by
  unfold cI
  rw [Nat.mul_mod_right, Nat.mul_div_cancel _ (by omega)]; exact mCnt_all hs
theorem rBorder_c (s x y : Nat) (hs : Due (8 ≤ s ∧ s ≤ 32)) (hx : Due (x < s)) (hy : Due (y < s)) : TC R Try.prog R2_Border_f [.int .i64 s, .int .i64 x, .int .i64 y] [] (fun v X => v = .int .i64 (if mBord s x y then (if mDark s x y then 1 else 0) else 2) ∧ X = []) := by
  dsimp only [Due] at hs hx hy
  have r1 : rem (x : Int) 2 = ((x % 2 : Nat) : Int) := by rw [rem_nn (by omega)]; omega
  have r2 : rem ((s : Int) - 1 - (y : Int)) 2 = (((s - 1 - y) % 2 : Nat) : Int) := by rw [rem_nn (by omega)]; omega
  refine tc0 env R2_Border_s (by rfl) ?_
  dsimp only [R2_Border_c]
  by_cases h1 : x = 0 ∨ y = s - 1
  · have e1 : mDark s x y = true := by unfold mDark; rw [if_pos h1]
    have e2 : mBord s x y = true := by unfold mBord; rcases h1 with h | h <;> simp [h]
    rw [e1, e2]
    repeat' (first
      | refine GZp_i_y_o ?_ ?_ ?_ ?_ ?_ ?_ ?_ ?_
      | with_reducible first | exact BzZq.mk | refine Tw.ret ?_ | refine ImZq.i fun h => ?_ | refine IkZq.i fun hk => ?_)
    all_goals exact ⟨rfl, rfl, rfl⟩
  by_cases h2 : y = 0
  · have e1 : mDark s x y = (x % 2 == 0) := by unfold mDark; rw [if_neg h1, if_pos h2]
    have e2 : mBord s x y = true := by unfold mBord; simp [h2]
    have e3 : (if (x % 2 == 0) = true then (1 : Int) else 0) = 1 - rem (x : Int) 2 := by
      rw [r1]
      by_cases h : x % 2 = 0
      · rw [h]; rfl
      · rw [show x % 2 = 1 by omega]; rfl
    rw [e1, e2, if_pos rfl, e3]
    repeat' (first
      | refine GZy_i_y_o r1 ?_ ?_ ?_ ?_ ?_ ?_ ?_ ?_
      | with_reducible first | exact BzZq.mk | refine Tw.ret ?_ | refine ImZq.i fun h => ?_ | refine IkZq.i fun hk => ?_)
    all_goals exact ⟨rfl, rfl, rfl⟩
  by_cases h3 : x = s - 1
  · have e1 : mDark s x y = ((s - 1 - y) % 2 == 0) := by unfold mDark; rw [if_neg h1, if_neg h2, if_pos h3]
    have e2 : mBord s x y = true := by unfold mBord; simp [h3]
    have e3 : (if ((s - 1 - y) % 2 == 0) = true then (1 : Int) else 0) = 1 - rem ((s : Int) - 1 - (y : Int)) 2 := by
      rw [r2]
      by_cases h : (s - 1 - y) % 2 = 0
      · rw [h]; rfl
      · rw [show (s - 1 - y) % 2 = 1 by omega]; rfl
    rw [e1, e2, if_pos rfl, e3]
    repeat' (first
      | refine GZy_i_y_o r2 ?_ ?_ ?_ ?_ ?_ ?_ ?_ ?_
      | with_reducible first | exact BzZq.mk | refine Tw.ret ?_ | refine ImZq.i fun h => ?_ | refine IkZq.i fun hk => ?_)
    all_goals exact ⟨rfl, rfl, rfl⟩
  · have e2 : mBord s x y = false := mBord_iff.2 (by omega)
    rw [e2]
    repeat' (first
      | refine GZp_i_y_o ?_ ?_ ?_ ?_ ?_ ?_ ?_ ?_
      | with_reducible first | exact BzZq.mk | refine Tw.ret ?_ | refine ImZq.i fun h => ?_ | refine IkZq.i fun hk => ?_)
    all_goals exact ⟨rfl, rfl, rfl⟩
end Go.Proofs.Ythkilkjngincpaa
