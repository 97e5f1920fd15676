/- Presses: scripts are checked; the state of a press. -/
import Derived.Test.YtihminfnphichaaLists
import Derived.Test.YtihminfnphichaaFst
import Derived.Test.YtihminfnphichaaX0
import Derived.Test.YtihminfnphichaaGo
namespace Go.Proofs.Ytihminfnphichaa
open Go Go.Lite
set_option linter.unusedVariables false
set_option linter.unusedSimpArgs false
set_option maxRecDepth 100000
set_option maxHeartbeats 4000000
-- @simp rdi rd6i rdLiJ

/-- What is said of a table of numbers from 0 to most. -/
def rowE (Z most : Int) (l : List Int) : Int := if (l.length : Int) ≠ Z then 4 else fstE (fun i => if l.getD i 0 < 0 ∨ most < l.getD i 0 then 3 else 0) l.length
def tblE (l : List (List Int)) (u Z most : Int) : Int := if (l.length : Int) ≠ u then 4 else fstE (fun i => rowE Z most (l.getD i [])) l.length

theorem table_c (l : List (List Int)) (u Z most : Int) (hl : Due (l.length ≤ 9223372036854775807)) (hr : ∀ i, i < l.length → (l.getD i []).length ≤ 9223372036854775807) :
    TC R Try.prog press_table_f [.lst ELiJ l, .int .i64 u, .int .i64 Z, .int .i64 most] [] (fun v X => v = .int .i64 (tblE l u Z most) ∧ X = []) := by
  dsimp only [Due] at hl
  refine tc0 env press_table_s (by rfl) ?_
  dsimp only [press_table_c]
  unfold tblE
  by_cases h0 : (l.length : Int) = u
  rotate_left
  · rw [if_pos h0]
    repeat' (first
      | refine GZp_i_6i_LiJ ?_ ?_ ?_ ?_ ?_ ?_ ?_ ?_
      | with_reducible first | exact BzZq.mk | refine Tw.ret ?_ | refine ImZq.i fun h => ?_ | refine IkZq.i fun hk => ?_)
    exact ⟨rfl, rfl, rfl⟩
  rw [if_neg (fun h => h h0)]
  repeat' (first
    | refine GZp_i_6i_LiJ ?_ ?_ ?_ ?_ ?_ ?_ ?_ ?_
    | with_reducible first | exact BzZq.mk | refine Tw.ret ?_ | refine ImZq.i fun h => ?_ | refine IkZq.i fun hk => ?_)
  refine Tw.loopK [1, 2, 3, 17] (fun i : Nat => i ≤ l.length ∧ ∀ j, j < i → rowE Z most (l.getD j []) = 0) (fun i => l.length - i) (fun i => [(19, .int .i64 i), (18, .int .i64 l.length), (8, .int .i64 (0 : Int))]) (fun _ => []) ⟨0, ⟨by omega, fun j hj => by omega⟩, TWk.fcanon env [] (by rfl) ?_⟩ (fun i hi => ?_)
  · repeat' (first
      | refine GZ_i_6i_LiJ ?_ ?_ ?_ ?_ ?_ ?_ ?_ ?_
      | with_reducible first | exact BzZq.mk | refine Tw.ret ?_ | refine ImZq.i fun h => ?_ | refine IkZq.i fun hk => ?_)
  obtain ⟨hi, h1⟩ := hi
  rcases Nat.lt_or_ge i l.length with hi | hi
  · have bad : rowE Z most (l.getD i []) ≠ 0 → fstE (fun i => rowE Z most (l.getD i [])) l.length = rowE Z most (l.getD i []) := fun h => fstE_at h1 h hi
    have hri := hr i hi
    obtain ⟨r, er⟩ : ∃ r, r = l.getD i [] := ⟨_, rfl⟩
    have er' : l.getD i ([] : List Int) = r := er.symm
    rw [er'] at bad hri
    by_cases h2 : (r.length : Int) = Z
    rotate_left
    · have e4 : rowE Z most r = 4 := if_pos h2
      rw [e4] at bad
      rw [bad (by omega)]
      repeat' (first
        | refine GZy_i_6i_LiJ er' ?_ ?_ ?_ ?_ ?_ ?_ ?_ ?_
        | with_reducible first | exact BzZq.mk | refine Tw.ret ?_ | refine ImZq.i fun h => ?_ | refine IkZq.i fun hk => ?_)
      exact ⟨rfl, rfl, rfl⟩
    have e0 : rowE Z most r = fstE (fun i => if r.getD i 0 < 0 ∨ most < r.getD i 0 then 3 else 0) r.length := if_neg (fun h => h h2)
    repeat' (first
      | refine GZy_i_6i_LiJ er' ?_ ?_ ?_ ?_ ?_ ?_ ?_ ?_
      | with_reducible first | exact BzZq.mk | refine Tw.ret ?_ | refine ImZq.i fun h => ?_ | refine IkZq.i fun hk => ?_)
    have er2 : l.getD (i : Int).toNat (R.d ELiJ) = r := er'
    rw [er2]
    refine Tw.loopK [1, 2, 3, 17, 18, 19, 8, 27] (fun z : Nat => z ≤ r.length ∧ ∀ j, j < z → (if r.getD j 0 < 0 ∨ most < r.getD j 0 then (3 : Int) else 0) = 0) (fun z => r.length - z) (fun z => [(29, .int .i64 z), (28, .int .i64 r.length)]) (fun _ => []) ⟨0, ⟨by omega, fun j hj => by omega⟩, TWk.fcanon env [] (by rfl) ?_⟩ (fun z hz => ?_)
    · repeat' (first
        | refine GZ_i_6i_LiJ ?_ ?_ ?_ ?_ ?_ ?_ ?_ ?_
        | with_reducible first | exact BzZq.mk | refine Tw.ret ?_ | refine ImZq.i fun h => ?_ | refine IkZq.i fun hk => ?_)
    obtain ⟨hz, h3⟩ := hz
    rcases Nat.lt_or_ge z r.length with hz | hz
    · have bad2 : (r.getD z 0 < 0 ∨ most < r.getD z 0) → fstE (fun i => if r.getD i 0 < 0 ∨ most < r.getD i 0 then (3 : Int) else 0) r.length = 3 := fun h => by
        have := fstE_at (f := fun i => if r.getD i 0 < 0 ∨ most < r.getD i 0 then (3 : Int) else 0) h3 (by simp only [if_pos h]; omega) hz
        rw [this]; exact if_pos h
      by_cases hb : r.getD z 0 < 0 ∨ most < r.getD z 0
      · rw [e0, bad2 hb] at bad
        rw [bad (by omega)]
        repeat' (first
          | refine GZp_i_6i_LiJ ?_ ?_ ?_ ?_ ?_ ?_ ?_ ?_
          | with_reducible first | exact BzZq.mk | refine Tw.ret ?_ | refine ImZq.i fun h => ?_ | refine IkZq.i fun hk => ?_)
        all_goals exact ⟨rfl, rfl, rfl⟩
      · repeat' (first
          | refine GZp_i_6i_LiJ ?_ ?_ ?_ ?_ ?_ ?_ ?_ ?_
          | with_reducible first | exact BzZq.mk | refine Tw.ret ?_ | refine ImZq.i fun h => ?_ | refine IkZq.i fun hk => ?_)
        refine ⟨z + 1, ⟨by omega, fun j hj => ?_⟩, by omega, TWk.fcanon env [] (by rfl) ?_⟩
        · rcases Nat.lt_or_ge j z with h' | h'
          · exact h3 j h'
          · obtain rfl : j = z := by omega
            exact if_neg hb
        · repeat' (first
            | refine GZ_i_6i_LiJ ?_ ?_ ?_ ?_ ?_ ?_ ?_ ?_
            | with_reducible first | exact BzZq.mk | refine Tw.ret ?_ | refine ImZq.i fun h => ?_ | refine IkZq.i fun hk => ?_)
    · obtain rfl : r.length = z := by omega
      have ez : rowE Z most r = 0 := by rw [e0]; exact fstE_zero.2 h3
      repeat' (first
        | refine GZp_i_6i_LiJ ?_ ?_ ?_ ?_ ?_ ?_ ?_ ?_
        | with_reducible first | exact BzZq.mk | refine Tw.ret ?_ | refine ImZq.i fun h => ?_ | refine IkZq.i fun hk => ?_)
      refine ⟨i + 1, ⟨by omega, fun j hj => ?_⟩, by omega, TWk.fcanon env [] (by rfl) ?_⟩
      · rcases Nat.lt_or_ge j i with h' | h'
        · exact h1 j h'
        · obtain rfl : j = i := by omega
          rw [er']; exact ez
      · repeat' (first
          | refine GZ_i_6i_LiJ ?_ ?_ ?_ ?_ ?_ ?_ ?_ ?_
          | with_reducible first | exact BzZq.mk | refine Tw.ret ?_ | refine ImZq.i fun h => ?_ | refine IkZq.i fun hk => ?_)
  · obtain rfl : l.length = i := by omega
    rw [fstE_zero.2 h1]
    repeat' (first
      | refine GZp_i_6i_LiJ ?_ ?_ ?_ ?_ ?_ ?_ ?_ ?_
      | with_reducible first | exact BzZq.mk | refine Tw.ret ?_ | refine ImZq.i fun h => ?_ | refine IkZq.i fun hk => ?_)
    exact ⟨rfl, rfl, rfl⟩
end Go.Proofs.Ytihminfnphichaa
namespace Go.Proofs.Ytihminfnphichaa
open Go Go.Lite
set_option linter.unusedVariables false
set_option linter.unusedSimpArgs false
set_option maxRecDepth 100000
set_option maxHeartbeats 4000000
-- @simp rdi rd6i rdLiJ

/-- What is said of a setup. -/
def chkE (Z mr rg tol : Int) (tg : List Int) (ks ld : List (List Int)) : Int :=
  if 8 < tg.length then 2 else if tg.length = 0 then 1
  else if Z < 1 ∨ 16 < Z ∨ mr < 0 ∨ 4000 < mr ∨ rg < 0 ∨ 1000 < rg ∨ tol < 0 ∨ 24000 < tol then 3
  else if fstE (fun i => if tg.getD i 0 < 0 ∨ 24000 < tg.getD i 0 then 3 else 0) tg.length ≠ 0 then 3
  else if tblE ks tg.length Z 1000 ≠ 0 then tblE ks tg.length Z 1000 else tblE ld tg.length Z 8

theorem pcheck_c (Z mr rg tol : Int) (tg : List Int) (ks ld : List (List Int)) (h0 : Due (tg.length ≤ 9223372036854775807)) (hk : Due (ks.length ≤ 9223372036854775807)) (hl : Due (ld.length ≤ 9223372036854775807)) (hkr : ∀ i, i < ks.length → (ks.getD i []).length ≤ 9223372036854775807) (hlr : ∀ i, i < ld.length → (ld.getD i []).length ≤ 9223372036854775807) :
    TC R Try.prog press_Check_f [.agg [.int .i64 Z, .int .i64 mr, .int .i64 rg, .int .i64 tol, .lst Ei tg, .lst ELiJ ks, .lst ELiJ ld]] [] (fun v X => v = .int .i64 (chkE Z mr rg tol tg ks ld) ∧ X = []) := by
  dsimp only [Due] at h0 hk hl
  have tk := table_c ks tg.length Z 1000 hk hkr
  have tl := table_c ld tg.length Z 8 hl hlr
  refine tc0 env press_Check_s (by rfl) ?_
  dsimp only [press_Check_c]
  unfold chkE
  by_cases h1 : 8 < tg.length
  · rw [if_pos h1]
    repeat' (first
      | refine GZp_i_6i_LiJ ?_ ?_ ?_ ?_ ?_ ?_ ?_ ?_
      | with_reducible first | exact BzZq.mk | refine Tw.ret ?_ | refine ImZq.i fun h => ?_ | refine IkZq.i fun hk => ?_)
    exact ⟨rfl, rfl, rfl⟩
  rw [if_neg h1]
  by_cases h2 : tg.length = 0
  · rw [if_pos h2]
    repeat' (first
      | refine GZp_i_6i_LiJ ?_ ?_ ?_ ?_ ?_ ?_ ?_ ?_
      | with_reducible first | exact BzZq.mk | refine Tw.ret ?_ | refine ImZq.i fun h => ?_ | refine IkZq.i fun hk => ?_)
    exact ⟨rfl, rfl, rfl⟩
  rw [if_neg h2]
  by_cases h3 : Z < 1 ∨ 16 < Z ∨ mr < 0 ∨ 4000 < mr ∨ rg < 0 ∨ 1000 < rg ∨ tol < 0 ∨ 24000 < tol
  · rw [if_pos h3]
    repeat' (first
      | refine GZp_i_6i_LiJ ?_ ?_ ?_ ?_ ?_ ?_ ?_ ?_
      | with_reducible first | exact BzZq.mk | refine Tw.ret ?_ | refine ImZq.i fun h => ?_ | refine IkZq.i fun hk => ?_)
    all_goals exact ⟨rfl, rfl, rfl⟩
  rw [if_neg h3]
  repeat' (first
    | refine GZp_i_6i_LiJ ?_ ?_ ?_ ?_ ?_ ?_ ?_ ?_
    | with_reducible first | exact BzZq.mk | refine Tw.ret ?_ | refine ImZq.i fun h => ?_ | refine IkZq.i fun hk => ?_)
  refine Tw.loopK [1, 55] (fun i : Nat => i ≤ tg.length ∧ ∀ j, j < i → (if tg.getD j 0 < 0 ∨ 24000 < tg.getD j 0 then (3 : Int) else 0) = 0) (fun i => tg.length - i) (fun i => [(57, .int .i64 i), (56, .int .i64 tg.length), (2, .int .i64 (0 : Int))]) (fun _ => [some (.cells [.int .i64 Z, .int .i64 mr, .int .i64 rg, .int .i64 tol, .lst Ei tg, .lst ELiJ ks, .lst ELiJ ld])]) ⟨0, ⟨by omega, fun j hj => by omega⟩, TWk.fcanon env [some 0] (by rfl) ?_⟩ (fun i hi => ?_)
  · repeat' (first
      | refine GZ_i_6i_LiJ ?_ ?_ ?_ ?_ ?_ ?_ ?_ ?_
      | with_reducible first | exact BzZq.mk | refine Tw.ret ?_ | refine ImZq.i fun h => ?_ | refine IkZq.i fun hk => ?_)
  obtain ⟨hi, h4⟩ := hi
  rcases Nat.lt_or_ge i tg.length with hi | hi
  · by_cases hb : tg.getD i 0 < 0 ∨ 24000 < tg.getD i 0
    · have := fstE_at (f := fun i => if tg.getD i 0 < 0 ∨ 24000 < tg.getD i 0 then (3 : Int) else 0) h4 (by simp only [if_pos hb]; omega) hi
      rw [if_pos (by rw [this, if_pos hb]; omega)]
      repeat' (first
        | refine GZp_i_6i_LiJ ?_ ?_ ?_ ?_ ?_ ?_ ?_ ?_
        | with_reducible first | exact BzZq.mk | refine Tw.ret ?_ | refine ImZq.i fun h => ?_ | refine IkZq.i fun hk => ?_)
      all_goals exact ⟨rfl, rfl, rfl⟩
    · repeat' (first
        | refine GZp_i_6i_LiJ ?_ ?_ ?_ ?_ ?_ ?_ ?_ ?_
        | with_reducible first | exact BzZq.mk | refine Tw.ret ?_ | refine ImZq.i fun h => ?_ | refine IkZq.i fun hk => ?_)
      refine ⟨i + 1, ⟨by omega, fun j hj => ?_⟩, by omega, TWk.fcanon env [some 0] (by rfl) ?_⟩
      · rcases Nat.lt_or_ge j i with h' | h'
        · exact h4 j h'
        · obtain rfl : j = i := by omega
          exact if_neg hb
      · repeat' (first
          | refine GZ_i_6i_LiJ ?_ ?_ ?_ ?_ ?_ ?_ ?_ ?_
          | with_reducible first | exact BzZq.mk | refine Tw.ret ?_ | refine ImZq.i fun h => ?_ | refine IkZq.i fun hk => ?_)
  · obtain rfl : tg.length = i := by omega
    rw [if_neg (fun h => h (fstE_zero.2 h4))]
    generalize tblE ks tg.length Z 1000 = e1 at *
    generalize tblE ld tg.length Z 8 = e2 at *
    by_cases h5 : e1 = 0
    · rw [if_neg (fun h => h h5)]
      repeat' (first
        | ((with_reducible refine TOps.any ?_); refine TOps.callV env (by rfl) (by rfl) (by rfl) (tk) ?_)
        | ((with_reducible refine TOps.any ?_); refine TOps.callV env (by rfl) (by rfl) (by rfl) (tl) ?_)
        | refine GZp_i_6i_LiJ ?_ ?_ ?_ ?_ ?_ ?_ ?_ ?_
        | with_reducible first | exact BzZq.mk | refine Tw.ret ?_ | refine ImZq.i fun h => ?_ | refine IkZq.i fun hk => ?_)
      all_goals exact ⟨rfl, rfl, rfl⟩
    · rw [if_pos h5]
      repeat' (first
        | ((with_reducible refine TOps.any ?_); refine TOps.callV env (by rfl) (by rfl) (by rfl) (tk) ?_)
        | ((with_reducible refine TOps.any ?_); refine TOps.callV env (by rfl) (by rfl) (by rfl) (tl) ?_)
        | refine GZp_i_6i_LiJ ?_ ?_ ?_ ?_ ?_ ?_ ?_ ?_
        | with_reducible first | exact BzZq.mk | refine Tw.ret ?_ | refine ImZq.i fun h => ?_ | refine IkZq.i fun hk => ?_)
      all_goals exact ⟨rfl, rfl, rfl⟩

/-- Bounds of an event's numbers. -/
def lowK (k : Int) : Int := if k = 0 then -16 else if k = 2 then 4 else if k = 3 then 1 else if k = 4 then -1000 else 0
def topK (k : Int) : Int := if k = 0 then 16 else if k = 1 then 1000 else if k = 2 then 12 else if k = 3 then 20 else if k = 4 then 1000 else 0
/-- Numbers that an event of this kind has no use for are 0. -/
def frmK (k un zn x y : Int) : Prop := (k = 3 ∨ k = 6 → un = 0) ∧ (k ≠ 1 → zn = 0) ∧ (k = 5 ∨ k = 6 → x = 0) ∧ (k ≠ 0 ∧ k ≠ 4 → y = 0)
instance (k un zn x y : Int) : Decidable (frmK k un zn x y) := by unfold frmK; infer_instance
def inK (k un zn x y u Z : Int) : Prop := (k ≠ 3 ∧ k ≠ 6 → 0 ≤ un ∧ un < u) ∧ (k = 1 → 0 ≤ zn ∧ zn < Z) ∧ lowK k ≤ x ∧ x ≤ topK k ∧ (k = 0 ∨ k = 4 → lowK k ≤ y ∧ y ≤ topK k)
instance (k un zn x y u Z : Int) : Decidable (inK k un zn x y u Z) := by unfold inK; infer_instance
def evE (v : Int × Int × Int × Int × Int × Int) (u Z : Int) : Int :=
  if v.1 < 1 ∨ 4000 < v.1 ∨ v.2.1 < 0 ∨ 6 < v.2.1 then 3
  else if ¬ frmK v.2.1 v.2.2.1 v.2.2.2.1 v.2.2.2.2.1 v.2.2.2.2.2 then 4
  else if ¬ inK v.2.1 v.2.2.1 v.2.2.2.1 v.2.2.2.2.1 v.2.2.2.2.2 u Z then 3 else 0

theorem event_c (s k un zn x y u Z : Int) : TC R Try.prog press_CheckEvent_f [.agg [.int .i64 s, .int .i64 k, .int .i64 un, .int .i64 zn, .int .i64 x, .int .i64 y], .int .i64 u, .int .i64 Z] [] (fun v X => v = .int .i64 (evE (s, k, un, zn, x, y) u Z) ∧ X = []) := by
  refine tc0 env press_CheckEvent_s (by rfl) ?_
  dsimp only [press_CheckEvent_c]
  unfold evE
  by_cases h1 : s < 1 ∨ 4000 < s ∨ k < 0 ∨ 6 < k
  · rw [if_pos h1]
    repeat' (first
      | refine GZp_i_6i_LiJ ?_ ?_ ?_ ?_ ?_ ?_ ?_ ?_
      | with_reducible first | exact BzZq.mk | refine Tw.ret ?_ | refine ImZq.i fun h => ?_ | refine IkZq.i fun hk => ?_)
    all_goals exact ⟨rfl, rfl, rfl⟩
  rw [if_neg h1]
  have hk : k = 0 ∨ k = 1 ∨ k = 2 ∨ k = 3 ∨ k = 4 ∨ k = 5 ∨ k = 6 := by omega
  by_cases h2 : frmK k un zn x y
  rotate_left
  · rw [if_pos h2]
    unfold frmK at h2
    rcases hk with rfl | rfl | rfl | rfl | rfl | rfl | rfl
    all_goals
      repeat' (first
        | refine GZp_i_6i_LiJ ?_ ?_ ?_ ?_ ?_ ?_ ?_ ?_
        | with_reducible first | exact BzZq.mk | refine Tw.ret ?_ | refine ImZq.i fun h => ?_ | refine IkZq.i fun hk => ?_)
      all_goals first | exact ⟨rfl, rfl, rfl⟩ | (intro a b; rw [a, b]; rfl) | (exfalso; simp at *; omega) | trace_state
  rw [if_neg (fun h => h h2)]
  unfold frmK at h2
  by_cases h3 : inK k un zn x y u Z
  rotate_left
  · rw [if_pos h3]
    unfold inK at h3
    rcases hk with rfl | rfl | rfl | rfl | rfl | rfl | rfl
    all_goals
      repeat' (first
        | refine GZp_i_6i_LiJ ?_ ?_ ?_ ?_ ?_ ?_ ?_ ?_
        | with_reducible first | exact BzZq.mk | refine Tw.ret ?_ | refine ImZq.i fun h => ?_ | refine IkZq.i fun hk => ?_)
      all_goals first | exact ⟨rfl, rfl, rfl⟩ | (intro a b; rw [a, b]; rfl) | (exfalso; simp [lowK, topK] at *; omega) | trace_state
  rw [if_neg (fun h => h h3)]
  unfold inK at h3
  rcases hk with rfl | rfl | rfl | rfl | rfl | rfl | rfl
  all_goals
    repeat' (first
      | refine GZp_i_6i_LiJ ?_ ?_ ?_ ?_ ?_ ?_ ?_ ?_
      | with_reducible first | exact BzZq.mk | refine Tw.ret ?_ | refine ImZq.i fun h => ?_ | refine IkZq.i fun hk => ?_)
    all_goals first | exact ⟨rfl, rfl, rfl⟩ | (intro a b; rw [a, b]; rfl) | (exfalso; simp [lowK, topK] at *; omega) | trace_state
end Go.Proofs.Ytihminfnphichaa
namespace Go.Proofs.Ytihminfnphichaa
open Go Go.Lite
set_option linter.unusedVariables false
set_option linter.unusedSimpArgs false
set_option maxRecDepth 100000
set_option maxHeartbeats 4000000
-- @simp rdi rd6i rdLiJ

abbrev Ev := Int × Int × Int × Int × Int × Int
def dEv : Ev := (0, 0, 0, 0, 0, 0)
def scI (l : List Ev) (u Z : Int) (i : Nat) : Int := if evE (l.getD i dEv) u Z ≠ 0 then evE (l.getD i dEv) u Z else if 0 < i ∧ (l.getD i dEv).1 < (l.getD (i - 1) dEv).1 then 18 else 0
def scE (l : List Ev) (u Z : Int) : Int := if 200 < l.length then 2 else fstE (scI l u Z) l.length

theorem script_c (l : List Ev) (u Z : Int) (hl : Due (l.length ≤ 9223372036854775807)) : TC R Try.prog press_CheckScript_f [.lst E6i l, .int .i64 u, .int .i64 Z] [] (fun v X => v = .int .i64 (scE l u Z) ∧ X = []) := by
  dsimp only [Due] at hl
  refine tc0 env press_CheckScript_s (by rfl) ?_
  dsimp only [press_CheckScript_c]
  unfold scE
  by_cases h0 : 200 < l.length
  · rw [if_pos h0]
    repeat' (first
      | refine GZp_i_6i_LiJ ?_ ?_ ?_ ?_ ?_ ?_ ?_ ?_
      | with_reducible first | exact BzZq.mk | refine Tw.ret ?_ | refine ImZq.i fun h => ?_ | refine IkZq.i fun hk => ?_)
    exact ⟨rfl, rfl, rfl⟩
  rw [if_neg h0]
  repeat' (first
    | refine GZp_i_6i_LiJ ?_ ?_ ?_ ?_ ?_ ?_ ?_ ?_
    | with_reducible first | exact BzZq.mk | refine Tw.ret ?_ | refine ImZq.i fun h => ?_ | refine IkZq.i fun hk => ?_)
  refine Tw.loopK [0, 1, 2, 13] (fun i : Nat => i ≤ l.length ∧ ∀ j, j < i → scI l u Z j = 0) (fun i => l.length - i) (fun i => [(15, .int .i64 i), (14, .int .i64 l.length), (6, .int .i64 (0 : Int))]) (fun _ => []) ⟨0, ⟨by omega, fun j hj => by omega⟩, TWk.fcanon env [] (by rfl) ?_⟩ (fun i hi => ?_)
  · repeat' (first
      | refine GZ_i_6i_LiJ ?_ ?_ ?_ ?_ ?_ ?_ ?_ ?_
      | with_reducible first | exact BzZq.mk | refine Tw.ret ?_ | refine ImZq.i fun h => ?_ | refine IkZq.i fun hk => ?_)
  obtain ⟨hi, h1⟩ := hi
  rcases Nat.lt_or_ge i l.length with hi | hi
  · have at1 := fun h => fstE_at h1 (h : scI l u Z i ≠ 0) hi
    obtain ⟨s, k, un, zn, x, y, e⟩ : ∃ s k un zn x y, l.getD i dEv = (s, k, un, zn, x, y) := ⟨_, _, _, _, _, _, rfl⟩
    have ec := event_c s k un zn x y u Z
    have e' : l.getD i ((0 : Int), (0 : Int), (0 : Int), (0 : Int), (0 : Int), (0 : Int)) = (s, k, un, zn, x, y) := e
    have si : scI l u Z i = if evE (s, k, un, zn, x, y) u Z ≠ 0 then evE (s, k, un, zn, x, y) u Z else if 0 < i ∧ s < (l.getD (i - 1) dEv).1 then 18 else 0 := by unfold scI; rw [e]
    by_cases h2 : evE (s, k, un, zn, x, y) u Z = 0
    rotate_left
    · rw [if_pos h2] at si
      rw [si] at at1
      rw [at1 h2]
      generalize evE (s, k, un, zn, x, y) u Z = q at *
      repeat' (first
        | refine GZp_i_6i_LiJ ?_ ?_ ?_ ?_ ?_ ?_ ?_ ?_
        | with_reducible first | exact BzZq.mk | refine Tw.ret ?_ | refine ImZq.i fun h => ?_ | refine IkZq.i fun hk => ?_)
      have e2 : l.getD (i : Int).toNat (R.d E6i) = (s, k, un, zn, x, y) := e
      rw [e2]
      dsimp only
      repeat' (first
        | ((with_reducible refine TOps.any ?_); refine TOps.callV env (by rfl) (by rfl) (by rfl) (ec) ?_)
        | refine GZp_i_6i_LiJ ?_ ?_ ?_ ?_ ?_ ?_ ?_ ?_
        | with_reducible first | exact BzZq.mk | refine Tw.ret ?_ | refine ImZq.i fun h => ?_ | refine IkZq.i fun hk => ?_)
      exact ⟨rfl, rfl, rfl⟩
    rw [if_neg (fun h => h h2)] at si
    rw [h2] at ec
    obtain ⟨p, hp⟩ : ∃ p, p = l.getD (i - 1) ((0 : Int), (0 : Int), (0 : Int), (0 : Int), (0 : Int), (0 : Int)) := ⟨_, rfl⟩
    have hd : l.getD (i - 1) dEv = p := hp.symm
    have ix : (((i : Int) - 1).toNat) = i - 1 := by omega
    rw [hd] at si
    repeat' (first
      | refine GZp_i_6i_LiJ ?_ ?_ ?_ ?_ ?_ ?_ ?_ ?_
      | with_reducible first | exact BzZq.mk | refine Tw.ret ?_ | refine ImZq.i fun h => ?_ | refine IkZq.i fun hk => ?_)
    have e2 : l.getD (i : Int).toNat (R.d E6i) = (s, k, un, zn, x, y) := e
    rw [e2]
    dsimp only
    by_cases h3 : 0 < i ∧ s < p.1
    · rw [if_pos h3] at si
      rw [si] at at1
      rw [at1 (by omega)]
      repeat' (first
        | ((with_reducible refine TOps.any ?_); refine TOps.callV env (by rfl) (by rfl) (by rfl) (ec) ?_)
        | refine GZy_i_6i_LiJ ix ?_ ?_ ?_ ?_ ?_ ?_ ?_ ?_
        | with_reducible first | exact BzZq.mk | refine Tw.ret ?_ | refine ImZq.i fun h => ?_ | refine IkZq.i fun hk => ?_)
      rotate_left
      · exfalso
        rw [← hp] at *
        omega
      · exact ⟨rfl, rfl, rfl⟩
    · rw [if_neg h3] at si
      repeat' (first
        | ((with_reducible refine TOps.any ?_); refine TOps.callV env (by rfl) (by rfl) (by rfl) (ec) ?_)
        | refine GZy_i_6i_LiJ ix ?_ ?_ ?_ ?_ ?_ ?_ ?_ ?_
        | with_reducible first | exact BzZq.mk | refine Tw.ret ?_ | refine ImZq.i fun h => ?_ | refine IkZq.i fun hk => ?_)
      · exfalso
        rw [← hp] at *
        omega
      refine ⟨i + 1, ⟨by omega, fun j hj => ?_⟩, by omega, TWk.fcanon env [] (by rfl) ?_⟩
      · rcases Nat.lt_or_ge j i with h' | h'
        · exact h1 j h'
        · obtain rfl : j = i := by omega
          exact si
      · repeat' (first
          | refine GZ_i_6i_LiJ ?_ ?_ ?_ ?_ ?_ ?_ ?_ ?_
          | with_reducible first | exact BzZq.mk | refine Tw.ret ?_ | refine ImZq.i fun h => ?_ | refine IkZq.i fun hk => ?_)
  · obtain rfl : l.length = i := by omega
    rw [fstE_zero.2 h1]
    repeat' (first
      | refine GZp_i_6i_LiJ ?_ ?_ ?_ ?_ ?_ ?_ ?_ ?_
      | with_reducible first | exact BzZq.mk | refine Tw.ret ?_ | refine ImZq.i fun h => ?_ | refine IkZq.i fun hk => ?_)
    exact ⟨rfl, rfl, rfl⟩
end Go.Proofs.Ytihminfnphichaa
