/- Presses: the state of a press in memory; a unit moves and inks. -/
import Derived.Test.YtbaepacihkgalaaLists
import Derived.Test.YtbaepacihkgalaaFst
import Derived.Test.YtbaepacihkgalaaX0
import Derived.Test.YtbaepacihkgalaaGo
namespace Go.Proofs.Ytbaepacihkgalaa
open Go Go.Lite
set_option linter.unusedVariables false
set_option linter.unusedSimpArgs false
set_option maxRecDepth 100000
set_option maxHeartbeats 4000000
-- @simp rdi rd6i rdLiJ

/-- What is said of a table of numbers from 0 to most. -/
def rowE (Z most : Int) (l : List Int) : Int := if (l.length : Int) ≠ Z then 4 else fstE (fun i => if l.getD i 0 < 0 ∨ most < l.getD i 0 then 3 else 0) l.length
def tblE (l : List (List Int)) (u Z most : Int) : Int := if (l.length : Int) ≠ u then 4 else fstE (fun i => rowE Z most (l.getD i [])) l.length

theorem table_c (l : List (List Int)) (u Z most : Int) (hl : Due (l.length ≤ 9223372036854775807)) (hr : ∀ i, i < l.length → (l.getD i []).length ≤ 9223372036854775807) :
    TC R Try.prog press_table_f [.lst ELiJ l, .int .i64 u, .int .i64 Z, .int .i64 most] [] (fun v X => v = .int .i64 (tblE l u Z most) ∧ X = []) := by
  dsimp only [Due] at hl
  refine tc0 env press_table_s (by rfl) ?_
  dsimp only [press_table_c]
  unfold tblE
  by_cases h0 : (l.length : Int) = u
  rotate_left
  · rw [if_pos h0]
    repeat' (first
      | refine GZp_i_6i_LiJ ?_ ?_ ?_ ?_ ?_ ?_ ?_ ?_
      | with_reducible first | exact BzZq.mk | refine Tw.ret ?_ | refine ImZq.i fun h => ?_ | refine IkZq.i fun hk => ?_)
    exact ⟨rfl, rfl, rfl⟩
  rw [if_neg (fun h => h h0)]
  repeat' (first
    | refine GZp_i_6i_LiJ ?_ ?_ ?_ ?_ ?_ ?_ ?_ ?_
    | with_reducible first | exact BzZq.mk | refine Tw.ret ?_ | refine ImZq.i fun h => ?_ | refine IkZq.i fun hk => ?_)
  refine Tw.loopK [1, 2, 3, 17] (fun i : Nat => i ≤ l.length ∧ ∀ j, j < i → rowE Z most (l.getD j []) = 0) (fun i => l.length - i) (fun i => [(19, .int .i64 i), (18, .int .i64 l.length), (8, .int .i64 (0 : Int))]) (fun _ => []) ⟨0, ⟨by omega, fun j hj => by omega⟩, TWk.fcanon env [] (by rfl) ?_⟩ (fun i hi => ?_)
  · repeat' (first
      | refine GZ_i_6i_LiJ ?_ ?_ ?_ ?_ ?_ ?_ ?_ ?_
      | with_reducible first | exact BzZq.mk | refine Tw.ret ?_ | refine ImZq.i fun h => ?_ | refine IkZq.i fun hk => ?_)
  obtain ⟨hi, h1⟩ := hi
  rcases Nat.lt_or_ge i l.length with hi | hi
  · have bad : rowE Z most (l.getD i []) ≠ 0 → fstE (fun i => rowE Z most (l.getD i [])) l.length = rowE Z most (l.getD i []) := fun h => fstE_at h1 h hi
    have hri := hr i hi
    obtain ⟨r, er⟩ : ∃ r, r = l.getD i [] := ⟨_, rfl⟩
    have er' : l.getD i ([] : List Int) = r := er.symm
    rw [er'] at bad hri
    by_cases h2 : (r.length : Int) = Z
    rotate_left
    · have e4 : rowE Z most r = 4 := if_pos h2
      rw [e4] at bad
      rw [bad (by omega)]
      repeat' (first
        | refine GZy_i_6i_LiJ er' ?_ ?_ ?_ ?_ ?_ ?_ ?_ ?_
        | with_reducible first | exact BzZq.mk | refine Tw.ret ?_ | refine ImZq.i fun h => ?_ | refine IkZq.i fun hk => ?_)
      exact ⟨rfl, rfl, rfl⟩
    have e0 : rowE Z most r = fstE (fun i => if r.getD i 0 < 0 ∨ most < r.getD i 0 then 3 else 0) r.length := if_neg (fun h => h h2)
    repeat' (first
      | refine GZy_i_6i_LiJ er' ?_ ?_ ?_ ?_ ?_ ?_ ?_ ?_
      | with_reducible first | exact BzZq.mk | refine Tw.ret ?_ | refine ImZq.i fun h => ?_ | refine IkZq.i fun hk => ?_)
    have er2 : l.getD (i : Int).toNat (R.d ELiJ) = r := er'
    rw [er2]
    refine Tw.loopK [1, 2, 3, 17, 18, 19, 8, 27] (fun z : Nat => z ≤ r.length ∧ ∀ j, j < z → (if r.getD j 0 < 0 ∨ most < r.getD j 0 then (3 : Int) else 0) = 0) (fun z => r.length - z) (fun z => [(29, .int .i64 z), (28, .int .i64 r.length)]) (fun _ => []) ⟨0, ⟨by omega, fun j hj => by omega⟩, TWk.fcanon env [] (by rfl) ?_⟩ (fun z hz => ?_)
    · repeat' (first
        | refine GZ_i_6i_LiJ ?_ ?_ ?_ ?_ ?_ ?_ ?_ ?_
        | with_reducible first | exact BzZq.mk | refine Tw.ret ?_ | refine ImZq.i fun h => ?_ | refine IkZq.i fun hk => ?_)
    obtain ⟨hz, h3⟩ := hz
    rcases Nat.lt_or_ge z r.length with hz | hz
    · have bad2 : (r.getD z 0 < 0 ∨ most < r.getD z 0) → fstE (fun i => if r.getD i 0 < 0 ∨ most < r.getD i 0 then (3 : Int) else 0) r.length = 3 := fun h => by
        have := fstE_at (f := fun i => if r.getD i 0 < 0 ∨ most < r.getD i 0 then (3 : Int) else 0) h3 (by simp only [if_pos h]; omega) hz
        rw [this]; exact if_pos h
      by_cases hb : r.getD z 0 < 0 ∨ most < r.getD z 0
      · rw [e0, bad2 hb] at bad
        rw [bad (by omega)]
        repeat' (first
          | refine GZp_i_6i_LiJ ?_ ?_ ?_ ?_ ?_ ?_ ?_ ?_
          | with_reducible first | exact BzZq.mk | refine Tw.ret ?_ | refine ImZq.i fun h => ?_ | refine IkZq.i fun hk => ?_)
        all_goals exact ⟨rfl, rfl, rfl⟩
      · repeat' (first
          | refine GZp_i_6i_LiJ ?_ ?_ ?_ ?_ ?_ ?_ ?_ ?_
          | with_reducible first | exact BzZq.mk | refine Tw.ret ?_ | refine ImZq.i fun h => ?_ | refine IkZq.i fun hk => ?_)
        refine ⟨z + 1, ⟨by omega, fun j hj => ?_⟩, by omega, TWk.fcanon env [] (by rfl) ?_⟩
        · rcases Nat.lt_or_ge j z with h' | h'
          · exact h3 j h'
          · obtain rfl : j = z := by omega
            exact if_neg hb
        · repeat' (first
            | refine GZ_i_6i_LiJ ?_ ?_ ?_ ?_ ?_ ?_ ?_ ?_
            | with_reducible first | exact BzZq.mk | refine Tw.ret ?_ | refine ImZq.i fun h => ?_ | refine IkZq.i fun hk => ?_)
    · obtain rfl : r.length = z := by omega
      have ez : rowE Z most r = 0 := by rw [e0]; exact fstE_zero.2 h3
      repeat' (first
        | refine GZp_i_6i_LiJ ?_ ?_ ?_ ?_ ?_ ?_ ?_ ?_
        | with_reducible first | exact BzZq.mk | refine Tw.ret ?_ | refine ImZq.i fun h => ?_ | refine IkZq.i fun hk => ?_)
      refine ⟨i + 1, ⟨by omega, fun j hj => ?_⟩, by omega, TWk.fcanon env [] (by rfl) ?_⟩
      · rcases Nat.lt_or_ge j i with h' | h'
        · exact h1 j h'
        · obtain rfl : j = i := by omega
          rw [er']; exact ez
      · repeat' (first
          | refine GZ_i_6i_LiJ ?_ ?_ ?_ ?_ ?_ ?_ ?_ ?_
          | with_reducible first | exact BzZq.mk | refine Tw.ret ?_ | refine ImZq.i fun h => ?_ | refine IkZq.i fun hk => ?_)
  · obtain rfl : l.length = i := by omega
    rw [fstE_zero.2 h1]
    repeat' (first
      | refine GZp_i_6i_LiJ ?_ ?_ ?_ ?_ ?_ ?_ ?_ ?_
      | with_reducible first | exact BzZq.mk | refine Tw.ret ?_ | refine ImZq.i fun h => ?_ | refine IkZq.i fun hk => ?_)
    exact ⟨rfl, rfl, rfl⟩
end Go.Proofs.Ytbaepacihkgalaa
namespace Go.Proofs.Ytbaepacihkgalaa
open Go Go.Lite
set_option linter.unusedVariables false
set_option linter.unusedSimpArgs false
set_option maxRecDepth 100000
set_option maxHeartbeats 4000000
-- @simp rdi rd6i rdLiJ

/-- What is said of a setup. -/
def chkE (Z mr rg tol : Int) (tg : List Int) (ks ld : List (List Int)) : Int :=
  if 8 < tg.length then 2 else if tg.length = 0 then 1
  else if Z < 1 ∨ 16 < Z ∨ mr < 0 ∨ 4000 < mr ∨ rg < 0 ∨ 1000 < rg ∨ tol < 0 ∨ 24000 < tol then 3
  else if fstE (fun i => if tg.getD i 0 < 0 ∨ 24000 < tg.getD i 0 then 3 else 0) tg.length ≠ 0 then 3
  else if tblE ks tg.length Z 1000 ≠ 0 then tblE ks tg.length Z 1000 else tblE ld tg.length Z 8

theorem pcheck_c (Z mr rg tol : Int) (tg : List Int) (ks ld : List (List Int)) (h0 : Due (tg.length ≤ 9223372036854775807)) (hk : Due (ks.length ≤ 9223372036854775807)) (hl : Due (ld.length ≤ 9223372036854775807)) (hkr : ∀ i, i < ks.length → (ks.getD i []).length ≤ 9223372036854775807) (hlr : ∀ i, i < ld.length → (ld.getD i []).length ≤ 9223372036854775807) :
    TC R Try.prog press_Check_f [.agg [.int .i64 Z, .int .i64 mr, .int .i64 rg, .int .i64 tol, .lst Ei tg, .lst ELiJ ks, .lst ELiJ ld]] [] (fun v X => v = .int .i64 (chkE Z mr rg tol tg ks ld) ∧ X = []) := by
  dsimp only [Due] at h0 hk hl
  have tk := table_c ks tg.length Z 1000 hk hkr
  have tl := table_c ld tg.length Z 8 hl hlr
  refine tc0 env press_Check_s (by rfl) ?_
  dsimp only [press_Check_c]
  unfold chkE
  by_cases h1 : 8 < tg.length
  · rw [if_pos h1]
    repeat' (first
      | refine GZp_i_6i_LiJ ?_ ?_ ?_ ?_ ?_ ?_ ?_ ?_
      | with_reducible first | exact BzZq.mk | refine Tw.ret ?_ | refine ImZq.i fun h => ?_ | refine IkZq.i fun hk => ?_)
    exact ⟨rfl, rfl, rfl⟩
  rw [if_neg h1]
  by_cases h2 : tg.length = 0
  · rw [if_pos h2]
    repeat' (first
      | refine GZp_i_6i_LiJ ?_ ?_ ?_ ?_ ?_ ?_ ?_ ?_
      | with_reducible first | exact BzZq.mk | refine Tw.ret ?_ | refine ImZq.i fun h => ?_ | refine IkZq.i fun hk => ?_)
    exact ⟨rfl, rfl, rfl⟩
  rw [if_neg h2]
  by_cases h3 : Z < 1 ∨ 16 < Z ∨ mr < 0 ∨ 4000 < mr ∨ rg < 0 ∨ 1000 < rg ∨ tol < 0 ∨ 24000 < tol
  · rw [if_pos h3]
    repeat' (first
      | refine GZp_i_6i_LiJ ?_ ?_ ?_ ?_ ?_ ?_ ?_ ?_
      | with_reducible first | exact BzZq.mk | refine Tw.ret ?_ | refine ImZq.i fun h => ?_ | refine IkZq.i fun hk => ?_)
    all_goals exact ⟨rfl, rfl, rfl⟩
  rw [if_neg h3]
  repeat' (first
    | refine GZp_i_6i_LiJ ?_ ?_ ?_ ?_ ?_ ?_ ?_ ?_
    | with_reducible first | exact BzZq.mk | refine Tw.ret ?_ | refine ImZq.i fun h => ?_ | refine IkZq.i fun hk => ?_)
  refine Tw.loopK [1, 55] (fun i : Nat => i ≤ tg.length ∧ ∀ j, j < i → (if tg.getD j 0 < 0 ∨ 24000 < tg.getD j 0 then (3 : Int) else 0) = 0) (fun i => tg.length - i) (fun i => [(57, .int .i64 i), (56, .int .i64 tg.length), (2, .int .i64 (0 : Int))]) (fun _ => [some (.cells [.int .i64 Z, .int .i64 mr, .int .i64 rg, .int .i64 tol, .lst Ei tg, .lst ELiJ ks, .lst ELiJ ld])]) ⟨0, ⟨by omega, fun j hj => by omega⟩, TWk.fcanon env [some 0] (by rfl) ?_⟩ (fun i hi => ?_)
  · repeat' (first
      | refine GZ_i_6i_LiJ ?_ ?_ ?_ ?_ ?_ ?_ ?_ ?_
      | with_reducible first | exact BzZq.mk | refine Tw.ret ?_ | refine ImZq.i fun h => ?_ | refine IkZq.i fun hk => ?_)
  obtain ⟨hi, h4⟩ := hi
  rcases Nat.lt_or_ge i tg.length with hi | hi
  · by_cases hb : tg.getD i 0 < 0 ∨ 24000 < tg.getD i 0
    · have := fstE_at (f := fun i => if tg.getD i 0 < 0 ∨ 24000 < tg.getD i 0 then (3 : Int) else 0) h4 (by simp only [if_pos hb]; omega) hi
      rw [if_pos (by rw [this, if_pos hb]; omega)]
      repeat' (first
        | refine GZp_i_6i_LiJ ?_ ?_ ?_ ?_ ?_ ?_ ?_ ?_
        | with_reducible first | exact BzZq.mk | refine Tw.ret ?_ | refine ImZq.i fun h => ?_ | refine IkZq.i fun hk => ?_)
      all_goals exact ⟨rfl, rfl, rfl⟩
    · repeat' (first
        | refine GZp_i_6i_LiJ ?_ ?_ ?_ ?_ ?_ ?_ ?_ ?_
        | with_reducible first | exact BzZq.mk | refine Tw.ret ?_ | refine ImZq.i fun h => ?_ | refine IkZq.i fun hk => ?_)
      refine ⟨i + 1, ⟨by omega, fun j hj => ?_⟩, by omega, TWk.fcanon env [some 0] (by rfl) ?_⟩
      · rcases Nat.lt_or_ge j i with h' | h'
        · exact h4 j h'
        · obtain rfl : j = i := by omega
          exact if_neg hb
      · repeat' (first
          | refine GZ_i_6i_LiJ ?_ ?_ ?_ ?_ ?_ ?_ ?_ ?_
          | with_reducible first | exact BzZq.mk | refine Tw.ret ?_ | refine ImZq.i fun h => ?_ | refine IkZq.i fun hk => ?_)
  · obtain rfl : tg.length = i := by omega
    rw [if_neg (fun h => h (fstE_zero.2 h4))]
    generalize tblE ks tg.length Z 1000 = e1 at *
    generalize tblE ld tg.length Z 8 = e2 at *
    by_cases h5 : e1 = 0
    · rw [if_neg (fun h => h h5)]
      repeat' (first
        | ((with_reducible refine TOps.any ?_); refine TOps.callV env (by rfl) (by rfl) (by rfl) (tk) ?_)
        | ((with_reducible refine TOps.any ?_); refine TOps.callV env (by rfl) (by rfl) (by rfl) (tl) ?_)
        | refine GZp_i_6i_LiJ ?_ ?_ ?_ ?_ ?_ ?_ ?_ ?_
        | with_reducible first | exact BzZq.mk | refine Tw.ret ?_ | refine ImZq.i fun h => ?_ | refine IkZq.i fun hk => ?_)
      all_goals exact ⟨rfl, rfl, rfl⟩
    · rw [if_pos h5]
      repeat' (first
        | ((with_reducible refine TOps.any ?_); refine TOps.callV env (by rfl) (by rfl) (by rfl) (tk) ?_)
        | ((with_reducible refine TOps.any ?_); refine TOps.callV env (by rfl) (by rfl) (by rfl) (tl) ?_)
        | refine GZp_i_6i_LiJ ?_ ?_ ?_ ?_ ?_ ?_ ?_ ?_
        | with_reducible first | exact BzZq.mk | refine Tw.ret ?_ | refine ImZq.i fun h => ?_ | refine IkZq.i fun hk => ?_)
      all_goals exact ⟨rfl, rfl, rfl⟩

/-- Bounds of an event's numbers. -/
def lowK (k : Int) : Int := if k = 0 then -16 else if k = 2 then 4 else if k = 3 then 1 else if k = 4 then -1000 else 0
def topK (k : Int) : Int := if k = 0 then 16 else if k = 1 then 1000 else if k = 2 then 12 else if k = 3 then 20 else if k = 4 then 1000 else 0
/-- Numbers that an event of this kind has no use for are 0. -/
def frmK (k un zn x y : Int) : Prop := (k = 3 ∨ k = 6 → un = 0) ∧ (k ≠ 1 → zn = 0) ∧ (k = 5 ∨ k = 6 → x = 0) ∧ (k ≠ 0 ∧ k ≠ 4 → y = 0)
instance (k un zn x y : Int) : Decidable (frmK k un zn x y) := by unfold frmK; infer_instance
def inK (k un zn x y u Z : Int) : Prop := (k ≠ 3 ∧ k ≠ 6 → 0 ≤ un ∧ un < u) ∧ (k = 1 → 0 ≤ zn ∧ zn < Z) ∧ lowK k ≤ x ∧ x ≤ topK k ∧ (k = 0 ∨ k = 4 → lowK k ≤ y ∧ y ≤ topK k)
instance (k un zn x y u Z : Int) : Decidable (inK k un zn x y u Z) := by unfold inK; infer_instance
def evE (v : Int × Int × Int × Int × Int × Int) (u Z : Int) : Int :=
  if v.1 < 1 ∨ 4000 < v.1 ∨ v.2.1 < 0 ∨ 6 < v.2.1 then 3
  else if ¬ frmK v.2.1 v.2.2.1 v.2.2.2.1 v.2.2.2.2.1 v.2.2.2.2.2 then 4
  else if ¬ inK v.2.1 v.2.2.1 v.2.2.2.1 v.2.2.2.2.1 v.2.2.2.2.2 u Z then 3 else 0

theorem event_c (s k un zn x y u Z : Int) : TC R Try.prog press_CheckEvent_f [.agg [.int .i64 s, .int .i64 k, .int .i64 un, .int .i64 zn, .int .i64 x, .int .i64 y], .int .i64 u, .int .i64 Z] [] (fun v X => v = .int .i64 (evE (s, k, un, zn, x, y) u Z) ∧ X = []) := by
  refine tc0 env press_CheckEvent_s (by rfl) ?_
  dsimp only [press_CheckEvent_c]
  unfold evE
  by_cases h1 : s < 1 ∨ 4000 < s ∨ k < 0 ∨ 6 < k
  · rw [if_pos h1]
    repeat' (first
      | refine GZp_i_6i_LiJ ?_ ?_ ?_ ?_ ?_ ?_ ?_ ?_
      | with_reducible first | exact BzZq.mk | refine Tw.ret ?_ | refine ImZq.i fun h => ?_ | refine IkZq.i fun hk => ?_)
    all_goals exact ⟨rfl, rfl, rfl⟩
  rw [if_neg h1]
  have hk : k = 0 ∨ k = 1 ∨ k = 2 ∨ k = 3 ∨ k = 4 ∨ k = 5 ∨ k = 6 := by omega
  by_cases h2 : frmK k un zn x y
  rotate_left
  · rw [if_pos h2]
    unfold frmK at h2
    rcases hk with rfl | rfl | rfl | rfl | rfl | rfl | rfl
    all_goals
      repeat' (first
        | refine GZp_i_6i_LiJ ?_ ?_ ?_ ?_ ?_ ?_ ?_ ?_
        | with_reducible first | exact BzZq.mk | refine Tw.ret ?_ | refine ImZq.i fun h => ?_ | refine IkZq.i fun hk => ?_)
      all_goals first | exact ⟨rfl, rfl, rfl⟩ | (intro a b; rw [a, b]; rfl) | (exfalso; simp at *; omega) | trace_state
  rw [if_neg (fun h => h h2)]
  unfold frmK at h2
  by_cases h3 : inK k un zn x y u Z
  rotate_left
  · rw [if_pos h3]
    unfold inK at h3
    rcases hk with rfl | rfl | rfl | rfl | rfl | rfl | rfl
    all_goals
      repeat' (first
        | refine GZp_i_6i_LiJ ?_ ?_ ?_ ?_ ?_ ?_ ?_ ?_
        | with_reducible first | exact BzZq.mk | refine Tw.ret ?_ | refine ImZq.i fun h => ?_ | refine IkZq.i fun hk => ?_)
      all_goals first | exact ⟨rfl, rfl, rfl⟩ | (intro a b; rw [a, b]; rfl) | (exfalso; simp [lowK, topK] at *; omega) | trace_state
  rw [if_neg (fun h => h h3)]
  unfold inK at h3
  rcases hk with rfl | rfl | rfl | rfl | rfl | rfl | rfl
  all_goals
    repeat' (first
      | refine GZp_i_6i_LiJ ?_ ?_ ?_ ?_ ?_ ?_ ?_ ?_
      | with_reducible first | exact BzZq.mk | refine Tw.ret ?_ | refine ImZq.i fun h => ?_ | refine IkZq.i fun hk => ?_)
    all_goals first | exact ⟨rfl, rfl, rfl⟩ | (intro a b; rw [a, b]; rfl) | (exfalso; simp [lowK, topK] at *; omega) | trace_state
end Go.Proofs.Ytbaepacihkgalaa
namespace Go.Proofs.Ytbaepacihkgalaa
open Go Go.Lite
set_option linter.unusedVariables false
set_option linter.unusedSimpArgs false
set_option maxRecDepth 100000
set_option maxHeartbeats 4000000
-- @simp rdi rd6i rdLiJ

abbrev Ev := Int × Int × Int × Int × Int × Int
def dEv : Ev := (0, 0, 0, 0, 0, 0)
def scI (l : List Ev) (u Z : Int) (i : Nat) : Int := if evE (l.getD i dEv) u Z ≠ 0 then evE (l.getD i dEv) u Z else if 0 < i ∧ (l.getD i dEv).1 < (l.getD (i - 1) dEv).1 then 18 else 0
def scE (l : List Ev) (u Z : Int) : Int := if 200 < l.length then 2 else fstE (scI l u Z) l.length

theorem script_c (l : List Ev) (u Z : Int) (hl : Due (l.length ≤ 9223372036854775807)) : TC R Try.prog press_CheckScript_f [.lst E6i l, .int .i64 u, .int .i64 Z] [] (fun v X => v = .int .i64 (scE l u Z) ∧ X = []) := by
  dsimp only [Due] at hl
  refine tc0 env press_CheckScript_s (by rfl) ?_
  dsimp only [press_CheckScript_c]
  unfold scE
  by_cases h0 : 200 < l.length
  · rw [if_pos h0]
    repeat' (first
      | refine GZp_i_6i_LiJ ?_ ?_ ?_ ?_ ?_ ?_ ?_ ?_
      | with_reducible first | exact BzZq.mk | refine Tw.ret ?_ | refine ImZq.i fun h => ?_ | refine IkZq.i fun hk => ?_)
    exact ⟨rfl, rfl, rfl⟩
  rw [if_neg h0]
  repeat' (first
    | refine GZp_i_6i_LiJ ?_ ?_ ?_ ?_ ?_ ?_ ?_ ?_
    | with_reducible first | exact BzZq.mk | refine Tw.ret ?_ | refine ImZq.i fun h => ?_ | refine IkZq.i fun hk => ?_)
  refine Tw.loopK [0, 1, 2, 13] (fun i : Nat => i ≤ l.length ∧ ∀ j, j < i → scI l u Z j = 0) (fun i => l.length - i) (fun i => [(15, .int .i64 i), (14, .int .i64 l.length), (6, .int .i64 (0 : Int))]) (fun _ => []) ⟨0, ⟨by omega, fun j hj => by omega⟩, TWk.fcanon env [] (by rfl) ?_⟩ (fun i hi => ?_)
  · repeat' (first
      | refine GZ_i_6i_LiJ ?_ ?_ ?_ ?_ ?_ ?_ ?_ ?_
      | with_reducible first | exact BzZq.mk | refine Tw.ret ?_ | refine ImZq.i fun h => ?_ | refine IkZq.i fun hk => ?_)
  obtain ⟨hi, h1⟩ := hi
  rcases Nat.lt_or_ge i l.length with hi | hi
  · have at1 := fun h => fstE_at h1 (h : scI l u Z i ≠ 0) hi
    obtain ⟨s, k, un, zn, x, y, e⟩ : ∃ s k un zn x y, l.getD i dEv = (s, k, un, zn, x, y) := ⟨_, _, _, _, _, _, rfl⟩
    have ec := event_c s k un zn x y u Z
    have e' : l.getD i ((0 : Int), (0 : Int), (0 : Int), (0 : Int), (0 : Int), (0 : Int)) = (s, k, un, zn, x, y) := e
    have si : scI l u Z i = if evE (s, k, un, zn, x, y) u Z ≠ 0 then evE (s, k, un, zn, x, y) u Z else if 0 < i ∧ s < (l.getD (i - 1) dEv).1 then 18 else 0 := by unfold scI; rw [e]
    by_cases h2 : evE (s, k, un, zn, x, y) u Z = 0
    rotate_left
    · rw [if_pos h2] at si
      rw [si] at at1
      rw [at1 h2]
      generalize evE (s, k, un, zn, x, y) u Z = q at *
      repeat' (first
        | refine GZp_i_6i_LiJ ?_ ?_ ?_ ?_ ?_ ?_ ?_ ?_
        | with_reducible first | exact BzZq.mk | refine Tw.ret ?_ | refine ImZq.i fun h => ?_ | refine IkZq.i fun hk => ?_)
      have e2 : l.getD (i : Int).toNat (R.d E6i) = (s, k, un, zn, x, y) := e
      rw [e2]
      dsimp only
      repeat' (first
        | ((with_reducible refine TOps.any ?_); refine TOps.callV env (by rfl) (by rfl) (by rfl) (ec) ?_)
        | refine GZp_i_6i_LiJ ?_ ?_ ?_ ?_ ?_ ?_ ?_ ?_
        | with_reducible first | exact BzZq.mk | refine Tw.ret ?_ | refine ImZq.i fun h => ?_ | refine IkZq.i fun hk => ?_)
      exact ⟨rfl, rfl, rfl⟩
    rw [if_neg (fun h => h h2)] at si
    rw [h2] at ec
    obtain ⟨p, hp⟩ : ∃ p, p = l.getD (i - 1) ((0 : Int), (0 : Int), (0 : Int), (0 : Int), (0 : Int), (0 : Int)) := ⟨_, rfl⟩
    have hd : l.getD (i - 1) dEv = p := hp.symm
    have ix : (((i : Int) - 1).toNat) = i - 1 := by omega
    rw [hd] at si
    repeat' (first
      | refine GZp_i_6i_LiJ ?_ ?_ ?_ ?_ ?_ ?_ ?_ ?_
      | with_reducible first | exact BzZq.mk | refine Tw.ret ?_ | refine ImZq.i fun h => ?_ | refine IkZq.i fun hk => ?_)
    have e2 : l.getD (i : Int).toNat (R.d E6i) = (s, k, un, zn, x, y) := e
    rw [e2]
    dsimp only
    by_cases h3 : 0 < i ∧ s < p.1
    · rw [if_pos h3] at si
      rw [si] at at1
      rw [at1 (by omega)]
      repeat' (first
        | ((with_reducible refine TOps.any ?_); refine TOps.callV env (by rfl) (by rfl) (by rfl) (ec) ?_)
        | refine GZy_i_6i_LiJ ix ?_ ?_ ?_ ?_ ?_ ?_ ?_ ?_
        | with_reducible first | exact BzZq.mk | refine Tw.ret ?_ | refine ImZq.i fun h => ?_ | refine IkZq.i fun hk => ?_)
      rotate_left
      · exfalso
        rw [← hp] at *
        omega
      · exact ⟨rfl, rfl, rfl⟩
    · rw [if_neg h3] at si
      repeat' (first
        | ((with_reducible refine TOps.any ?_); refine TOps.callV env (by rfl) (by rfl) (by rfl) (ec) ?_)
        | refine GZy_i_6i_LiJ ix ?_ ?_ ?_ ?_ ?_ ?_ ?_ ?_
        | with_reducible first | exact BzZq.mk | refine Tw.ret ?_ | refine ImZq.i fun h => ?_ | refine IkZq.i fun hk => ?_)
      · exfalso
        rw [← hp] at *
        omega
      refine ⟨i + 1, ⟨by omega, fun j hj => ?_⟩, by omega, TWk.fcanon env [] (by rfl) ?_⟩
      · rcases Nat.lt_or_ge j i with h' | h'
        · exact h1 j h'
        · obtain rfl : j = i := by omega
          exact si
      · repeat' (first
          | refine GZ_i_6i_LiJ ?_ ?_ ?_ ?_ ?_ ?_ ?_ ?_
          | with_reducible first | exact BzZq.mk | refine Tw.ret ?_ | refine ImZq.i fun h => ?_ | refine IkZq.i fun hk => ?_)
  · obtain rfl : l.length = i := by omega
    rw [fstE_zero.2 h1]
    repeat' (first
      | refine GZp_i_6i_LiJ ?_ ?_ ?_ ?_ ?_ ?_ ?_ ?_
      | with_reducible first | exact BzZq.mk | refine Tw.ret ?_ | refine ImZq.i fun h => ?_ | refine IkZq.i fun hk => ?_)
    exact ⟨rfl, rfl, rfl⟩
end Go.Proofs.Ytbaepacihkgalaa
namespace Go.Proofs.Ytbaepacihkgalaa
open Go Go.Lite
set_option linter.unusedVariables false
set_option linter.unusedSimpArgs false
set_option maxRecDepth 100000
set_option maxHeartbeats 100000000
-- @simp rdi rd6i rdLiJ

def cutP (t : Int) : Int := max (-1000) (min 1000 t)
theorem cut_le (t : Int) : -1000 ≤ cutP t ∧ cutP t ≤ 1000 := by unfold cutP; omega
structure Un where
  x : Int
  y : Int
  dx : Int
  dy : Int
  gn : Int
  ks : List Int
  fl : List Int
structure UOk (Z : Nat) (a : Un) : Prop where
  x : -1000 ≤ a.x ∧ a.x ≤ 1000
  y : -1000 ≤ a.y ∧ a.y ≤ 1000
  dx : -16 ≤ a.dx ∧ a.dx ≤ 16
  dy : -16 ≤ a.dy ∧ a.dy ≤ 16
  gn : 4 ≤ a.gn ∧ a.gn ≤ 12
  kl : a.ks.length = Z
  fl : a.fl.length = Z
  k : ∀ z, z < Z → 0 ≤ a.ks.getD z 0 ∧ a.ks.getD z 0 ≤ 1000
  f : ∀ z, z < Z → 0 ≤ a.fl.getD z 0 ∧ a.fl.getD z 0 ≤ 24000
/-- A setup: zones, make-ready, register, tolerance, targets, keys, loads. -/
structure Su where
  Z : Nat
  mr : Int
  rg : Int
  tol : Int
  tg : List Int
  ks : List (List Int)
  ld : List (List Int)
/-- A press: sheets, sheets since the make-ready, sheets of a jam, units. -/
structure Ps where
  n : Int
  s : Int
  j : Int
  us : Nat → Un
def unC (Z r : Nat) (a : Un) : List (TV A) := [.int .i64 a.x, .int .i64 a.y, .int .i64 a.dx, .int .i64 a.dy, .int .i64 a.gn, .sla 1 r 0 Z, .sla 1 (r + 1) 0 Z]
def unsC (Z : Nat) (us : Nat → Un) : Nat → Nat → List (TV A)
  | 0, _ => []
  | k + 1, i => unC Z (2 + 2 * i) (us i) ++ unsC Z us k (i + 1)
def unR (us : Nat → Un) : Nat → Nat → List (Option (TRow A))
  | 0, _ => []
  | k + 1, i => some (.arr Ei (us i).ks) :: some (.arr Ei (us i).fl) :: unR us k (i + 1)
def prC (S : Su) (u : Nat) (p : Ps) : List (TV A) := [.int .i64 p.n, .int .i64 p.s, .int .i64 p.j, .int .i64 S.Z, .int .i64 S.mr, .int .i64 S.rg, .int .i64 S.tol, .lst Ei S.tg, .lst ELiJ S.ks, .lst ELiJ S.ld, .sl 7 1 0 u]
def prR (S : Su) (u : Nat) (p : Ps) : List (Option (TRow A)) := some (.cells (prC S u p)) :: some (.cells (unsC S.Z p.us u 0)) :: unR p.us u 0
def upU (us : Nat → Un) (i : Nat) (a : Un) : Nat → Un := fun k => if k = i then a else us k

theorem unR_len (us : Nat → Un) : ∀ k i, (unR us k i).length = 2 * k
  | 0, _ => rfl
  | k + 1, i => by simp only [unR, List.length_cons, unR_len us k (i + 1)]; omega
theorem prR_len {S : Su} {u : Nat} {p : Ps} : (prR S u p).length = 2 + 2 * u := by simp only [prR, List.length_cons, unR_len]; omega
theorem arr_hlt {n : Nat} : ∀ l : List Int, hltL n (embR R (.arr Ei l)) = true
  | [] => rfl
  | _ :: l => arr_hlt (n := n) l
theorem unR_hlt {n : Nat} (us : Nat → Un) : ∀ k i, hltH n (embH R (unR us k i)) = true
  | 0, _ => rfl
  | k + 1, i => by
    simp only [unR, embH, embO, hltH, arr_hlt, Bool.true_and]
    exact unR_hlt us k (i + 1)
theorem unsC_hlt {n Z : Nat} (us : Nat → Un) : ∀ k i, 2 + 2 * (i + k) ≤ n → hltL n (embC R (unsC Z us k i)) = true
  | 0, _, _ => rfl
  | k + 1, i, h => by
    have ih := unsC_hlt (n := n) (Z := Z) us k (i + 1) (by omega)
    have h1 : Nat.blt (2 + 2 * i) n = true := by rw [Nat.blt_eq]; omega
    have h2 : Nat.blt (2 + 2 * i + 1) n = true := by rw [Nat.blt_eq]; omega
    simp only [unsC, unC, List.cons_append, List.nil_append, embC, emb, hltL, hlt, h1, h2, ih, Bool.true_and]
theorem prR_hlt {S : Su} {u : Nat} {p : Ps} : hltH (2 + 2 * u) (embH R (prR S u p)) = true := by
  have h1 : Nat.blt 1 (2 + 2 * u) = true := by rw [Nat.blt_eq]; omega
  have h2 := unsC_hlt (Z := S.Z) p.us u 0 (n := 2 + 2 * u) (by omega)
  have h3 := unR_hlt p.us u 0 (n := 2 + 2 * u)
  simp only [prR, prC, embH, embO, embR, embC, emb, hltH, hltL, hlt, h1, h2, h3, Bool.true_and]
/-- A function that is handed a press and hands it back. -/
theorem prTC {f : Nat} {args : List (TV A)} {S : Su} {u : Nat} {p p' : Ps} {v0 : TV A} (hv : ∀ n, hlt n (emb R v0) = true) (h : TC R Try.prog f args (prR S u p) (fun v X => v = v0 ∧ X.take (2 + 2 * u) = prR S u p')) : TC R Try.prog f args (prR S u p) (fun v X => v = v0 ∧ X = prR S u p') := by
  refine TC.cut (h.mono fun v X hX => ?_)
  obtain ⟨rfl, e⟩ := hX
  rw [prR_len, e]
  exact ⟨hv _, prR_hlt, rfl, rfl⟩

theorem cut_c (t : Int) : TC R Try.prog press_cut_f [.int .i64 t] [] (fun v X => v = .int .i64 (cutP t) ∧ X = []) := by
  refine tc0 env press_cut_s (by rfl) ?_
  dsimp only [press_cut_c]
  unfold cutP
  repeat' (first
    | refine GZp_i_6i_LiJ ?_ ?_ ?_ ?_ ?_ ?_ ?_ ?_
    | with_reducible first | exact BzZq.mk | refine Tw.ret ?_ | refine ImZq.i fun h => ?_ | refine IkZq.i fun hk => ?_)
  exact ⟨rfl, rfl, rfl⟩

def mvU (a : Un) (x y : Int) : Un := { a with x := cutP (a.x + x), y := cutP (a.y + y) }
theorem eight {u : Nat} (h : 1 ≤ u ∧ u ≤ 8) : u = 1 ∨ u = 2 ∨ u = 3 ∨ u = 4 ∨ u = 5 ∨ u = 6 ∨ u = 7 ∨ u = 8 := by omega
theorem below {i u : Nat} (h : i < u ∧ u ≤ 8) : (i = 0 ∧ 0 < u) ∨ (i = 1 ∧ 1 < u) ∨ (i = 2 ∧ 2 < u) ∨ (i = 3 ∧ 3 < u) ∨ (i = 4 ∧ 4 < u) ∨ (i = 5 ∧ 5 < u) ∨ (i = 6 ∧ 6 < u) ∨ (i = 7 ∧ 7 < u) := by omega
def move_c_P (n8 : Nat) : Prop := ∀ (S : Su) (u i : Nat) (p : Ps) (x y : Int) (hu : i < u ∧ u ≤ 8) (h1 : Due (-1000 ≤ (p.us i).x ∧ (p.us i).x ≤ 1000 ∧ -1000 ≤ (p.us i).y ∧ (p.us i).y ≤ 1000)) (h2 : Due (-1000 ≤ x ∧ x ≤ 1000 ∧ -1000 ≤ y ∧ y ≤ 1000)) (e8 : u = n8), TC R Try.prog __press_unit__move_f [.ptr 1 (7 * i), .agg [.int .i64 x, .int .i64 y]] (prR S u p) (fun v X => v = .tup [] ∧ X = prR S u { p with us := upU p.us i (mvU (p.us i) x y) })
theorem move_c_A {n8 : Nat} (h8 : move_c_P n8 := by
    intro S u i p x y hu h1 h2 e8
    dsimp only [Due] at h1 h2
    have c1 := cut_c ((p.us i).x + x)
    have c2 := cut_c ((p.us i).y + y)
    refine prTC (fun _ => rfl) (tc env __press_unit__move_s (by rfl) ?_)
    dsimp only [__press_unit__move_c]
    have b := below hu
    subst e8
    rcases b with ⟨rfl, b⟩ | ⟨rfl, b⟩ | ⟨rfl, b⟩ | ⟨rfl, b⟩ | ⟨rfl, b⟩ | ⟨rfl, b⟩ | ⟨rfl, b⟩ | ⟨rfl, b⟩
    all_goals first | (exfalso; omega) | simp only [prR, prC, unsC, unC, unR, List.cons_append, List.nil_append, Nat.reduceAdd, Nat.reduceMul]
    all_goals
      repeat' (first
        | ((with_reducible refine TDr.any ?_); refine TDr.callE env (by first | rfl | assumption) (by rfl) (by rfl) ?_ (c1) (by rfl) (by rfl) ?_)
        | ((with_reducible refine TDr.any ?_); refine TDr.callE env (by first | rfl | assumption) (by rfl) (by rfl) ?_ (c2) (by rfl) (by rfl) ?_)
        | refine GZp_i_6i_LiJ ?_ ?_ ?_ ?_ ?_ ?_ ?_ ?_
        | with_reducible first | exact BzZq.mk | refine Tw.ret ?_ | refine ImZq.i fun h => ?_ | refine IkZq.i fun hk => ?_)
      all_goals exact ⟨rfl, rfl⟩) : move_c_P n8 := h8
theorem move_c_1 : move_c_P 1 := move_c_A
theorem move_c_2 : move_c_P 2 := move_c_A
theorem move_c_3 : move_c_P 3 := move_c_A
theorem move_c_4 : move_c_P 4 := move_c_A
theorem move_c_5 : move_c_P 5 := move_c_A
theorem move_c_6 : move_c_P 6 := move_c_A
theorem move_c_7 : move_c_P 7 := move_c_A
theorem move_c_8 : move_c_P 8 := move_c_A
theorem move_c (S : Su) (u i : Nat) (p : Ps) (x y : Int) (hu : i < u ∧ u ≤ 8) (h1 : Due (-1000 ≤ (p.us i).x ∧ (p.us i).x ≤ 1000 ∧ -1000 ≤ (p.us i).y ∧ (p.us i).y ≤ 1000)) (h2 : Due (-1000 ≤ x ∧ x ≤ 1000 ∧ -1000 ≤ y ∧ y ≤ 1000)) : TC R Try.prog __press_unit__move_f [.ptr 1 (7 * i), .agg [.int .i64 x, .int .i64 y]] (prR S u p) (fun v X => v = .tup [] ∧ X = prR S u { p with us := upU p.us i (mvU (p.us i) x y) }) := by
  rcases eight (u := u) (by omega) with e8 | e8 | e8 | e8 | e8 | e8 | e8 | e8
  · exact move_c_1 S u i p x y hu h1 h2 e8
  · exact move_c_2 S u i p x y hu h1 h2 e8
  · exact move_c_3 S u i p x y hu h1 h2 e8
  · exact move_c_4 S u i p x y hu h1 h2 e8
  · exact move_c_5 S u i p x y hu h1 h2 e8
  · exact move_c_6 S u i p x y hu h1 h2 e8
  · exact move_c_7 S u i p x y hu h1 h2 e8
  · exact move_c_8 S u i p x y hu h1 h2 e8
end Go.Proofs.Ytbaepacihkgalaa
