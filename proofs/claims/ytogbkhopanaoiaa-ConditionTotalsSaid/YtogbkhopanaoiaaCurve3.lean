import Derived.Test.YtogbkhopanaoiaaCurve2
import Derived.Test.YtogbkhopanaoiaaGo
namespace Go.Proofs.Ytogbkhopanaoiaa
open Go Go.Lite
set_option linter.unusedVariables false
set_option linter.unusedSimpArgs false
set_option maxRecDepth 100000
set_option maxHeartbeats 4000000
-- @simp rd2i

/-- The part of the curve that holds x. -/
theorem seg_has {c : List (Int × Int)} (v : Valid c) {x : Int} (hx : 0 ≤ x ∧ x ≤ 65280) : seg c x (c.length - 2) + 1 < c.length ∧ (c.getD (seg c x (c.length - 2)) (0, 0)).1 ≤ x ∧ x ≤ (c.getD (seg c x (c.length - 2) + 1) (0, 0)).1 := by
  have hl := v.len
  have key : ∀ n, n + 1 < c.length → seg c x n ≤ n ∧ (c.getD (seg c x n) (0, 0)).1 ≤ x ∧ (x ≤ (c.getD (n + 1) (0, 0)).1 → x ≤ (c.getD (seg c x n + 1) (0, 0)).1) := by
    intro n
    induction n with
    | zero => intro h; have := v.first; simp only [seg]; omega
    | succ n ih =>
      intro h
      simp only [seg]
      split
      · exact ⟨by omega, by assumption, id⟩
      · obtain ⟨h1, h2, h3⟩ := ih (by omega)
        exact ⟨by omega, h2, fun _ => h3 (by omega)⟩
  obtain ⟨h1, h2, h3⟩ := key (c.length - 2) (by omega)
  refine ⟨by omega, h2, h3 ?_⟩
  have := v.last
  rw [show c.length - 2 + 1 = c.length - 1 by omega]
  omega

theorem rawAt_bd {c : List (Int × Int)} (v : Valid c) {x : Int} {i : Nat} (hi : i + 1 < c.length) (h : (c.getD i (0, 0)).1 ≤ x ∧ x ≤ (c.getD (i + 1) (0, 0)).1) : (c.getD i (0, 0)).2 ≤ rawAt c x i ∧ rawAt c x i ≤ (c.getD (i + 1) (0, 0)).2 := by
  have h1 := v.ord i hi
  have := near_bd (n := ((c.getD (i + 1) (0, 0)).2 - (c.getD i (0, 0)).2) * (x - (c.getD i (0, 0)).1)) (d := (c.getD (i + 1) (0, 0)).1 - (c.getD i (0, 0)).1) (k := (c.getD (i + 1) (0, 0)).2 - (c.getD i (0, 0)).2) (by omega)
    (Int.mul_nonneg (by omega) (by omega)) (Int.mul_le_mul_of_nonneg_left (by omega) (by omega))
  unfold rawAt
  omega

theorem raw_bd {c : List (Int × Int)} (v : Valid c) {x : Int} (hx : 0 ≤ x ∧ x ≤ 65280) : 0 ≤ raw c x ∧ raw c x ≤ (c.getD (c.length - 1) (0, 0)).2 := by
  obtain ⟨h1, h2, h3⟩ := seg_has v hx
  have h4 := rawAt_bd v h1 ⟨h2, h3⟩
  have h5 := v.rg (seg c x (c.length - 2)) (by omega)
  have h6 := v.mono (c.length - 1 - (seg c x (c.length - 2) + 1)) (seg c x (c.length - 2) + 1) (by omega)
  rw [show seg c x (c.length - 2) + 1 + (c.length - 1 - (seg c x (c.length - 2) + 1)) = c.length - 1 by omega] at h6
  unfold raw
  omega

end Go.Proofs.Ytogbkhopanaoiaa
