import Derived.Test.YtagfanbodglplaaCurve2
import Derived.Test.YtagfanbodglplaaGo
namespace Go.Proofs.Ytagfanbodglplaa
open Go Go.Lite
set_option linter.unusedVariables false
set_option linter.unusedSimpArgs false
set_option maxRecDepth 100000
set_option maxHeartbeats 4000000
-- @simp rd2i

theorem near_mono {a b d : Int} (hd : 0 < d) (h : a ≤ b) : near a d ≤ near b d := Int.ediv_le_ediv (by omega) (by omega)
theorem near_full {k d : Int} (hd : 0 < d) : near (k * d) d = k := by
  unfold near
  refine div_is (q := k) (r := d) (by omega) (by rw [Int.mul_assoc, Int.mul_comm d k]) (by omega) (by omega)
theorem near_zero {d : Int} (hd : 0 < d) : near 0 d = 0 := by have := near_full (k := 0) hd; rwa [Int.zero_mul] at this

/-- The part of the curve that holds x. -/
theorem seg_has {c : List (Int × Int)} (v : Valid c) {x : Int} (hx : 0 ≤ x ∧ x ≤ 65280) : seg c x (c.length - 2) + 1 < c.length ∧ (c.getD (seg c x (c.length - 2)) (0, 0)).1 ≤ x ∧ x ≤ (c.getD (seg c x (c.length - 2) + 1) (0, 0)).1 := by
  have hl := v.len
  have key : ∀ n, n + 1 < c.length → seg c x n ≤ n ∧ (c.getD (seg c x n) (0, 0)).1 ≤ x ∧ (x ≤ (c.getD (n + 1) (0, 0)).1 → x ≤ (c.getD (seg c x n + 1) (0, 0)).1) := by
    intro n
    induction n with
    | zero => intro h; have := v.first; simp only [seg]; omega
    | succ n ih =>
      intro h
      simp only [seg]
      split
      · exact ⟨by omega, by assumption, id⟩
      · obtain ⟨h1, h2, h3⟩ := ih (by omega)
        exact ⟨by omega, h2, fun _ => h3 (by omega)⟩
  obtain ⟨h1, h2, h3⟩ := key (c.length - 2) (by omega)
  refine ⟨by omega, h2, h3 ?_⟩
  have := v.last
  rw [show c.length - 2 + 1 = c.length - 1 by omega]
  omega

theorem rawAt_bd {c : List (Int × Int)} (v : Valid c) {x : Int} {i : Nat} (hi : i + 1 < c.length) (h : (c.getD i (0, 0)).1 ≤ x ∧ x ≤ (c.getD (i + 1) (0, 0)).1) : (c.getD i (0, 0)).2 ≤ rawAt c x i ∧ rawAt c x i ≤ (c.getD (i + 1) (0, 0)).2 := by
  have h1 := v.ord i hi
  have := near_bd (n := ((c.getD (i + 1) (0, 0)).2 - (c.getD i (0, 0)).2) * (x - (c.getD i (0, 0)).1)) (d := (c.getD (i + 1) (0, 0)).1 - (c.getD i (0, 0)).1) (k := (c.getD (i + 1) (0, 0)).2 - (c.getD i (0, 0)).2) (by omega)
    (Int.mul_nonneg (by omega) (by omega)) (Int.mul_le_mul_of_nonneg_left (by omega) (by omega))
  unfold rawAt
  omega

theorem raw_bd {c : List (Int × Int)} (v : Valid c) {x : Int} (hx : 0 ≤ x ∧ x ≤ 65280) : 0 ≤ raw c x ∧ raw c x ≤ (c.getD (c.length - 1) (0, 0)).2 := by
  obtain ⟨h1, h2, h3⟩ := seg_has v hx
  have h4 := rawAt_bd v h1 ⟨h2, h3⟩
  have h5 := v.rg (seg c x (c.length - 2)) (by omega)
  have h6 := v.mono (c.length - 1 - (seg c x (c.length - 2) + 1)) (seg c x (c.length - 2) + 1) (by omega)
  rw [show seg c x (c.length - 2) + 1 + (c.length - 1 - (seg c x (c.length - 2) + 1)) = c.length - 1 by omega] at h6
  unfold raw
  omega

theorem raw_mono {c : List (Int × Int)} (v : Valid c) {x y : Int} (hx : 0 ≤ x ∧ x ≤ 65280) (hy : y ≤ 65280) (h : x ≤ y) : raw c x ≤ raw c y := by
  obtain ⟨h1, h2, h3⟩ := seg_has v hx
  obtain ⟨k1, k2, k3⟩ := seg_has v (x := y) ⟨by omega, hy⟩
  unfold raw
  generalize seg c x (c.length - 2) = i at *
  generalize seg c y (c.length - 2) = j at *
  have h4 := rawAt_bd v h1 ⟨h2, h3⟩
  have k4 := rawAt_bd v k1 ⟨k2, k3⟩
  rcases Nat.lt_trichotomy i j with hij | hij | hij
  · have := v.mono (j - (i + 1)) (i + 1) (by omega)
    rw [show i + 1 + (j - (i + 1)) = j by omega] at this
    omega
  · subst hij
    have := v.ord i h1
    have := near_mono (d := (c.getD (i + 1) (0, 0)).1 - (c.getD i (0, 0)).1) (by omega) (Int.mul_le_mul_of_nonneg_left (show x - (c.getD i (0, 0)).1 ≤ y - (c.getD i (0, 0)).1 by omega) (show 0 ≤ (c.getD (i + 1) (0, 0)).2 - (c.getD i (0, 0)).2 by omega))
    unfold rawAt
    omega
  · -- x is in a later part than y: both are the point between
    have h7 := v.mono (i - (j + 1)) (j + 1) (by omega)
    rw [show j + 1 + (i - (j + 1)) = i by omega] at h7
    have e1 : x = (c.getD i (0, 0)).1 := by omega
    have e2 : i = j + 1 := by
      by_cases e : i = j + 1
      · exact e
      · omega
    subst e2
    have hx' := v.ord (j + 1) h1
    have hj := v.ord j k1
    have e3 : y = (c.getD (j + 1) (0, 0)).1 := by omega
    unfold rawAt
    rw [e1, e3, Int.sub_self, Int.mul_zero, near_zero (by omega), near_full (by omega)]
    omega

theorem raw_last {c : List (Int × Int)} (v : Valid c) : raw c 65280 = (c.getD (c.length - 1) (0, 0)).2 := by
  have hl := v.len
  have h2 := v.ord (c.length - 2) (by omega)
  have h3 := v.last
  rw [show c.length - 2 + 1 = c.length - 1 by omega] at h2
  unfold raw
  rw [seg_is v (i := c.length - 2) (by omega) _ (by omega) (by omega) (by omega)]
  unfold rawAt
  rw [show c.length - 2 + 1 = c.length - 1 by omega, h3, near_full (by omega)]
  omega

theorem least_c (c : List (Int × Int)) (y : Int) (v : Valid c) (hy : Due (y ≤ (c.getD (c.length - 1) (0, 0)).2)) : TC R Try.prog curve_least_f [.agg [.lst E2i c], .int .i64 y] [] (fun w X => ∃ x, (0 ≤ x ∧ x ≤ 65280 ∧ y ≤ raw c x ∧ (x = 0 ∨ raw c (x - 1) < y)) ∧ w = .int .i64 x ∧ X = []) := by
  dsimp only [Due] at hy
  refine tc0 env curve_least_s (by rfl) ?_
  dsimp only [curve_least_c]
  repeat' (first
    | refine GZ_2i ?_ ?_ ?_ ?_ ?_ ?_ ?_ ?_
    | with_reducible first | exact BzZq.mk | refine Tw.ret ?_ | refine ImZq.i fun h => ?_ | refine IkZq.i fun hk => ?_)
  refine Tw.loopK [1, 2] (fun p : Int × Int => -1 ≤ p.1 ∧ p.1 < p.2 ∧ p.2 ≤ 65280 ∧ y ≤ raw c p.2 ∧ (p.1 = -1 ∨ raw c p.1 < y)) (fun p => (p.2 - p.1).toNat) (fun p => [(5, .int .i64 p.1), (6, .int .i64 p.2)]) (fun _ => [some (.cells [.lst E2i c])]) ⟨(-1, 65280), ?_, TWk.fcanon env [some 0] (by rfl) ?_⟩ (fun p hp => ?_)
  · dsimp only; rw [raw_last v]; omega
  · repeat' (first
      | refine GZ_2i ?_ ?_ ?_ ?_ ?_ ?_ ?_ ?_
      | with_reducible first | exact BzZq.mk | refine Tw.ret ?_ | refine ImZq.i fun h => ?_ | refine IkZq.i fun hk => ?_)
  obtain ⟨l, u⟩ := p
  dsimp only at hp ⊢
  obtain ⟨m, hq, hm⟩ : ∃ m, quo (l + u) 2 = m ∧ (0 ≤ l + u → m = (l + u) / 2) := ⟨_, rfl, fun h => quo_nn h⟩
  repeat' (first
    | ((with_reducible refine TOps.any ?_); refine TOps.callV env (by rfl) (by rfl) (by rfl) (raw_c _ _ v ?_) ?_)
    | refine GZx_2i hq ?_ ?_ ?_ ?_ ?_ ?_ ?_ ?_
    | with_reducible first | exact BzZq.mk | refine Tw.ret ?_ | refine ImZq.i fun h => ?_ | refine IkZq.i fun hk => ?_)
  · refine ⟨(l, m), ?_, ?_, TWk.fcanon env [some 0] (by rfl) ?_⟩
    · dsimp only; omega
    · dsimp only; omega
    · repeat' (first
        | refine GZx_2i hq ?_ ?_ ?_ ?_ ?_ ?_ ?_ ?_
        | with_reducible first | exact BzZq.mk | refine Tw.ret ?_ | refine ImZq.i fun h => ?_ | refine IkZq.i fun hk => ?_)
  · refine ⟨(m, u), ?_, ?_, TWk.fcanon env [some 0] (by rfl) ?_⟩
    · dsimp only; omega
    · dsimp only; omega
    · repeat' (first
        | refine GZx_2i hq ?_ ?_ ?_ ?_ ?_ ?_ ?_ ?_
        | with_reducible first | exact BzZq.mk | refine Tw.ret ?_ | refine ImZq.i fun h => ?_ | refine IkZq.i fun hk => ?_)
  · refine ⟨rfl, u, ⟨by omega, by omega, by omega, ?_⟩, rfl, rfl⟩
    rcases hp.2.2.2.2 with h1 | h1
    · left; omega
    · right; rw [show u - 1 = l by omega]; exact h1

end Go.Proofs.Ytagfanbodglplaa
