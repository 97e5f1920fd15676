import Derived.Test.YtagfanbodglplaaCurve1
import Derived.Test.YtagfanbodglplaaGo
namespace Go.Proofs.Ytagfanbodglplaa
open Go Go.Lite
set_option linter.unusedVariables false
set_option linter.unusedSimpArgs false
set_option maxRecDepth 100000
set_option maxHeartbeats 4000000
-- @simp rd2i

/-- The last point up to n that is not right of x. -/
def seg (c : List (Int × Int)) (x : Int) : Nat → Nat
  | 0 => 0
  | n + 1 => if (c.getD (n + 1) (0, 0)).1 ≤ x then n + 1 else seg c x n
def rawAt (c : List (Int × Int)) (x : Int) (i : Nat) : Int := (c.getD i (0, 0)).2 + near (((c.getD (i + 1) (0, 0)).2 - (c.getD i (0, 0)).2) * (x - (c.getD i (0, 0)).1)) ((c.getD (i + 1) (0, 0)).1 - (c.getD i (0, 0)).1)
def raw (c : List (Int × Int)) (x : Int) : Int := rawAt c x (seg c x (c.length - 2))

theorem Valid.mono {c : List (Int × Int)} (v : Valid c) : ∀ (n i : Nat), i + n < c.length → (c.getD i (0, 0)).1 + n ≤ (c.getD (i + n) (0, 0)).1 ∧ (c.getD i (0, 0)).2 ≤ (c.getD (i + n) (0, 0)).2 := by
  intro n
  induction n with
  | zero => intro i h; simp
  | succ n ih =>
    intro i h
    have h1 := ih i (by omega)
    have h2 := v.ord (i + n) (by omega)
    rw [show i + (n + 1) = i + n + 1 by omega]
    omega

theorem seg_is {c : List (Int × Int)} (v : Valid c) {x : Int} {i : Nat} (h1 : (c.getD i (0, 0)).1 ≤ x) : ∀ n, i ≤ n → n < c.length → (i = n ∨ x < (c.getD (i + 1) (0, 0)).1) → seg c x n = i := by
  intro n
  induction n with
  | zero => intro h2 h3 h4; simp only [seg]; omega
  | succ n ih =>
    intro h2 h3 h4
    simp only [seg]
    by_cases e : i = n + 1
    · subst e; rw [if_pos h1]
    · have h5 : x < (c.getD (i + 1) (0, 0)).1 := h4.resolve_left e
      have := v.mono (n - i) (i + 1) (by omega)
      rw [show i + 1 + (n - i) = n + 1 by omega] at this
      rw [if_neg (by omega)]
      exact ih (by omega) (by omega) (.inr h5)

theorem prod_bd {a b : Int} (ha : 0 ≤ a ∧ a ≤ 65280) (hb : 0 ≤ b ∧ b ≤ 65280) : 0 ≤ a * b ∧ a * b ≤ 4261478400 :=
  ⟨Int.mul_nonneg ha.1 hb.1, Int.le_trans (Int.mul_le_mul ha.2 hb.2 hb.1 (by omega)) (by omega)⟩
theorem near_bd {n d k : Int} (hd : 0 < d) (hn : 0 ≤ n) (h : n ≤ k * d) : 0 ≤ near n d ∧ near n d ≤ k := by
  unfold near
  refine ⟨Int.ediv_nonneg (by omega) (by omega), ?_⟩
  have : 2 * n + d < (k + 1) * (2 * d) := by
    have : (k + 1) * (2 * d) = 2 * (k * d) + 2 * d := by rw [Int.add_mul, Int.mul_left_comm]; omega
    omega
  have := Int.ediv_lt_of_lt_mul (show 0 < 2 * d by omega) this
  omega

theorem raw_c (c : List (Int × Int)) (x : Int) (v : Valid c) (hx : Due (0 ≤ x ∧ x ≤ 65280)) : TC R Try.prog curve_Raw_f [.agg [.lst E2i c], .int .i64 x] [] (fun v X => v = .int .i64 (raw c x) ∧ X = []) := by
  dsimp only [Due] at hx
  have hl := v.len
  refine tc0 env curve_Raw_s (by rfl) ?_
  dsimp only [curve_Raw_c]
  repeat' (first
    | refine GZ_2i ?_ ?_ ?_ ?_ ?_ ?_ ?_ ?_
    | with_reducible first | exact BzZq.mk | refine Tw.ret ?_ | refine ImZq.i fun h => ?_ | refine IkZq.i fun hk => ?_)
  refine Tw.loopK [1, 2] (fun p : Nat × Nat => p.1 < p.2 ∧ p.2 < c.length ∧ (c.getD p.1 (0, 0)).1 ≤ x ∧ x ≤ (c.getD p.2 (0, 0)).1 ∧ (p.2 = c.length - 1 ∨ x < (c.getD p.2 (0, 0)).1)) (fun p => p.2 - p.1) (fun p => [(5, .int .i64 p.1), (6, .int .i64 p.2)]) (fun _ => [some (.cells [.lst E2i c])]) ⟨(0, c.length - 1), ?_, TWk.fcanon env [some 0] (by rfl) ?_⟩ (fun p hp => ?_)
  · have := v.first; have := v.last; dsimp only; omega
  · repeat' (first
      | refine GZ_2i ?_ ?_ ?_ ?_ ?_ ?_ ?_ ?_
      | with_reducible first | exact BzZq.mk | refine Tw.ret ?_ | refine ImZq.i fun h => ?_ | refine IkZq.i fun hk => ?_)
  obtain ⟨l, u⟩ := p
  dsimp only at hp ⊢
  have hq : quo ((l : Int) + u) 2 = ((l + u) / 2 : Nat) := by rw [quo_nn (by omega)]; omega
  have b1 := v.rg l (by omega)
  have b2 := v.rg u (by omega)
  have b3 := v.mono (u - l) l (by omega)
  rw [show l + (u - l) = u by omega] at b3
  have b4 := prod_bd (a := (c.getD u (0, 0)).2 - (c.getD l (0, 0)).2) (b := x - (c.getD l (0, 0)).1) (by omega) (by omega)
  have b5 := near_bd (n := ((c.getD u (0, 0)).2 - (c.getD l (0, 0)).2) * (x - (c.getD l (0, 0)).1)) (d := (c.getD u (0, 0)).1 - (c.getD l (0, 0)).1) (k := (c.getD u (0, 0)).2 - (c.getD l (0, 0)).2) (by omega) (by omega) (Int.mul_le_mul_of_nonneg_left (by omega) (by omega))
  repeat' (first
    | ((with_reducible refine TDr.any ?_); refine TDr.callE env (by first | rfl | assumption) (by rfl) (by rfl) ?_ (nearest_c _ _ ?_) (by rfl) (by rfl) ?_)
    | refine GZx_2i hq ?_ ?_ ?_ ?_ ?_ ?_ ?_ ?_
    | with_reducible first | exact BzZq.mk | refine Tw.ret ?_ | refine ImZq.i fun h => ?_ | refine IkZq.i fun hk => ?_)
  · refine ⟨((l + u) / 2, u), ?_, ?_, TWk.fcanon env [some 0] (by rfl) ?_⟩
    · dsimp only; omega
    · dsimp only; omega
    · repeat' (first
        | refine GZx_2i hq ?_ ?_ ?_ ?_ ?_ ?_ ?_ ?_
        | with_reducible first | exact BzZq.mk | refine Tw.ret ?_ | refine ImZq.i fun h => ?_ | refine IkZq.i fun hk => ?_)
  · refine ⟨(l, (l + u) / 2), ?_, ?_, TWk.fcanon env [some 0] (by rfl) ?_⟩
    · dsimp only; omega
    · dsimp only; omega
    · repeat' (first
        | refine GZx_2i hq ?_ ?_ ?_ ?_ ?_ ?_ ?_ ?_
        | with_reducible first | exact BzZq.mk | refine Tw.ret ?_ | refine ImZq.i fun h => ?_ | refine IkZq.i fun hk => ?_)
  · obtain rfl : u = l + 1 := by omega
    refine ⟨rfl, ?_, rfl⟩
    simp only [Int.toNat_natCast, rd2i]
    rw [raw, seg_is v (i := l) (by omega) _ (by omega) (by omega) (by omega)]
    rfl
end Go.Proofs.Ytagfanbodglplaa
