/- The law ControlBounded. -/
import Derived.Test.YtbaepacihkgalaaCtl9
import Derived.Test.YtbaepacihkgalaaCtlW
import Derived.Test.YtbaepacihkgalaaRMod
import Derived.Test.YtbaepacihkgalaaLControlBounded
import Derived.Test.YtbaepacihkgalaaGo
namespace Go.Proofs.Ytbaepacihkgalaa
open Go Go.Lite
set_option linter.unusedVariables false
set_option linter.unusedSimpArgs false
set_option maxRecDepth 100000
set_option maxHeartbeats 100000000
-- @simp rdi rd6i rd2i

/-- The events of drift that the law draws. -/
def bdE (d : Int) (dr : List (Int × Int)) (i : Nat) : Ev := (1 + 7 * (i : Int), 0, 0, 0, (dr.getD i (0, 0)).1 % (2 * d + 1) - d, (dr.getD i (0, 0)).2 % (2 * d + 1) - d)
theorem bdE_ok {d : Int} {dr : List (Int × Int)} (hd : 0 ≤ d ∧ d ≤ 16) (i : Nat) (hi : i < 20) : DrE d (bdE d dr i) ∧ evE (bdE d dr i) 1 1 = 0 := by
  have b : ∀ z : Int, 0 ≤ z % (2 * d + 1) ∧ z % (2 * d + 1) < 2 * d + 1 := fun z => ⟨Int.emod_nonneg _ (by omega), Int.emod_lt_of_pos _ (by omega)⟩
  have b1 := b (dr.getD i (0, 0)).1
  have b2 := b (dr.getD i (0, 0)).2
  unfold bdE
  generalize (dr.getD i (0, 0)).1 % (2 * d + 1) = a1 at *
  generalize (dr.getD i (0, 0)).2 % (2 * d + 1) = a2 at *
  refine ⟨⟨rfl, rfl, by dsimp only; omega, by dsimp only; omega⟩, ?_⟩
  unfold evE
  rw [if_neg (by dsimp only; omega), if_neg (Decidable.not_not.2 (by dsimp only; unfold frmK; omega)), if_neg (Decidable.not_not.2 (by dsimp only; unfold inK; simp [lowK, topK]; omega))]
def bdL (d : Int) (dr : List (Int × Int)) (m : Nat) : List Ev := tab m (bdE d dr)
theorem bdL_all {d : Int} {dr : List (Int × Int)} {m : Nat} (hd : 0 ≤ d ∧ d ≤ 16) (hm : m ≤ 20) : ∀ v ∈ bdL d dr m, DrE d v ∧ evE v 1 1 = 0 := fun v hv => by
  unfold bdL tab at hv
  obtain ⟨i, hi, rfl⟩ := List.mem_map.1 hv
  exact bdE_ok hd i (by have := List.mem_range.1 hi; omega)
theorem bdL_succ {d : Int} {dr : List (Int × Int)} {m : Nat} : bdL d dr (m + 1) = bdL d dr m ++ [bdE d dr m] := tab_succ
theorem bdL_sc {d : Int} {dr : List (Int × Int)} {m : Nat} (hd : 0 ≤ d ∧ d ≤ 16) (hm : m ≤ 20) : scE (bdL d dr m) ((1 : Nat) : Int) ((litS.Z : Nat) : Int) = 0 := by
  have hl : (bdL d dr m).length = m := tab_len
  unfold scE
  rw [if_neg (by omega)]
  refine fstE_zero.2 fun i hi => ?_
  have g : ∀ i, i < m → (bdL d dr m).getD i dEv = bdE d dr i := fun i hi => tab_get hi
  unfold scI
  rw [g i (by omega), if_neg (fun h => h (bdE_ok hd i (by omega)).2)]
  by_cases h0 : 0 < i
  · rw [g (i - 1) (by omega), if_neg]
    show ¬ (0 < i ∧ 1 + 7 * (i : Int) < 1 + 7 * ((i - 1 : Nat) : Int))
    omega
  · rw [if_neg (fun h => h0 h.1)]
theorem ControlBounded_law (ci cr d : Int) (dr : List (Int × Int)) (n : Int) (wi : rng .i64 ci) (wr : rng .i64 cr) (wd : rng .i64 d) (wl : dr.length ≤ 9223372036854775807 ∧ ∀ y ∈ dr, W2i y) (wn : rng .i64 n) :
    TC R Try.prog K2_ControlBounded_f [.agg [.int .i64 ci, .int .i64 cr], .int .i64 d, .lst E2i dr, .int .i64 n] [] (fun v X => v = .bool true ∧ X = []) := by
  have md := rMod_c d 17 (by dsimp only [Due]; simp only [rng] at wd; omega)
  have mn := rMod_c n 300 (by dsimp only [Due]; simp only [rng] at wn; omega)
  have mi := rMod_c ci 4000 (by dsimp only [Due]; simp only [rng] at wi; omega)
  obtain ⟨D, eD⟩ : ∃ D, d % 17 = D := ⟨_, rfl⟩
  obtain ⟨N, eN⟩ : ∃ N : Nat, n % 300 = N := ⟨(n % 300).toNat, by omega⟩
  obtain ⟨I, eI⟩ : ∃ I, ci % 4000 = I := ⟨_, rfl⟩
  have hD : 0 ≤ D ∧ D ≤ 16 := by omega
  have hN : N < 300 := by omega
  have hI : 0 ≤ I ∧ I < 4000 := by omega
  rw [eD] at md
  rw [eN] at mn
  rw [eI] at mi
  have bc := bound_c (1 + I) cr D (by dsimp only [Due]; omega) wr
  rw [if_neg (show ¬ (D < 0 ∨ 16 < D) by omega)] at bc
  refine tc0 env K2_ControlBounded_s (by rfl) ?_
  dsimp only [K2_ControlBounded_c]
  by_cases hr : cr < 1 ∨ 4000 < cr
  · have h0 : ctlE (1 + I) cr = 3 := if_pos (by omega)
    rw [h0] at bc
    repeat' (first
      | ((with_reducible refine TOps.any ?_); refine TOps.callV env (by rfl) (by rfl) (by rfl) (controlWorks_c) ?_)
      | ((with_reducible refine TOps.any ?_); refine TOps.callV env (by rfl) (by rfl) (by rfl) (md) ?_)
      | ((with_reducible refine TOps.any ?_); refine TOps.callV env (by rfl) (by rfl) (by rfl) (mn) ?_)
      | ((with_reducible refine TOps.any ?_); refine TOps.callV env (by rfl) (by rfl) (by rfl) (mi) ?_)
      | ((with_reducible refine TOps.any ?_); refine TOps.callV env (by rfl) (by rfl) (by rfl) (bc) ?_)
      | refine GZp_i_6i_2i ?_ ?_ ?_ ?_ ?_ ?_ ?_ ?_
      | with_reducible first | exact BzZq.mk | refine Tw.ret ?_ | refine ImZq.i fun h => ?_ | refine IkZq.i fun hk => ?_)
    exact ⟨rfl, rfl, rfl⟩
  have h0 : ctlE (1 + I) cr = 0 := if_neg (by omega)
  rw [h0, if_neg (by omega)] at bc
  obtain ⟨C, rfl⟩ : ∃ C : Nat, cr = C := ⟨cr.toNat, by omega⟩
  have hDC : 0 ≤ D * (C : Int) := Int.mul_nonneg (by omega) (by omega)
  obtain ⟨dt, edt⟩ : ∃ dt, dt = List.take (min (dr.length : Int) 20).toNat dr := ⟨_, rfl⟩
  obtain ⟨m, em⟩ : ∃ m : Nat, m = dt.length := ⟨_, rfl⟩
  have hm : m ≤ 20 := by rw [em, edt, List.length_take]; omega
  have wdt : ∀ i, i < m → rng .i64 (dt.getD i (0, 0)).1 ∧ rng .i64 (dt.getD i (0, 0)).2 := fun i hi => by
    have h := wl.2 (dt.getD i (0, 0)) (List.mem_of_mem_take (by rw [← edt]; exact getD_mem (by omega)))
    exact h
  have lc := loop_c litS 1 (1 + I) C (bdL D dt m) N litS_ok litS_chk h0 (bdL_sc hD hm) (by rw [show (bdL D dt m).length = m from tab_len]; omega) (by dsimp only [Due]; omega)
  have rc := fun k (hk : k < N) => bd_rec (S := litS) (ci := 1 + I) (cr := C) (l := bdL D dt m) hD.1 (by omega) (fun v hv => (bdL_all hD hm v hv).1) (n := N) hk
  have lL : (lpL litS 1 (newCt litS (1 + I) C) (bdL D dt m) N).length = N := tab_len
  obtain ⟨B, eB⟩ : ∃ B, B = min 1000 (D * (C : Int)) := ⟨_, rfl⟩
  rw [← eB] at bc rc
  have hB : 0 ≤ B ∧ B ≤ 1000 := by omega
  obtain ⟨L, eL⟩ : ∃ L, L = lpL litS 1 (newCt litS (1 + I) C) (bdL D dt m) N := ⟨_, rfl⟩
  rw [← eL] at lc rc lL
  obtain ⟨T, eT⟩ : ∃ T : Nat → List Ev, T = fun i => bdL D dt i := ⟨_, rfl⟩
  repeat' (first
    | ((with_reducible refine TOps.any ?_); refine TOps.callV env (by rfl) (by rfl) (by rfl) (controlWorks_c) ?_)
    | ((with_reducible refine TOps.any ?_); refine TOps.callV env (by rfl) (by rfl) (by rfl) (md) ?_)
    | ((with_reducible refine TOps.any ?_); refine TOps.callV env (by rfl) (by rfl) (by rfl) (mn) ?_)
    | ((with_reducible refine TOps.any ?_); refine TOps.callV env (by rfl) (by rfl) (by rfl) (mi) ?_)
    | ((with_reducible refine TOps.any ?_); refine TOps.callV env (by rfl) (by rfl) (by rfl) (bc) ?_)
    | ((with_reducible refine TOps.any ?_); refine TOps.callV env (by rfl) (by rfl) (by rfl) (little_c) ?_)
    | refine GZp_i_6i_2i ?_ ?_ ?_ ?_ ?_ ?_ ?_ ?_
    | with_reducible first | exact BzZq.mk | refine Tw.ret ?_ | refine ImZq.i fun h => ?_ | refine IkZq.i fun hk => ?_)
  have wi : ∀ a b c : Int, TC R Try.prog R2_Within_f [.int .i64 a, .int .i64 b, .int .i64 c] [] (fun v X => v = .bool (decide (b ≤ a) && decide (a ≤ c)) ∧ X = []) := fun a b c => by
    refine tc0 env R2_Within_s (by rfl) ?_
    dsimp only [R2_Within_c]
    repeat' (first
      | refine GZp_i_6i_2i ?_ ?_ ?_ ?_ ?_ ?_ ?_ ?_
      | with_reducible first | exact BzZq.mk | refine Tw.ret ?_ | refine ImZq.i fun h => ?_ | refine IkZq.i fun hk => ?_)
    all_goals exact ⟨rfl, rfl, rfl⟩
  rw [← edt, ← em]
  have T0 : T 0 = [] := by rw [eT]; rfl
  have TS : ∀ i, T (i + 1) = T i ++ [bdE D dt i] := fun i => by rw [eT]; exact bdL_succ
  have Tl : ∀ i, (T i).length = i := fun i => by rw [eT]; exact tab_len
  have Tm : T m = bdL D dt m := by rw [eT]
  rw [← Tm] at lc
  clear eT eL eB bc md mn mi edt h wl wn wd hDC
  refine Tw.loopK [1, 3, 4, 9, 11, 57] (fun i : Nat => i ≤ m) (fun i => m - i) (fun i => [(59, .int .i64 i), (58, .int .i64 m), (12, .sla 6 2 0 i)]) (fun i => [some (.cells [.int .i64 (1 + I), .int .i64 (C : Int)]), some (.cells [.int .i64 (1 : Int), .int .i64 (0 : Int), .int .i64 (5 : Int), .int .i64 (100 : Int), .lst Ei [(8000 : Int)], .lst ELiJ [[(500 : Int)]], .lst ELiJ [[(0 : Int)]]]), some (.arr E6i (T i))]) ⟨0, by omega, TWk.fcanon env [some 0, some 1, none] (by rfl) ?_⟩ (fun i hi => ?_)
  · repeat' (first
      | exact T0
      | refine GZ_i_6i_2i ?_ ?_ ?_ ?_ ?_ ?_ ?_ ?_
      | with_reducible first | exact BzZq.mk | refine Tw.ret ?_ | refine ImZq.i fun h => ?_ | refine IkZq.i fun hk => ?_)
  rcases Nat.lt_or_ge i m with hi | hi
  · obtain ⟨wx, wy⟩ := wdt i hi
    have mx := rMod_c (dt.getD i (0, 0)).1 (2 * D + 1) (by dsimp only [Due]; simp only [rng] at wx; omega)
    have my := rMod_c (dt.getD i (0, 0)).2 (2 * D + 1) (by dsimp only [Due]; simp only [rng] at wy; omega)
    have bx : 0 ≤ (dt.getD i (0, 0)).1 % (2 * D + 1) ∧ (dt.getD i (0, 0)).1 % (2 * D + 1) < 33 := ⟨Int.emod_nonneg _ (by omega), by have := Int.emod_lt_of_pos (dt.getD i (0, 0)).1 (show 0 < 2 * D + 1 by omega); omega⟩
    have by' : 0 ≤ (dt.getD i (0, 0)).2 % (2 * D + 1) ∧ (dt.getD i (0, 0)).2 % (2 * D + 1) < 33 := ⟨Int.emod_nonneg _ (by omega), by have := Int.emod_lt_of_pos (dt.getD i (0, 0)).2 (show 0 < 2 * D + 1 by omega); omega⟩
    have e3 : T (i + 1) = cut (T i) 0 i ++ cut [(1 + 7 * (i : Int), (0 : Int), (0 : Int), (0 : Int), (dt.getD i (0, 0)).1 % (2 * D + 1) - D, (dt.getD i (0, 0)).2 % (2 * D + 1) - D)] 0 1 := by rw [cut_all (Tl i).symm, TS]; rfl
    have tl := Tl i
    clear lc rc TS
    repeat' (first
      | ((with_reducible refine TDr.any ?_); refine TDr.callE env (by first | rfl | assumption) (by rfl) (by rfl) ?_ (mx) (by rfl) (by rfl) ?_)
      | ((with_reducible refine TDr.any ?_); refine TDr.callE env (by first | rfl | assumption) (by rfl) (by rfl) ?_ (my) (by rfl) (by rfl) ?_)
      | refine GZy_i_6i_2i tl ?_ ?_ ?_ ?_ ?_ ?_ ?_ ?_
      | with_reducible first | exact BzZq.mk | refine Tw.ret ?_ | refine ImZq.i fun h => ?_ | refine IkZq.i fun hk => ?_)
    refine ⟨i + 1, by omega, by omega, TWk.fcanon env [some 0, some 1, some 5] (by rfl) ?_⟩
    repeat' (first
      | exact e3
      | refine GZ_i_6i_2i ?_ ?_ ?_ ?_ ?_ ?_ ?_ ?_
      | with_reducible first | exact BzZq.mk | refine Tw.ret ?_ | refine ImZq.i fun h => ?_ | refine IkZq.i fun hk => ?_)
  · obtain rfl : m = i := by omega
    have tm := Tl m
    refine Tw.frz env 2 (by rfl) (by rfl) (by rfl) ?_ ?_ ?_
    · repeat' (first
        | refine GZx_i_6i_2i tm ?_ ?_ ?_ ?_ ?_ ?_ ?_ ?_
        | with_reducible first | exact BzZq.mk | refine Tw.ret ?_ | refine ImZq.i fun h => ?_ | refine IkZq.i fun hk => ?_)
    · repeat' (first
        | refine GZx_i_6i_2i tm ?_ ?_ ?_ ?_ ?_ ?_ ?_ ?_
        | with_reducible first | exact BzZq.mk | refine Tw.ret ?_ | refine ImZq.i fun h => ?_ | refine IkZq.i fun hk => ?_)
    rw [cut_all (Tl m).symm]
    repeat' (first
      | ((with_reducible refine TOps.any ?_); refine TOps.callV env (by rfl) (by rfl) (by rfl) (lc) ?_)
      | refine GZy_i_6i_2i lL ?_ ?_ ?_ ?_ ?_ ?_ ?_ ?_
      | with_reducible first | exact BzZq.mk | refine Tw.ret ?_ | refine ImZq.i fun h => ?_ | refine IkZq.i fun hk => ?_)
    refine Tw.loopK [9, 104] (fun k : Nat => k ≤ N) (fun k => N - k) (fun k => [(106, .int .i64 k), (105, .int .i64 N)]) (fun _ => []) ⟨0, by omega, TWk.fcanon env [] (by rfl) ?_⟩ (fun k hk => ?_)
    · repeat' (first
        | refine GZx_i_6i_2i lL ?_ ?_ ?_ ?_ ?_ ?_ ?_ ?_
        | with_reducible first | exact BzZq.mk | refine Tw.ret ?_ | refine ImZq.i fun h => ?_ | refine IkZq.i fun hk => ?_)
    rcases Nat.lt_or_ge k N with hk | hk
    · obtain ⟨x, y, e, hx, hy⟩ := rc k hk
      obtain ⟨a, st, sh, fm, dd, e1⟩ : ∃ a st sh fm dr, L.getD k (0, 0, [], [], 0) = (a, st, sh, fm, dr) := ⟨_, _, _, _, _, rfl⟩
      rw [e1] at e
      dsimp only at e
      rw [e] at e1
      have e2 : L.getD k (R.d E2iL2iJLLiJJi) = (a, st, [(x, y)], fm, dd) := e1
      have w1 := wi ((L.getD k (R.d E2iL2iJLLiJJi)).2.2.1.getD 0 (R.d E2i)).1 (-B) B
      have w2 := wi ((L.getD k (R.d E2iL2iJLLiJJi)).2.2.1.getD 0 (R.d E2i)).2 (-B) B
      have ex : ((L.getD k (R.d E2iL2iJLLiJJi)).2.2.1.getD 0 (R.d E2i)).1 = x := by rw [e2]; rfl
      have ey : ((L.getD k (R.d E2iL2iJLLiJJi)).2.2.1.getD 0 (R.d E2i)).2 = y := by rw [e2]; rfl
      rw [decide_eq_true (by rw [ex]; exact hx.1), decide_eq_true (by rw [ex]; exact hx.2)] at w1
      rw [decide_eq_true (by rw [ey]; exact hy.1), decide_eq_true (by rw [ey]; exact hy.2)] at w2
      clear rc lc ex ey
      repeat' (first
        | ((with_reducible refine TOps.any ?_); refine TOps.callE env (by rfl) (by rfl) (by rfl) ?_ (w1) (by rfl) ?_)
        | ((with_reducible refine TOps.any ?_); refine TOps.callE env (by rfl) (by rfl) (by rfl) ?_ (w2) (by rfl) ?_)
        | refine GZy_i_6i_2i e2 ?_ ?_ ?_ ?_ ?_ ?_ ?_ ?_
        | with_reducible first | exact BzZq.mk | refine Tw.ret ?_ | refine ImZq.i fun h => ?_ | refine IkZq.i fun hk => ?_)
      refine ⟨k + 1, by omega, by omega, TWk.fcanon env [] (by rfl) ?_⟩
      repeat' (first
        | refine GZ_i_6i_2i ?_ ?_ ?_ ?_ ?_ ?_ ?_ ?_
        | with_reducible first | exact BzZq.mk | refine Tw.ret ?_ | refine ImZq.i fun h => ?_ | refine IkZq.i fun hk => ?_)
    · obtain rfl : N = k := by omega
      repeat' (first
        | refine GZp_i_6i_2i ?_ ?_ ?_ ?_ ?_ ?_ ?_ ?_
        | with_reducible first | exact BzZq.mk | refine Tw.ret ?_ | refine ImZq.i fun h => ?_ | refine IkZq.i fun hk => ?_)
      exact ⟨rfl, rfl, rfl⟩
end Go.Proofs.Ytbaepacihkgalaa
