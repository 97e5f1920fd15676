/- The reference's SameRecords, on one list twice. -/
import Derived.Test.YtbaepacihkgalaaX0
import Derived.Test.YtbaepacihkgalaaGo
import Derived.Test.YtbaepacihkgalaaCtl4
namespace Go.Proofs.Ytbaepacihkgalaa
open Go Go.Lite
set_option linter.unusedVariables false
set_option linter.unusedSimpArgs false
set_option maxRecDepth 100000
set_option maxHeartbeats 4000000

theorem rFloor_c (n d : Int) (h : Due (1 ≤ d ∧ d ≤ 9223372036854775807 ∧ -9223372036854775808 ≤ n ∧ n ≤ 9223372036854775807)) : TC R Try.prog R2_Floor_f [.int .i64 n, .int .i64 d] [] (fun v X => v = .int .i64 (n / d) ∧ X = []) := by
  dsimp only [Due] at h
  have hd : 0 < d := by omega
  have hq := quo_bd (a := n) hd
  have hr := quo_rem n d
  have hb := rem_bd (a := n) hd
  have hc : quo n d * d = d * quo n d := Int.mul_comm _ _
  have hf : rem n d < 0 → -9223372036854775808 ≤ quo n d - 1 := fun h1 => by
    rw [quo_fl1 hd h1]
    have h2 : d * (n / d) + n % d = n := Int.mul_ediv_add_emod n d
    have h3 := Int.emod_nonneg n (show d ≠ 0 by omega)
    have h4 := Int.emod_lt_of_pos n hd
    by_cases e : d = 1
    · subst e; omega
    · rcases Int.lt_or_le (n / d) (-9223372036854775808) with h5 | h5
      · have : d * (n / d) ≤ 2 * (n / d) := by
          have := Int.mul_le_mul_of_nonneg_right (show (2 : Int) ≤ d by omega) (show 0 ≤ -(n / d) by omega)
          rw [Int.mul_neg, Int.mul_neg] at this
          omega
        omega
      · exact h5
  refine tc0 env R2_Floor_s (by rfl) ?_
  dsimp only [R2_Floor_c]
  repeat' (first
    | refine GZ ?_ ?_ ?_ ?_ ?_ ?_ ?_ ?_
    | with_reducible first | exact BzZq.mk | refine Tw.ret ?_ | refine ImZq.i fun h => ?_ | refine IkZq.i fun hk => ?_)
  · exact ⟨rfl, by rw [quo_fl1 hd (by omega)], rfl⟩
  · exact ⟨rfl, by rw [quo_fl hd (by omega)], rfl⟩

/-- The remainder, for every number. -/
theorem rMod_c (n m : Int) (h : Due (1 ≤ m ∧ m ≤ 9223372036854775807 ∧ -9223372036854775808 ≤ n ∧ n ≤ 9223372036854775807)) : TC R Try.prog R2_Mod_f [.int .i64 n, .int .i64 m] [] (fun v X => v = .int .i64 (n % m) ∧ X = []) := by
  dsimp only [Due] at h
  have h1 := Int.emod_nonneg n (show m ≠ 0 by omega)
  have h2 := Int.emod_lt_of_pos n (show 0 < m by omega)
  have h3 : m * (n / m) + n % m = n := Int.mul_ediv_add_emod n m
  refine tc0 env R2_Mod_s (by rfl) ?_
  dsimp only [R2_Mod_c]
  repeat' (first
    | refine GZ ?_ ?_ ?_ ?_ ?_ ?_ ?_ ?_
    | with_reducible first | exact BzZq.mk | refine Tw.ret ?_ | refine ImZq.i fun h => ?_ | refine IkZq.i fun hk => ?_)
  refine TOps.call env (by rfl) (by rfl) (by rfl) (rFloor_c _ _ h) ?_
  rintro _ _ ⟨rfl, rfl⟩
  refine TOps.wrap env (by rfl) ?_
  refine TOps.wrap env (by rfl) ?_
  rw [wrap_sub (by omega), show n - m * (n / m) = n % m by omega]
  repeat' (first
    | refine GZ ?_ ?_ ?_ ?_ ?_ ?_ ?_ ?_
    | with_reducible first | exact BzZq.mk | refine Tw.ret ?_ | refine ImZq.i fun h => ?_ | refine IkZq.i fun hk => ?_)
  exact ⟨rfl, rfl, rfl⟩
end Go.Proofs.Ytbaepacihkgalaa
namespace Go.Proofs.Ytbaepacihkgalaa
open Go Go.Lite
set_option linter.unusedVariables false
set_option linter.unusedSimpArgs false
set_option maxRecDepth 100000
set_option maxHeartbeats 4000000
-- @simp rdi rd6i rdLiJ

theorem sameInts_c (l : List Int) (hl : Due (l.length ≤ 9223372036854775807)) : TC R Try.prog R2_SameInts_f [.lst Ei l, .lst Ei l] [] (fun v X => v = .bool true ∧ X = []) := by
  dsimp only [Due] at hl
  refine tc0 env R2_SameInts_s (by rfl) ?_
  dsimp only [R2_SameInts_c]
  repeat' (first
    | refine GZp_i_6i_LiJ ?_ ?_ ?_ ?_ ?_ ?_ ?_ ?_
    | with_reducible first | exact BzZq.mk | refine Tw.ret ?_ | refine ImZq.i fun h => ?_ | refine IkZq.i fun hk => ?_)
  refine Tw.loopK [0, 1] (fun i : Nat => i ≤ l.length) (fun i => l.length - i) (fun i => [(13, .int .i64 i), (12, .int .i64 l.length)]) (fun _ => []) ⟨0, by omega, TWk.fcanon env [] (by rfl) ?_⟩ (fun i hi => ?_)
  · repeat' (first
      | refine GZ_i_6i_LiJ ?_ ?_ ?_ ?_ ?_ ?_ ?_ ?_
      | with_reducible first | exact BzZq.mk | refine Tw.ret ?_ | refine ImZq.i fun h => ?_ | refine IkZq.i fun hk => ?_)
  rcases Nat.lt_or_ge i l.length with hi | hi
  · repeat' (first
      | refine GZp_i_6i_LiJ ?_ ?_ ?_ ?_ ?_ ?_ ?_ ?_
      | with_reducible first | exact BzZq.mk | refine Tw.ret ?_ | refine ImZq.i fun h => ?_ | refine IkZq.i fun hk => ?_)
    refine ⟨i + 1, by omega, by omega, TWk.fcanon env [] (by rfl) ?_⟩
    repeat' (first
      | refine GZ_i_6i_LiJ ?_ ?_ ?_ ?_ ?_ ?_ ?_ ?_
      | with_reducible first | exact BzZq.mk | refine Tw.ret ?_ | refine ImZq.i fun h => ?_ | refine IkZq.i fun hk => ?_)
  · obtain rfl : l.length = i := by omega
    repeat' (first
      | refine GZp_i_6i_LiJ ?_ ?_ ?_ ?_ ?_ ?_ ?_ ?_
      | with_reducible first | exact BzZq.mk | refine Tw.ret ?_ | refine ImZq.i fun h => ?_ | refine IkZq.i fun hk => ?_)
    exact ⟨rfl, rfl, rfl⟩
theorem sameRec_c (L : List SRec) (hl : Due (L.length ≤ 9223372036854775807)) (h1 : ∀ i, i < L.length → (L.getD i dRec).2.2.1.length ≤ 9223372036854775807) (h2 : ∀ i, i < L.length → (L.getD i dRec).2.2.2.1.length ≤ 9223372036854775807) (h3 : ∀ i j, i < L.length → j < (L.getD i dRec).2.2.2.1.length → ((L.getD i dRec).2.2.2.1.getD j []).length ≤ 9223372036854775807) :
    TC R Try.prog R2_SameRecords_f [.lst E2iL2iJLLiJJi L, .lst E2iL2iJLLiJJi L] [] (fun v X => v = .bool true ∧ X = []) := by
  dsimp only [Due] at hl
  refine tc0 env R2_SameRecords_s (by rfl) ?_
  dsimp only [R2_SameRecords_c]
  repeat' (first
    | refine GZp_i_6i_LiJ ?_ ?_ ?_ ?_ ?_ ?_ ?_ ?_
    | with_reducible first | exact BzZq.mk | refine Tw.ret ?_ | refine ImZq.i fun h => ?_ | refine IkZq.i fun hk => ?_)
  refine Tw.loopK [0, 1] (fun i : Nat => i ≤ L.length) (fun i => L.length - i) (fun i => [(17, .int .i64 i), (16, .int .i64 L.length)]) (fun _ => []) ⟨0, by omega, TWk.fcanon env [] (by rfl) ?_⟩ (fun i hi => ?_)
  · repeat' (first
      | refine GZ_i_6i_LiJ ?_ ?_ ?_ ?_ ?_ ?_ ?_ ?_
      | with_reducible first | exact BzZq.mk | refine Tw.ret ?_ | refine ImZq.i fun h => ?_ | refine IkZq.i fun hk => ?_)
  rcases Nat.lt_or_ge i L.length with hi | hi
  · obtain ⟨a, st, sh, fm, dr, e⟩ : ∃ a st sh fm dr, L.getD i dRec = (a, st, sh, fm, dr) := ⟨_, _, _, _, _, rfl⟩
    have q1 := h1 i hi
    have q2 := h2 i hi
    have q3 := fun j => h3 i j hi
    rw [e] at q1 q2 q3
    dsimp only at q1 q2 q3
    have e2 : L.getD i (R.d E2iL2iJLLiJJi) = (a, st, sh, fm, dr) := e
    clear e h1 h2 h3
    repeat' (first
      | refine GZy_i_6i_LiJ e2 ?_ ?_ ?_ ?_ ?_ ?_ ?_ ?_
      | with_reducible first | exact BzZq.mk | refine Tw.ret ?_ | refine ImZq.i fun h => ?_ | refine IkZq.i fun hk => ?_)
    refine Tw.loopK [0, 1, 5, 6, 7, 16, 17] (fun j : Nat => j ≤ sh.length) (fun j => sh.length - j) (fun j => [(68, .int .i64 j), (67, .int .i64 sh.length)]) (fun _ => [some (.cells [.int .i64 a, .int .i64 st, .lst E2i sh, .lst ELiJ fm, .int .i64 dr]), some (.cells [.int .i64 a, .int .i64 st, .lst E2i sh, .lst ELiJ fm, .int .i64 dr])]) ⟨0, by omega, TWk.fcanon env [some 0, some 1] (by rfl) ?_⟩ (fun j hj => ?_)
    · repeat' (first
        | refine GZx_i_6i_LiJ e2 ?_ ?_ ?_ ?_ ?_ ?_ ?_ ?_
        | with_reducible first | exact BzZq.mk | refine Tw.ret ?_ | refine ImZq.i fun h => ?_ | refine IkZq.i fun hk => ?_)
    rcases Nat.lt_or_ge j sh.length with hj | hj
    · repeat' (first
        | refine GZp_i_6i_LiJ ?_ ?_ ?_ ?_ ?_ ?_ ?_ ?_
        | with_reducible first | exact BzZq.mk | refine Tw.ret ?_ | refine ImZq.i fun h => ?_ | refine IkZq.i fun hk => ?_)
      refine ⟨j + 1, by omega, by omega, TWk.fcanon env [some 0, some 1] (by rfl) ?_⟩
      repeat' (first
        | refine GZ_i_6i_LiJ ?_ ?_ ?_ ?_ ?_ ?_ ?_ ?_
        | with_reducible first | exact BzZq.mk | refine Tw.ret ?_ | refine ImZq.i fun h => ?_ | refine IkZq.i fun hk => ?_)
    · obtain rfl : sh.length = j := by omega
      repeat' (first
        | refine GZp_i_6i_LiJ ?_ ?_ ?_ ?_ ?_ ?_ ?_ ?_
        | with_reducible first | exact BzZq.mk | refine Tw.ret ?_ | refine ImZq.i fun h => ?_ | refine IkZq.i fun hk => ?_)
      refine Tw.loopK [0, 1, 5, 6, 7, 16, 17] (fun j : Nat => j ≤ fm.length) (fun j => fm.length - j) (fun j => [(86, .int .i64 j), (85, .int .i64 fm.length)]) (fun _ => [some (.cells [.int .i64 a, .int .i64 st, .lst E2i sh, .lst ELiJ fm, .int .i64 dr]), some (.cells [.int .i64 a, .int .i64 st, .lst E2i sh, .lst ELiJ fm, .int .i64 dr])]) ⟨0, by omega, TWk.fcanon env [some 0, some 1] (by rfl) ?_⟩ (fun j hj => ?_)
      · repeat' (first
          | refine GZ_i_6i_LiJ ?_ ?_ ?_ ?_ ?_ ?_ ?_ ?_
          | with_reducible first | exact BzZq.mk | refine Tw.ret ?_ | refine ImZq.i fun h => ?_ | refine IkZq.i fun hk => ?_)
      rcases Nat.lt_or_ge j fm.length with hj | hj
      · have si := sameInts_c (fm.getD j []) (q3 j hj)
        repeat' (first
          | ((with_reducible refine TDr.any ?_); refine TDr.callE env (by first | rfl | assumption) (by rfl) (by rfl) ?_ (si) (by rfl) (by rfl) ?_)
          | refine GZp_i_6i_LiJ ?_ ?_ ?_ ?_ ?_ ?_ ?_ ?_
          | with_reducible first | exact BzZq.mk | refine Tw.ret ?_ | refine ImZq.i fun h => ?_ | refine IkZq.i fun hk => ?_)
        refine ⟨j + 1, by omega, by omega, TWk.fcanon env [some 0, some 1] (by rfl) ?_⟩
        repeat' (first
          | refine GZ_i_6i_LiJ ?_ ?_ ?_ ?_ ?_ ?_ ?_ ?_
          | with_reducible first | exact BzZq.mk | refine Tw.ret ?_ | refine ImZq.i fun h => ?_ | refine IkZq.i fun hk => ?_)
      · obtain rfl : fm.length = j := by omega
        repeat' (first
          | refine GZp_i_6i_LiJ ?_ ?_ ?_ ?_ ?_ ?_ ?_ ?_
          | with_reducible first | exact BzZq.mk | refine Tw.ret ?_ | refine ImZq.i fun h => ?_ | refine IkZq.i fun hk => ?_)
        refine ⟨i + 1, by omega, by omega, TWk.fcanon env [] (by rfl) ?_⟩
        repeat' (first
          | refine GZ_i_6i_LiJ ?_ ?_ ?_ ?_ ?_ ?_ ?_ ?_
          | with_reducible first | exact BzZq.mk | refine Tw.ret ?_ | refine ImZq.i fun h => ?_ | refine IkZq.i fun hk => ?_)
  · obtain rfl : L.length = i := by omega
    repeat' (first
      | refine GZp_i_6i_LiJ ?_ ?_ ?_ ?_ ?_ ?_ ?_ ?_
      | with_reducible first | exact BzZq.mk | refine Tw.ret ?_ | refine ImZq.i fun h => ?_ | refine IkZq.i fun hk => ?_)
    exact ⟨rfl, rfl, rfl⟩
end Go.Proofs.Ytbaepacihkgalaa
