/- Strips: Layout. -/
import Derived.Test.YthkilkjngincpaaStrip3
import Derived.Test.YthkilkjngincpaaGo
namespace Go.Proofs.Ythkilkjngincpaa
open Go Go.Lite
set_option linter.unusedVariables false
set_option linter.unusedSimpArgs false
set_option maxRecDepth 100000
set_option maxHeartbeats 4000000
-- @simp rdi rd5i rdy

theorem layoutG_c (U Z W : Nat) (hU : Due (1 ≤ U ∧ U ≤ 8)) (hZ : Due (1 ≤ Z ∧ Z ≤ 16)) (hW : Due (1 ≤ W ∧ W ≤ 1024))  :
    TC R Try.prog strip_Layout_f [.int .i64 U, .int .i64 Z, .int .i64 W] [] (fun v X => X = [] ∧ ((∀ z, z < Z → 2 ≤ zoneW U Z W z) → v = .tup [.lst E5i (tab (2 * U * Z) (patch U Z W)), .int .i64 0]) ∧ ((∃ z, z < Z ∧ zoneW U Z W z < 2) → v = .tup [.nils, .int .i64 19])) := by
  dsimp only [Due] at hU hZ hW
  refine tc0 env strip_Layout_s (by rfl) ?_
  dsimp only [strip_Layout_c]
  repeat' (first
    | refine GZp_i_5i_y ?_ ?_ ?_ ?_ ?_ ?_ ?_ ?_
    | with_reducible first | exact BzZq.mk | refine Tw.ret ?_ | refine ImZq.i fun h => ?_ | refine IkZq.i fun hk => ?_)
  refine Tw.loopK [0, 1, 2, 36] (fun z : Nat => z ≤ Z ∧ ∀ q, q < z → 2 ≤ zoneW U Z W q) (fun z => Z - z) (fun z => [(37, .int .i64 z), (8, .sla 5 0 0 (2 * U * z))])
    (fun z => [some (.arr E5i (tab (2 * U * z) (patch U Z W)))]) ⟨0, ⟨Nat.zero_le _, fun q hq => absurd hq (by omega)⟩, TWk.fcanon env [none] (by rfl) ?_⟩ (fun z ⟨hz, hq⟩ => ?_)
  · repeat' (first
      | refine GZ_i_5i_y ?_ ?_ ?_ ?_ ?_ ?_ ?_ ?_
      | with_reducible first | exact BzZq.mk | refine Tw.ret ?_ | refine ImZq.i fun h => ?_ | refine IkZq.i fun hk => ?_)
  rcases Nat.lt_or_ge z Z with hz | hz
  · have zw : z * W ≤ 16 * 1024 := Nat.mul_le_mul (by omega) (by omega)
    have zw1 : (z + 1) * W ≤ 16 * 1024 := Nat.mul_le_mul (by omega) (by omega)
    have e1 : (z : Int) * (W : Int) = ((z * W : Nat) : Int) := by simp
    have e2 : ((z : Int) + 1) * (W : Int) = (((z + 1) * W : Nat) : Int) := by simp
    have q1 : quo ((z : Int) * (W : Int)) (Z : Int) = (zoneX Z W z : Int) := by rw [e1, quo_nn (by omega)]; unfold zoneX; simp
    have q2 : quo (((z : Int) + 1) * (W : Int)) (Z : Int) = (zoneX Z W (z + 1) : Int) := by rw [e2, quo_nn (by omega)]; unfold zoneX; simp
    have zl := zone_le (Z := Z) (W := W) (z := z)
    have ze := zone_end (Z := Z) (W := W) (z := z + 1) (by omega) (by omega)
    have e3 : 2 * (U : Int) = ((2 * U : Nat) : Int) := by simp
    have q3 : quo ((zoneX Z W (z + 1) : Int) - (zoneX Z W z : Int)) (2 * (U : Int)) = (zoneW U Z W z : Int) := by
      rw [show (zoneX Z W (z + 1) : Int) - (zoneX Z W z : Int) = ((zoneX Z W (z + 1) - zoneX Z W z : Nat) : Int) by omega, e3, quo_nn (by omega)]
      unfold zoneW zoneX; simp
    have fit := zone_fit (U := U) (Z := Z) (W := W) (z := z) (Nat.le_refl (2 * U))
    have vle : zoneW U Z W z ≤ 2 * U * zoneW U Z W z := Nat.le_mul_of_pos_left _ (by omega)
    have d1 : -9223372036854775808 ≤ (z : Int) * (W : Int) ∧ (z : Int) * (W : Int) ≤ 9223372036854775807 := by rw [e1]; omega
    have d2 : -9223372036854775808 ≤ ((z : Int) + 1) * (W : Int) ∧ ((z : Int) + 1) * (W : Int) ≤ 9223372036854775807 := by rw [e2]; omega
    have d3 : rng .i64 (quo ((z : Int) * (W : Int)) (Z : Int)) := by rw [q1]; simp only [rng]; omega
    have d4 : rng .i64 (quo (((z : Int) + 1) * (W : Int)) (Z : Int)) := by rw [q2]; simp only [rng]; omega
    have d5 : rng .i64 (quo ((zoneX Z W (z + 1) : Int) - (zoneX Z W z : Int)) (2 * (U : Int))) := by rw [q3]; simp only [rng]; omega
    rcases Nat.lt_or_ge (zoneW U Z W z) 2 with hwz | hwz
    · have hw0 : (zoneW U Z W z : Int) < 2 := by omega
      repeat' (first
        | exact d1
        | exact d2
        | exact d3
        | exact d4
        | exact d5
        | refine GZy_i_5i_y (And.intro q1 (And.intro q2 (And.intro q3 hw0))) ?_ ?_ ?_ ?_ ?_ ?_ ?_ ?_
        | with_reducible first | exact BzZq.mk | refine Tw.ret ?_ | refine ImZq.i fun h => ?_ | refine IkZq.i fun hk => ?_)
      exact ⟨rfl, rfl, fun a => absurd (a z hz) (by omega), fun _ => rfl⟩
    have hw0 : ¬ ((zoneW U Z W z : Int) < 2) := by omega
    repeat' (first
      | exact d1
      | exact d2
      | exact d3
      | exact d4
      | exact d5
      | refine GZy_i_5i_y (And.intro q1 (And.intro q2 (And.intro q3 hw0))) ?_ ?_ ?_ ?_ ?_ ?_ ?_ ?_
      | with_reducible first | exact BzZq.mk | refine Tw.ret ?_ | refine ImZq.i fun h => ?_ | refine IkZq.i fun hk => ?_)
    rw [q1, q2, q3]
    have pt : ∀ k, k < 2 * U → patch U Z W (2 * U * z + k) = ((zoneX Z W z : Int) + (k : Int) * (zoneW U Z W z : Int), (zoneW U Z W z : Int), rem (k : Int) 2, quo (k : Int) 2, (z : Int)) := by
      intro k hk
      have p1 : (2 * U * z + k) / (2 * U) = z := by rw [Nat.mul_add_div (by omega), Nat.div_eq_of_lt hk]; rfl
      have p2 : (2 * U * z + k) % (2 * U) = k := by rw [Nat.mul_add_mod, Nat.mod_eq_of_lt hk]
      unfold patch
      rw [p1, p2, rem_nn (by omega), quo_nn (by omega)]
      simp
    have zz : 2 * U * z ≤ 256 := Nat.le_trans (Nat.mul_le_mul_left (2 * U) (show z ≤ 16 by omega)) (by omega)
    refine Tw.loopK [0, 1, 2, 36, 37, 9, 10, 12, 60] (fun k : Nat => k ≤ 2 * U) (fun k => 2 * U - k) (fun k => [(61, .int .i64 k), (8, .sla 5 0 0 (2 * U * z + k))])
      (fun k => [some (.arr E5i (tab (2 * U * z + k) (patch U Z W)))]) ⟨0, Nat.zero_le _, TWk.fcanon env [some 0] (by rfl) ?_⟩ (fun k hk => ?_)
    · repeat' (first
        | refine GZ_i_5i_y ?_ ?_ ?_ ?_ ?_ ?_ ?_ ?_
        | with_reducible first | exact BzZq.mk | refine Tw.ret ?_ | refine ImZq.i fun h => ?_ | refine IkZq.i fun hk => ?_)
    rcases Nat.lt_or_ge k (2 * U) with hk | hk
    · have kv : k * zoneW U Z W z ≤ 2 * U * zoneW U Z W z := Nat.mul_le_mul_right _ (by omega)
      have f1 : (k : Int) * (zoneW U Z W z : Int) = ((k * zoneW U Z W z : Nat) : Int) := by simp
      have f2 : -9223372036854775808 ≤ (k : Int) * (zoneW U Z W z : Int) ∧ (k : Int) * (zoneW U Z W z : Int) ≤ 9223372036854775807 := by rw [f1]; omega
      have f3 : -9223372036854775808 ≤ (zoneX Z W z : Int) + (k : Int) * (zoneW U Z W z : Int) ∧ (zoneX Z W z : Int) + (k : Int) * (zoneW U Z W z : Int) ≤ 9223372036854775807 := by rw [f1]; omega
      have pk := pt k hk
      have f4 : rng .i64 (quo (k : Int) 2) := by rw [quo_nn (by omega)]; simp only [rng]; omega
      have tl : (tab (2 * U * z + k) (patch U Z W)).length = 2 * U * z + k := tab_len
      have r : tab (2 * U * z + (k + 1)) (patch U Z W) = cut (tab (2 * U * z + k) (patch U Z W)) 0 (2 * U * z + k) ++ cut [((zoneX Z W z : Int) + (k : Int) * (zoneW U Z W z : Int), (zoneW U Z W z : Int), rem (k : Int) 2, quo (k : Int) 2, (z : Int))] 0 1 := by
        rw [cut_tab, ← Nat.add_assoc, tab_succ, pk]; rfl
      repeat' (first
        | exact f2
        | exact f3
        | exact f4
        | refine GZy_i_5i_y tl ?_ ?_ ?_ ?_ ?_ ?_ ?_ ?_
        | with_reducible first | exact BzZq.mk | refine Tw.ret ?_ | refine ImZq.i fun h => ?_ | refine IkZq.i fun hk => ?_)
      refine ⟨k + 1, by omega, by omega, TWk.fcanon env [some 2] (by rfl) ?_⟩
      repeat' (first
        | exact r.symm
        | refine GZ_i_5i_y ?_ ?_ ?_ ?_ ?_ ?_ ?_ ?_
        | with_reducible first | exact BzZq.mk | refine Tw.ret ?_ | refine ImZq.i fun h => ?_ | refine IkZq.i fun hk => ?_)
    · obtain rfl : k = 2 * U := by omega
      repeat' (first
        | refine GZp_i_5i_y ?_ ?_ ?_ ?_ ?_ ?_ ?_ ?_
        | with_reducible first | exact BzZq.mk | refine Tw.ret ?_ | refine ImZq.i fun h => ?_ | refine IkZq.i fun hk => ?_)
      refine ⟨z + 1, ⟨by omega, fun q h => by rcases Nat.lt_or_ge q z with h | h; exact hq q h; rw [show q = z by omega]; exact hwz⟩, by omega, TWk.fcanon env [some 0] (by rfl) ?_⟩
      repeat' (first
        | refine GZ_i_5i_y ?_ ?_ ?_ ?_ ?_ ?_ ?_ ?_
        | with_reducible first | exact BzZq.mk | refine Tw.ret ?_ | refine ImZq.i fun h => ?_ | refine IkZq.i fun hk => ?_)
  · obtain rfl : z = Z := by omega
    have tl : (tab (2 * U * z) (patch U z W)).length = 2 * U * z := tab_len
    have ct : cut (tab (2 * U * z) (patch U z W)) 0 (2 * U * z) = tab (2 * U * z) (patch U z W) := cut_tab
    repeat' (first
      | ((with_reducible refine Tw.retI ?_); refine Tw.frz env 0 (by rfl) (by rfl) (by rfl) ?_ ?_ (Tw.ret ?_))
      | refine GZy_i_5i_y tl ?_ ?_ ?_ ?_ ?_ ?_ ?_ ?_
      | with_reducible first | exact BzZq.mk | refine Tw.ret ?_ | refine ImZq.i fun h => ?_ | refine IkZq.i fun hk => ?_)
    exact ⟨rfl, rfl, fun _ => by rw [ct], fun ⟨q, h, b⟩ => absurd (hq q h) (by omega)⟩
theorem layout_c (U Z W : Nat) (hU : Due (1 ≤ U ∧ U ≤ 8)) (hZ : Due (1 ≤ Z ∧ Z ≤ 16)) (hW : Due (1 ≤ W ∧ W ≤ 1024)) (hw : ∀ z, z < Z → 2 ≤ zoneW U Z W z) :
    TC R Try.prog strip_Layout_f [.int .i64 U, .int .i64 Z, .int .i64 W] [] (fun v X => v = .tup [.lst E5i (tab (2 * U * Z) (patch U Z W)), .int .i64 0] ∧ X = []) :=
  (layoutG_c U Z W hU hZ hW).mono fun v X h => ⟨h.2.1 hw, h.1⟩
theorem layoutN_c (U Z W : Nat) (hU : Due (1 ≤ U ∧ U ≤ 8)) (hZ : Due (1 ≤ Z ∧ Z ≤ 16)) (hW : Due (1 ≤ W ∧ W ≤ 1024)) (hw : ∃ z, z < Z ∧ zoneW U Z W z < 2) :
    TC R Try.prog strip_Layout_f [.int .i64 U, .int .i64 Z, .int .i64 W] [] (fun v X => v = .tup [.nils, .int .i64 19] ∧ X = []) :=
  (layoutG_c U Z W hU hZ hW).mono fun v X h => ⟨h.2.2 hw, h.1⟩
/-- A zone is too narrow only where the sheet is. -/
theorem narrow {U Z W z : Nat} (hU : 1 ≤ U) (hZ : 0 < Z) (h : zoneW U Z W z < 2) : W / Z < 4 * U := by
  unfold zoneW at h
  have h1 : (z + 1) * W / Z - z * W / Z < 2 * (2 * U) := (Nat.div_lt_iff_lt_mul (by omega)).mp h
  have h2 : z * W / Z + W / Z ≤ (z + 1) * W / Z := by
    rw [Nat.add_mul, Nat.one_mul]
    rw [Nat.le_div_iff_mul_le hZ, Nat.add_mul]
    exact Nat.add_le_add (Nat.div_mul_le_self _ _) (Nat.div_mul_le_self _ _)
  omega
end Go.Proofs.Ythkilkjngincpaa
