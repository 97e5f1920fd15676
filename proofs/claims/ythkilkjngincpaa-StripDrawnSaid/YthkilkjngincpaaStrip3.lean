/- The patches of a strip. -/
import Derived.Test.YthkilkjngincpaaStrip1
import Derived.Test.YthkilkjngincpaaGo
namespace Go.Proofs.Ythkilkjngincpaa
open Go Go.Lite
set_option linter.unusedVariables false
set_option linter.unusedSimpArgs false
set_option maxRecDepth 100000
set_option maxHeartbeats 4000000
-- @simp rdi rd5i

abbrev Pt := Int × Int × Int × Int × Int
abbrev dPt : Pt := (0, 0, 0, 0, 0)
/-- Patches as Check wants them. -/
structure StOk (l : List Pt) (U W : Int) : Prop where
  len : l.length ≤ 256
  u : 1 ≤ U ∧ U ≤ 8
  w : 1 ≤ W ∧ W ≤ 1024
  el : ∀ i, i < l.length → 0 ≤ (l.getD i dPt).2.2.1 ∧ (l.getD i dPt).2.2.1 ≤ 1 ∧ 0 ≤ (l.getD i dPt).2.2.2.1 ∧ (l.getD i dPt).2.2.2.1 < U ∧ 0 ≤ (l.getD i dPt).2.2.2.2 ∧ (l.getD i dPt).2.2.2.2 < 16 ∧ 1 ≤ (l.getD i dPt).2.1 ∧ (l.getD i dPt).2.1 ≤ W ∧ 0 ≤ (l.getD i dPt).1 ∧ (l.getD i dPt).1 ≤ W - (l.getD i dPt).2.1
  ord : ∀ i, i + 1 < l.length → (l.getD i dPt).1 + (l.getD i dPt).2.1 ≤ (l.getD (i + 1) dPt).1
theorem stCheck_y (l : List Pt) (U W : Int) (ok : StOk l U W) : TC R Try.prog strip_Check_f [.lst E5i l, .int .i64 U, .int .i64 W] [] (fun v X => v = .int .i64 0 ∧ X = []) := by
  have h1 := ok.len
  have h2 := ok.u
  have h3 := ok.w
  refine tc0 env strip_Check_s (by rfl) ?_
  dsimp only [strip_Check_c]
  repeat' (first
    | refine GZp_i_5i ?_ ?_ ?_ ?_ ?_ ?_ ?_ ?_
    | with_reducible first | exact BzZq.mk | refine Tw.ret ?_ | refine ImZq.i fun h => ?_ | refine IkZq.i fun hk => ?_)
  refine Tw.loopK [0, 1, 2, 26, 27] (fun i : Nat => i ≤ l.length) (fun i => l.length - i) (fun i => [(28, .int .i64 i)]) (fun _ => []) ⟨0, by omega, TWk.fcanon env [] (by rfl) ?_⟩ (fun i hi => ?_)
  · repeat' (first
      | refine GZ_i_5i ?_ ?_ ?_ ?_ ?_ ?_ ?_ ?_
      | with_reducible first | exact BzZq.mk | refine Tw.ret ?_ | refine ImZq.i fun h => ?_ | refine IkZq.i fun hk => ?_)
  rcases Nat.lt_or_ge i l.length with hi | hi
  · have he := ok.el i hi
    rcases Nat.eq_zero_or_pos i with h0 | h0
    · subst h0
      simp only [dPt] at he
      repeat' (first
        | refine GZp_i_5i ?_ ?_ ?_ ?_ ?_ ?_ ?_ ?_
        | with_reducible first | exact BzZq.mk | refine Tw.ret ?_ | refine ImZq.i fun h => ?_ | refine IkZq.i fun hk => ?_)
      refine ⟨1, by omega, by omega, TWk.fcanon env [] (by rfl) ?_⟩
      repeat' (first
        | refine GZ_i_5i ?_ ?_ ?_ ?_ ?_ ?_ ?_ ?_
        | with_reducible first | exact BzZq.mk | refine Tw.ret ?_ | refine ImZq.i fun h => ?_ | refine IkZq.i fun hk => ?_)
    · obtain ⟨j, rfl⟩ : ∃ j, i = j + 1 := ⟨i - 1, by omega⟩
      have ho := ok.ord j hi
      have hj := ok.el j (by omega)
      simp only [dPt] at he ho hj
      have ej : (((j + 1 : Nat) : Int) - 1).toNat = j := by omega
      have ej2 : ((j + 1 : Nat) : Int) = (j : Int) + 1 := by omega
      repeat' (first
        | refine GZy_i_5i ej ?_ ?_ ?_ ?_ ?_ ?_ ?_ ?_
        | with_reducible first | exact BzZq.mk | refine Tw.ret ?_ | refine ImZq.i fun h => ?_ | refine IkZq.i fun hk => ?_)
      refine ⟨j + 1 + 1, by omega, by omega, TWk.fcanon env [] (by rfl) ?_⟩
      repeat' (first
        | refine GZ_i_5i ?_ ?_ ?_ ?_ ?_ ?_ ?_ ?_
        | with_reducible first | exact BzZq.mk | refine Tw.ret ?_ | refine ImZq.i fun h => ?_ | refine IkZq.i fun hk => ?_)
  · obtain rfl : i = l.length := by omega
    repeat' (first
      | refine GZp_i_5i ?_ ?_ ?_ ?_ ?_ ?_ ?_ ?_
      | with_reducible first | exact BzZq.mk | refine Tw.ret ?_ | refine ImZq.i fun h => ?_ | refine IkZq.i fun hk => ?_)
    exact ⟨rfl, rfl, rfl⟩

/-- Where zone z begins, and how wide its patches are. -/
def zoneX (Z W z : Nat) : Nat := z * W / Z
def zoneW (U Z W z : Nat) : Nat := ((z + 1) * W / Z - z * W / Z) / (2 * U)
/-- Patch n of a strip. -/
def patch (U Z W n : Nat) : Pt := ((zoneX Z W (n / (2 * U)) + n % (2 * U) * zoneW U Z W (n / (2 * U)) : Nat), (zoneW U Z W (n / (2 * U)) : Nat), (n % (2 * U) % 2 : Nat), (n % (2 * U) / 2 : Nat), (n / (2 * U) : Nat))
theorem zone_le {Z W z : Nat} : zoneX Z W z ≤ zoneX Z W (z + 1) := Nat.div_le_div_right (Nat.mul_le_mul_right _ (by omega))
theorem zone_fit {U Z W z k : Nat} (hk : k ≤ 2 * U) : zoneX Z W z + k * zoneW U Z W z ≤ zoneX Z W (z + 1) := by
  have h1 := zone_le (Z := Z) (W := W) (z := z)
  have h2 : k * zoneW U Z W z ≤ 2 * U * zoneW U Z W z := Nat.mul_le_mul_right _ hk
  have h3 : 2 * U * zoneW U Z W z ≤ zoneX Z W (z + 1) - zoneX Z W z := Nat.mul_div_le _ _
  omega
theorem zone_end {Z W z : Nat} (hz : z ≤ Z) (hZ : 0 < Z) : zoneX Z W z ≤ W := by
  unfold zoneX
  refine Nat.div_le_of_le_mul ?_
  exact Nat.mul_le_mul_right _ hz
theorem patch_ok {U Z W : Nat} (hU : 1 ≤ U ∧ U ≤ 8) (hZ : 1 ≤ Z ∧ Z ≤ 16) (hW : 1 ≤ W ∧ W ≤ 1024) (hw : ∀ z, z < Z → 1 ≤ zoneW U Z W z) : StOk (tab (2 * U * Z) (patch U Z W)) U W := by
  have hl : (tab (2 * U * Z) (patch U Z W)).length = 2 * U * Z := tab_len
  have hn : ∀ n, n < 2 * U * Z → n / (2 * U) < Z ∧ n % (2 * U) < 2 * U := fun n hn => ⟨Nat.div_lt_of_lt_mul hn, Nat.mod_lt _ (by omega)⟩
  refine ⟨?_, by omega, by omega, fun i hi => ?_, fun i hi => ?_⟩
  · rw [hl]
    have h1 : 2 * U * Z ≤ 2 * U * 16 := Nat.mul_le_mul_left _ hZ.2
    omega
  · rw [hl] at hi
    rw [tab_get hi]
    obtain ⟨h1, h2⟩ := hn i hi
    have h3 := zone_fit (U := U) (Z := Z) (W := W) (z := i / (2 * U)) (k := i % (2 * U) + 1) (by omega)
    have h4 := zone_end (Z := Z) (W := W) (z := i / (2 * U) + 1) (by omega) (by omega)
    have h5 := hw _ h1
    rw [Nat.add_mul, Nat.one_mul] at h3
    unfold patch
    generalize i / (2 * U) = z at *
    generalize i % (2 * U) = k at *
    generalize zoneW U Z W z = v at *
    generalize k * v = kv at *
    dsimp only
    omega
  · rw [hl] at hi
    rw [tab_get hi, tab_get (by omega)]
    obtain ⟨h1, h2⟩ := hn i (by omega)
    have e0 := Nat.div_add_mod i (2 * U)
    by_cases hk : i % (2 * U) + 1 < 2 * U
    · have e1 : (i + 1) / (2 * U) = i / (2 * U) := by
        rw [show i + 1 = 2 * U * (i / (2 * U)) + (i % (2 * U) + 1) by omega, Nat.mul_add_div (by omega), Nat.div_eq_of_lt hk]; rfl
      have e2 : (i + 1) % (2 * U) = i % (2 * U) + 1 := by
        rw [show i + 1 = 2 * U * (i / (2 * U)) + (i % (2 * U) + 1) by omega, Nat.mul_add_mod, Nat.mod_eq_of_lt hk]
      unfold patch
      rw [e1, e2, Nat.add_mul, Nat.one_mul]
      dsimp only
      omega
    · have e1 : (i + 1) / (2 * U) = i / (2 * U) + 1 := by
        rw [show i + 1 = 2 * U * (i / (2 * U) + 1) by rw [Nat.mul_add, Nat.mul_one]; omega, Nat.mul_div_cancel_left _ (by omega)]
      have e2 : (i + 1) % (2 * U) = 0 := by
        rw [show i + 1 = 2 * U * (i / (2 * U) + 1) by rw [Nat.mul_add, Nat.mul_one]; omega, Nat.mul_mod_right]
      have h3 := zone_fit (U := U) (Z := Z) (W := W) (z := i / (2 * U)) (k := i % (2 * U) + 1) (by omega)
      rw [Nat.add_mul, Nat.one_mul] at h3
      unfold patch
      rw [e1, e2, Nat.zero_mul]
      dsimp only
      omega
end Go.Proofs.Ythkilkjngincpaa
