/- Strips: Read of a strip that is laid out. -/
import Derived.Test.YthkilkjngincpaaStrip4
import Derived.Test.YthkilkjngincpaaStripD0
import Derived.Test.YthkilkjngincpaaStripDa
import Derived.Test.YthkilkjngincpaaBits1
import Derived.Test.YthkilkjngincpaaGo
namespace Go.Proofs.Ythkilkjngincpaa
open Go Go.Lite
set_option linter.unusedVariables false
set_option linter.unusedSimpArgs false
set_option maxRecDepth 100000
set_option maxHeartbeats 4000000
-- @simp rdi rd5i rdy

def pX (U Z W n : Nat) : Nat := zoneX Z W (n / (2 * U)) + n % (2 * U) * zoneW U Z W (n / (2 * U))
def pV (U Z W n : Nat) : Nat := zoneW U Z W (n / (2 * U))
/-- What Read finds of patch n. -/
def pA (U Z W K : Nat) (D : Nat → List Int) (u n : Nat) : Int := near (255 * areaN W K (D u) (pX U Z W n) (pV U Z W n) K) ((pV U Z W n : Int) * (K : Int))
def rdg (U Z W K : Nat) (D : Nat → List Int) (r : Nat) : Int × Int × Int × Int := ((r % U : Nat), (r / U : Nat), pA U Z W K D (r % U) (2 * r), pA U Z W K D (r % U) (2 * r + 1))
theorem patch_even {U Z W r : Nat} : patch U Z W (2 * r) = ((pX U Z W (2 * r) : Int), (pV U Z W (2 * r) : Int), 0, ((r % U : Nat) : Int), ((r / U : Nat) : Int)) := by
  have e1 : 2 * r / (2 * U) = r / U := Nat.mul_div_mul_left _ _ (by omega)
  have e2 : 2 * r % (2 * U) = 2 * (r % U) := Nat.mul_mod_mul_left ..
  unfold patch
  rw [show 2 * r % (2 * U) % 2 = 0 by rw [e2]; omega, show 2 * r % (2 * U) / 2 = r % U by rw [e2]; omega, e1]
  unfold pX pV
  rw [e1]
  rfl
theorem patch_odd {U Z W r : Nat} (hU : 1 ≤ U) : patch U Z W (2 * r + 1) = ((pX U Z W (2 * r + 1) : Int), (pV U Z W (2 * r + 1) : Int), 1, ((r % U : Nat) : Int), ((r / U : Nat) : Int)) := by
  have e0 := Nat.div_add_mod r U
  have e3 := Nat.mod_lt r hU
  have e4 : 2 * r + 1 = 2 * U * (r / U) + (2 * (r % U) + 1) := by rw [Nat.mul_assoc]; omega
  have e5 : 2 * (r % U) + 1 < 2 * U := by omega
  have e1 : (2 * r + 1) / (2 * U) = r / U := by rw [e4, Nat.mul_add_div (by omega), Nat.div_eq_of_lt e5, Nat.add_zero]
  have e2 : (2 * r + 1) % (2 * U) = 2 * (r % U) + 1 := by rw [e4, Nat.mul_add_mod, Nat.mod_eq_of_lt e5]
  unfold patch
  rw [show (2 * r + 1) % (2 * U) % 2 = 1 by rw [e2]; omega, show (2 * r + 1) % (2 * U) / 2 = r % U by rw [e2]; omega, e1]
  unfold pX pV
  rw [e1]
  rfl
theorem area_at (w k : Nat) (d : List Int) (X V : Nat) (a b c : Int) (ok : BmOk w k d) (hV : 1 ≤ V ∧ X + V ≤ 1024) (P : Pt) (B : Int × Int × List Int) (hP : P = ((X : Int), (V : Int), a, b, c)) (hB : B = ((w : Int), (k : Int), d)) :
    TC R Try.prog strip_area_f [.pel [.int .i64 B.1, .int .i64 B.2.1, .lst Ey B.2.2], .agg [.int .i64 P.1, .int .i64 P.2.1, .int .i64 P.2.2.1, .int .i64 P.2.2.2.1, .int .i64 P.2.2.2.2]] [] (fun v Y => v = .int .i64 (near (255 * areaN w k d X V k) (V * k)) ∧ Y = []) := by
  subst hP hB
  exact area_c w k d X V a b c ok hV

theorem px_bd {U Z W n : Nat} (hU : 1 ≤ U ∧ U ≤ 8) (hZ : 1 ≤ Z ∧ Z ≤ 16) (hW : 1 ≤ W ∧ W ≤ 1024) (hw : ∀ z, z < Z → 1 ≤ zoneW U Z W z) (hn : n < 2 * U * Z) : 1 ≤ pV U Z W n ∧ pX U Z W n + pV U Z W n ≤ 1024 := by
  have h1 : n / (2 * U) < Z := Nat.div_lt_of_lt_mul hn
  have h2 := Nat.mod_lt n (show 2 * U > 0 by omega)
  have h3 := zone_fit (U := U) (Z := Z) (W := W) (z := n / (2 * U)) (k := n % (2 * U) + 1) (by omega)
  have h4 := zone_end (Z := Z) (W := W) (z := n / (2 * U) + 1) (by omega) (by omega)
  rw [Nat.add_mul, Nat.one_mul] at h3
  refine ⟨hw _ h1, ?_⟩
  unfold pX pV
  omega

theorem read_c (U Z W K : Nat) (D : Nat → List Int) (hU : 1 ≤ U ∧ U ≤ 8) (hZ : 1 ≤ Z ∧ Z ≤ 16) (hW : 1 ≤ W ∧ W ≤ 1024) (hw : ∀ z, z < Z → 1 ≤ zoneW U Z W z) (hD : ∀ u, u < U → BmOk W K (D u)) :
    TC R Try.prog strip_Read_f [.lst E5i (tab (2 * U * Z) (patch U Z W)), .lst E2iLyJ (tab U fun u => ((W : Int), (K : Int), D u))] [] (fun v X => v = .tup [.lst E4i (tab (U * Z) (rdg U Z W K D)), .int .i64 0] ∧ X = []) := by
  have pc := stCheck_y _ _ _ (patch_ok hU hZ hW hw)
  have tl : (tab U fun u => ((W : Int), (K : Int), D u)).length = U := tab_len
  have pl : (tab (2 * U * Z) (patch U Z W)).length = 2 * U * Z := tab_len
  have g0 : (tab U fun u => ((W : Int), (K : Int), D u)).getD (Int.toNat 0) (R.d E2iLyJ) = ((W : Int), (K : Int), D 0) := tab_get hU.1
  have g00 : (tab U fun u => ((W : Int), (K : Int), D u)).getD 0 (R.d E2iLyJ) = ((W : Int), (K : Int), D 0) := tab_get hU.1
  have uz : 2 * U * Z ≤ 256 := Nat.le_trans (Nat.mul_le_mul_left (2 * U) hZ.2) (by omega)
  have uz1 : 1 * 1 ≤ 2 * U * Z := Nat.mul_le_mul (by omega) hZ.1
  refine tc0 env strip_Read_s (by rfl) ?_
  dsimp only [strip_Read_c]
  repeat' (first
    | refine GZy_i_5i_y tl ?_ ?_ ?_ ?_ ?_ ?_ ?_ ?_
    | with_reducible first | exact BzZq.mk | refine Tw.ret ?_ | refine ImZq.i fun h => ?_ | refine IkZq.i fun hk => ?_)
  refine Tw.loopK [0, 1, 22, 23] (fun i : Nat => i ≤ U) (fun i => U - i) (fun i => [(24, .int .i64 i)]) (fun _ => []) ⟨0, by omega, TWk.fcanon env [] (by rfl) ?_⟩ (fun i hi => ?_)
  · repeat' (first
      | refine GZ_i_5i_y ?_ ?_ ?_ ?_ ?_ ?_ ?_ ?_
      | with_reducible first | exact BzZq.mk | refine Tw.ret ?_ | refine ImZq.i fun h => ?_ | refine IkZq.i fun hk => ?_)
  rcases Nat.lt_or_ge i U with hi | hi
  · have g1 : (tab U fun u => ((W : Int), (K : Int), D u)).getD (i : Int).toNat (R.d E2iLyJ) = ((W : Int), (K : Int), D i) := tab_get hi
    have bc := bCheck_y W K (D i) (hD i hi)
    repeat' (first
      | refine GZy_i_5i_y (And.intro tl g0) ?_ ?_ ?_ ?_ ?_ ?_ ?_ ?_
      | with_reducible first | exact BzZq.mk | refine Tw.ret ?_ | refine ImZq.i fun h => ?_ | refine IkZq.i fun hk => ?_)
    rw [g1]
    dsimp only
    repeat' (first
      | ((with_reducible refine TOps.any ?_); refine TOps.callV env (by rfl) (by rfl) (by rfl) (bc) ?_)
      | refine GZy_i_5i_y (And.intro tl (And.intro g0 g00)) ?_ ?_ ?_ ?_ ?_ ?_ ?_ ?_
      | with_reducible first | exact BzZq.mk | refine Tw.ret ?_ | refine ImZq.i fun h => ?_ | refine IkZq.i fun hk => ?_)
    refine ⟨i + 1, by omega, by omega, TWk.fcanon env [] (by rfl) ?_⟩
    repeat' (first
      | refine GZ_i_5i_y ?_ ?_ ?_ ?_ ?_ ?_ ?_ ?_
      | with_reducible first | exact BzZq.mk | refine Tw.ret ?_ | refine ImZq.i fun h => ?_ | refine IkZq.i fun hk => ?_)
  · obtain rfl : U = i := by omega
    repeat' (first
      | refine GZy_i_5i_y (And.intro tl g0) ?_ ?_ ?_ ?_ ?_ ?_ ?_ ?_
      | with_reducible first | exact BzZq.mk | refine Tw.ret ?_ | refine ImZq.i fun h => ?_ | refine IkZq.i fun hk => ?_)
    rw [g0, tl]
    dsimp only
    repeat' (first
      | ((with_reducible refine TOps.any ?_); refine TOps.callV env (by rfl) (by rfl) (by rfl) (pc) ?_)
      | refine GZy_i_5i_y (And.intro tl (And.intro g0 pl)) ?_ ?_ ?_ ?_ ?_ ?_ ?_ ?_
      | with_reducible first | exact BzZq.mk | refine Tw.ret ?_ | refine ImZq.i fun h => ?_ | refine IkZq.i fun hk => ?_)
    refine Tw.loopK [0, 1] (fun i : Nat => 1 ≤ i ∧ i ≤ 2 * U * Z) (fun i => 2 * U * Z - i) (fun i => [(11, .int .i64 i), (10, .sla 4 0 0 (i / 2))]) (fun i => [some (.arr E4i (tab (i / 2) (rdg U Z W K D)))]) ⟨1, by omega, TWk.fcanon env [none] (by rfl) ?_⟩ (fun i hi => ?_)
    · repeat' (first
        | refine GZ_i_5i_y ?_ ?_ ?_ ?_ ?_ ?_ ?_ ?_
        | with_reducible first | exact BzZq.mk | refine Tw.ret ?_ | refine ImZq.i fun h => ?_ | refine IkZq.i fun hk => ?_)
    rcases Nat.lt_or_ge i (2 * U * Z) with hi | hi
    · have hz : i / 2 < U * Z := by rw [Nat.mul_assoc] at hi; omega
      rcases Nat.mod_two_eq_zero_or_one i with he | he
      · obtain ⟨r, rfl⟩ : ∃ r, i = 2 * r + 1 + 1 := ⟨i / 2 - 1, by omega⟩
        have ej : (((2 * r + 1 + 1 : Nat) : Int) - 1).toNat = 2 * r + 1 := by omega
        have q1 : (tab (2 * U * Z) (patch U Z W)).getD (2 * r + 1) (0, 0, 0, 0, 0) = ((pX U Z W (2 * r + 1) : Int), (pV U Z W (2 * r + 1) : Int), 1, ((r % U : Nat) : Int), ((r / U : Nat) : Int)) := (tab_get (by omega)).trans (patch_odd hU.1)
        repeat' (first
          | refine GZy_i_5i_y (And.intro pl (And.intro ej q1)) ?_ ?_ ?_ ?_ ?_ ?_ ?_ ?_
          | with_reducible first | exact BzZq.mk | refine Tw.ret ?_ | refine ImZq.i fun h => ?_ | refine IkZq.i fun hk => ?_)
        refine ⟨2 * r + 1 + 1 + 1, by omega, by omega, TWk.fcanon env [some 0] (by rfl) ?_⟩
        rw [show (2 * r + 1 + 1 + 1) / 2 = (2 * r + 1 + 1) / 2 by omega]
        repeat' (first
          | refine GZ_i_5i_y ?_ ?_ ?_ ?_ ?_ ?_ ?_ ?_
          | with_reducible first | exact BzZq.mk | refine Tw.ret ?_ | refine ImZq.i fun h => ?_ | refine IkZq.i fun hk => ?_)
      · obtain ⟨r, rfl⟩ : ∃ r, i = 2 * r + 1 := ⟨i / 2, by omega⟩
        have e2 : (2 * r + 1) / 2 = r := by omega
        have ej : (((2 * r + 1 : Nat) : Int) - 1).toNat = 2 * r := by omega
        have ru := Nat.mod_lt r hU.1
        have q1 : (tab (2 * U * Z) (patch U Z W)).getD (2 * r) (0, 0, 0, 0, 0) = ((pX U Z W (2 * r) : Int), (pV U Z W (2 * r) : Int), 0, ((r % U : Nat) : Int), ((r / U : Nat) : Int)) := (tab_get (by omega)).trans patch_even
        have q2 : (tab (2 * U * Z) (patch U Z W)).getD (2 * r + 1) (0, 0, 0, 0, 0) = ((pX U Z W (2 * r + 1) : Int), (pV U Z W (2 * r + 1) : Int), 1, ((r % U : Nat) : Int), ((r / U : Nat) : Int)) := (tab_get (by omega)).trans (patch_odd hU.1)
        have q3 : (tab U fun u => ((W : Int), (K : Int), D u)).getD (r % U) (0, 0, []) = ((W : Int), (K : Int), D (r % U)) := tab_get ru
        have p1 : (tab (2 * U * Z) (patch U Z W)).getD (((2 * r + 1 : Nat) : Int) - 1).toNat (R.d E5i) = ((pX U Z W (2 * r) : Int), (pV U Z W (2 * r) : Int), 0, ((r % U : Nat) : Int), ((r / U : Nat) : Int)) := by rw [ej]; exact q1
        have p2 : (tab (2 * U * Z) (patch U Z W)).getD ((2 * r + 1 : Nat) : Int).toNat (R.d E5i) = ((pX U Z W (2 * r + 1) : Int), (pV U Z W (2 * r + 1) : Int), 1, ((r % U : Nat) : Int), ((r / U : Nat) : Int)) := q2
        have p3 : (tab U fun u => ((W : Int), (K : Int), D u)).getD ((tab (2 * U * Z) (patch U Z W)).getD (((2 * r + 1 : Nat) : Int) - 1).toNat (R.d E5i)).2.2.2.1.toNat (R.d E2iLyJ) = ((W : Int), (K : Int), D (r % U)) := by rw [p1]; exact q3
        have v1 : 1 ≤ pV U Z W (2 * r) ∧ pX U Z W (2 * r) + pV U Z W (2 * r) ≤ 1024 := px_bd hU hZ hW hw (by omega)
        have v2 : 1 ≤ pV U Z W (2 * r + 1) ∧ pX U Z W (2 * r + 1) + pV U Z W (2 * r + 1) ≤ 1024 := px_bd hU hZ hW hw hi
        have a1 := fun B hB => area_at W K (D (r % U)) _ _ _ _ _ (hD _ ru) v1 _ B p1 hB
        have a2 := fun B hB => area_at W K (D (r % U)) _ _ _ _ _ (hD _ ru) v2 _ B p2 hB
        have e6 : (2 * r + 1 + 1) / 2 = r + 1 := by omega
        have le : 0 + r ≤ (tab r (rdg U Z W K D)).length := by rw [tab_len]; omega
        have rw1 : tab (r + 1) (rdg U Z W K D) = cut (tab r (rdg U Z W K D)) 0 r ++ cut [(((r % U : Nat) : Int), ((r / U : Nat) : Int), near (255 * areaN W K (D (r % U)) (pX U Z W (2 * r)) (pV U Z W (2 * r)) K) ((pV U Z W (2 * r) : Int) * (K : Int)), near (255 * areaN W K (D (r % U)) (pX U Z W (2 * r + 1)) (pV U Z W (2 * r + 1)) K) ((pV U Z W (2 * r + 1) : Int) * (K : Int)))] 0 1 := by
          rw [cut_tab, tab_succ]; rfl
        rw [e2]
        repeat' (first
          | exact le
          | ((with_reducible refine TDr.any ?_); refine TDr.callE env (by first | rfl | assumption) (by rfl) (by rfl) ?_ (a1 _ p3) (by rfl) (by rfl) ?_)
          | ((with_reducible refine TDr.any ?_); refine TDr.callE env (by first | rfl | assumption) (by rfl) (by rfl) ?_ (a2 _ p3) (by rfl) (by rfl) ?_)
          | refine GZy_i_5i_y (And.intro pl (And.intro tl (And.intro ej (And.intro q1 (And.intro q2 q3))))) ?_ ?_ ?_ ?_ ?_ ?_ ?_ ?_
          | with_reducible first | exact BzZq.mk | refine Tw.ret ?_ | refine ImZq.i fun h => ?_ | refine IkZq.i fun hk => ?_)
        refine ⟨2 * r + 1 + 1, by omega, by omega, TWk.fcanon env [some 4] (by rfl) ?_⟩
        rw [e6, p1]
        repeat' (first
          | exact rw1
          | exact rw1.symm
          | refine GZ_i_5i_y ?_ ?_ ?_ ?_ ?_ ?_ ?_ ?_
          | with_reducible first | exact BzZq.mk | refine Tw.ret ?_ | refine ImZq.i fun h => ?_ | refine IkZq.i fun hk => ?_)
    · obtain rfl : i = 2 * U * Z := by omega
      have e5 : 2 * U * Z / 2 = U * Z := by rw [Nat.mul_assoc]; omega
      rw [e5]
      have rl : (tab (U * Z) (rdg U Z W K D)).length = U * Z := tab_len
      have ct : cut (tab (U * Z) (rdg U Z W K D)) 0 (U * Z) = tab (U * Z) (rdg U Z W K D) := cut_tab
      repeat' (first
        | ((with_reducible refine Tw.retI ?_); refine Tw.frz env 0 (by rfl) (by rfl) (by rfl) ?_ ?_ (Tw.ret ?_))
        | refine GZy_i_5i_y (And.intro pl rl) ?_ ?_ ?_ ?_ ?_ ?_ ?_ ?_
        | with_reducible first | exact BzZq.mk | refine Tw.ret ?_ | refine ImZq.i fun h => ?_ | refine IkZq.i fun hk => ?_)
      exact ⟨rfl, by rw [ct], rfl⟩
end Go.Proofs.Ythkilkjngincpaa
