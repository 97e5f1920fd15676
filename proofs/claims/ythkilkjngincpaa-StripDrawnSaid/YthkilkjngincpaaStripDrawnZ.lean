/- The law StripDrawn: a strip that is drawn is read as drawn, patch by patch. -/
import Derived.Test.YthkilkjngincpaaStripP
import Derived.Test.YthkilkjngincpaaStripD1
import Derived.Test.YthkilkjngincpaaStripD2
import Derived.Test.YthkilkjngincpaaStripD3
import Derived.Test.YthkilkjngincpaaStripD4
import Derived.Test.YthkilkjngincpaaStripD5
import Derived.Test.YthkilkjngincpaaStripD6
import Derived.Test.YthkilkjngincpaaStripD7
import Derived.Test.YthkilkjngincpaaStripD8
import Derived.Test.YthkilkjngincpaaBits3
import Derived.Test.YthkilkjngincpaaStripW
import Derived.Test.YthkilkjngincpaaRMod
import Derived.Test.YthkilkjngincpaaXStripDrawn0
import Derived.Test.YthkilkjngincpaaGo
namespace Go.Proofs.Ythkilkjngincpaa
open Go Go.Lite
set_option linter.unusedVariables false
set_option linter.unusedSimpArgs false
set_option maxRecDepth 100000
set_option maxHeartbeats 4000000
-- @simp rdi rdy rd5i rd4i

theorem draw_c (l : List Pt) (U W K : Nat) (hU : 1 ≤ U ∧ U ≤ 8) (ok : StOk l U W) (hk : 1 ≤ K ∧ K ≤ 1024) :
    TC R Try.prog strip_Draw_f [.lst E5i l, .int .i64 U, .int .i64 W, .int .i64 K] [] (fun v X => v = .tup [.lst E2iLyJ (tab U fun u => ((W : Int), (K : Int), colD l W K l.length u)), .int .i64 0] ∧ X = []) := by
  have h : U = 1 ∨ U = 2 ∨ U = 3 ∨ U = 4 ∨ U = 5 ∨ U = 6 ∨ U = 7 ∨ U = 8 := by omega
  rcases h with rfl | rfl | rfl | rfl | rfl | rfl | rfl | rfl
  · exact draw1_c l W K ok hk
  · exact draw2_c l W K ok hk
  · exact draw3_c l W K ok hk
  · exact draw4_c l W K ok hk
  · exact draw5_c l W K ok hk
  · exact draw6_c l W K ok hk
  · exact draw7_c l W K ok hk
  · exact draw8_c l W K ok hk

theorem small_q {m n : Nat} (h : m ≤ n) (hn : n ≤ 1024) : rng .i64 ((m : Nat) : Int) := by simp only [rng]; omega

theorem StripDrawn_law (a b c d : Int) (ra : rng .i64 a) (rb : rng .i64 b) (rc : rng .i64 c) (rd : rng .i64 d) :
    TC R Try.prog K2_StripDrawn_f [.int .i64 a, .int .i64 b, .int .i64 c, .int .i64 d] [] (fun v X => v = .bool true ∧ X = []) := by
  simp only [rng] at ra rb rc rd
  have ma := rMod_c a 8 (by unfold Due; omega)
  have mb := rMod_c b 16 (by unfold Due; omega)
  have mc := rMod_c c 400 (by unfold Due; omega)
  have md := rMod_c d 3 (by unfold Due; omega)
  obtain ⟨U, eU⟩ : ∃ U : Nat, 1 + a % 8 = U := ⟨(1 + a % 8).toNat, by omega⟩
  obtain ⟨Z, eZ⟩ : ∃ Z : Nat, 1 + b % 16 = Z := ⟨(1 + b % 16).toNat, by omega⟩
  obtain ⟨W, eW⟩ : ∃ W : Nat, 1 + c % 400 = W := ⟨(1 + c % 400).toNat, by omega⟩
  obtain ⟨K, eK⟩ : ∃ K : Nat, 1 + d % 3 = K := ⟨(1 + d % 3).toNat, by omega⟩
  have b1 : -9223372036854775808 ≤ 1 + a % 8 ∧ 1 + a % 8 ≤ 9223372036854775807 := by omega
  have b2 : -9223372036854775808 ≤ 1 + b % 16 ∧ 1 + b % 16 ≤ 9223372036854775807 := by omega
  have b3 : -9223372036854775808 ≤ 1 + c % 400 ∧ 1 + c % 400 ≤ 9223372036854775807 := by omega
  have b4 : -9223372036854775808 ≤ 1 + d % 3 ∧ 1 + d % 3 ≤ 9223372036854775807 := by omega
  have hU : 1 ≤ U ∧ U ≤ 8 := by omega
  have hZ : 1 ≤ Z ∧ Z ≤ 16 := by omega
  have hW : 1 ≤ W ∧ W ≤ 1024 := by omega
  have hK : 1 ≤ K ∧ K ≤ 1024 := by omega
  refine tc0 env K2_StripDrawn_s (by rfl) ?_
  dsimp only [K2_StripDrawn_c]
  repeat' (first
    | exact b1
    | exact b2
    | exact b3
    | exact b4
    | ((with_reducible refine TOps.any ?_); refine TOps.callV env (by rfl) (by rfl) (by rfl) (stripWorks_c) ?_)
    | ((with_reducible refine TOps.any ?_); refine TOps.callV env (by rfl) (by rfl) (by rfl) (ma) ?_)
    | ((with_reducible refine TOps.any ?_); refine TOps.callV env (by rfl) (by rfl) (by rfl) (mb) ?_)
    | ((with_reducible refine TOps.any ?_); refine TOps.callV env (by rfl) (by rfl) (by rfl) (mc) ?_)
    | ((with_reducible refine TOps.any ?_); refine TOps.callV env (by rfl) (by rfl) (by rfl) (md) ?_)
    | refine GZp_i_y_5i_4i ?_ ?_ ?_ ?_ ?_ ?_ ?_ ?_
    | with_reducible first | exact BzZq.mk | refine Tw.ret ?_ | refine ImZq.i fun h => ?_ | refine IkZq.i fun hk => ?_)
  rw [eU, eZ, eW, eK]
  by_cases hw : ∀ z, z < Z → 2 ≤ zoneW U Z W z
  · have lc := layout_c U Z W hU hZ hW hw
    have hw1 : ∀ z, z < Z → 1 ≤ zoneW U Z W z := fun z h => by have := hw z h; omega
    have ok := patch_ok hU hZ hW hw1
    have ll : (tab (2 * U * Z) (patch U Z W)).length = 2 * U * Z := tab_len
    have dc := draw_c _ U W K hU ok hK
    have r1 := read_c U Z W K (stD (tab (2 * U * Z) (patch U Z W)) W K 129) hU hZ hW hw1 fun u _ => bm_ok hW hK
    have r2 := read_c U Z W K (stD (tab (2 * U * Z) (patch U Z W)) W K 128) hU hZ hW hw1 fun u _ => bm_ok hW hK
    have e1 : tab (U * Z) (rdg U Z W K (stD (tab (2 * U * Z) (patch U Z W)) W K 129)) = tab (U * Z) fun r => (((r % U : Nat) : Int), ((r / U : Nat) : Int), (255 : Int), (0 : Int)) := tab_cg fun r hr => (rdg_drawn hU hZ hW hK.1 hw1 (by omega) hr).trans (by rw [if_neg (by omega)])
    have e2 : tab (U * Z) (rdg U Z W K (stD (tab (2 * U * Z) (patch U Z W)) W K 128)) = tab (U * Z) fun r => (((r % U : Nat) : Int), ((r / U : Nat) : Int), (255 : Int), (255 : Int)) := tab_cg fun r hr => (rdg_drawn hU hZ hW hK.1 hw1 (by omega) hr).trans (by rw [if_pos (by omega)])
    rw [e1] at r1
    rw [e2] at r2
    generalize tab (2 * U * Z) (patch U Z W) = l at *
    have tl : (tab U fun u => ((W : Int), (K : Int), colD l W K l.length u)).length = U := tab_len
    have f1 := fun u => fromPlate_c W K (colD l W K l.length u) 129 hW hK colD_len (fun i hi => colD_bd hi) (by unfold Due; omega)
    have f2 := fun u => fromPlate_c W K (colD l W K l.length u) 128 hW hK colD_len (fun i hi => colD_bd hi) (by unfold Due; omega)
    have s1 : ∀ u, (bm W K fun x y => decide ((129 : Int) ≤ (colD l W K l.length u).getD (y * W + x) 0)) = stD l W K 129 u := fun _ => rfl
    have s2 : ∀ u, (bm W K fun x y => decide ((128 : Int) ≤ (colD l W K l.length u).getD (y * W + x) 0)) = stD l W K 128 u := fun _ => rfl
    simp only [s1] at f1
    simp only [s2] at f2
    generalize stD l W K 129 = D1 at *
    generalize stD l W K 128 = D2 at *
    repeat' (first
      | ((with_reducible refine TOps.any ?_); refine TOps.callV env (by rfl) (by rfl) (by rfl) (lc) ?_)
      | ((with_reducible refine TOps.any ?_); refine TOps.callV env (by rfl) (by rfl) (by rfl) (dc) ?_)
      | refine GZy_i_y_5i_4i tl ?_ ?_ ?_ ?_ ?_ ?_ ?_ ?_
      | with_reducible first | exact BzZq.mk | refine Tw.ret ?_ | refine ImZq.i fun h => ?_ | refine IkZq.i fun hk => ?_)
    rw [tl]
    refine Tw.loopK [0, 1, 9, 80] (fun i : Nat => i ≤ U) (fun i => U - i) (fun i => [(82, .int .i64 i), (81, .int .i64 U), (13, .sla 3 0 0 i), (14, .sla 3 1 0 i)])
      (fun i => [some (.arr E2iLyJ (tab i fun u => ((W : Int), (K : Int), D1 u))), some (.arr E2iLyJ (tab i fun u => ((W : Int), (K : Int), D2 u)))]) ⟨0, by omega, TWk.fcanon env [none, none] (by rfl) ?_⟩ (fun i hi => ?_)
    · repeat' (first
        | refine GZ_i_y_5i_4i ?_ ?_ ?_ ?_ ?_ ?_ ?_ ?_
        | with_reducible first | exact BzZq.mk | refine Tw.ret ?_ | refine ImZq.i fun h => ?_ | refine IkZq.i fun hk => ?_)
    rcases Nat.lt_or_ge i U with hi | hi
    · have g1 : (tab U fun u => ((W : Int), (K : Int), colD l W K l.length u)).getD (i : Int).toNat (R.d E2iLyJ) = ((W : Int), (K : Int), colD l W K l.length i) := tab_get hi
      have f1 := f1 i
      have f2 := f2 i
      repeat' (first
        | refine GZy_i_y_5i_4i tl ?_ ?_ ?_ ?_ ?_ ?_ ?_ ?_
        | with_reducible first | exact BzZq.mk | refine Tw.ret ?_ | refine ImZq.i fun h => ?_ | refine IkZq.i fun hk => ?_)
      rw [g1]
      dsimp only
      have l1 : 0 + i ≤ (tab i fun u => ((W : Int), (K : Int), D1 u)).length := by rw [tab_len]; omega
      have l2 : 0 + i ≤ (tab i fun u => ((W : Int), (K : Int), D2 u)).length := by rw [tab_len]; omega
      have w1 : (tab (i + 1) fun u => ((W : Int), (K : Int), D1 u)) = cut (tab i fun u => ((W : Int), (K : Int), D1 u)) 0 i ++ cut [((W : Int), (K : Int), D1 i)] 0 1 := by rw [cut_tab, tab_succ]; rfl
      have w2 : (tab (i + 1) fun u => ((W : Int), (K : Int), D2 u)) = cut (tab i fun u => ((W : Int), (K : Int), D2 u)) 0 i ++ cut [((W : Int), (K : Int), D2 i)] 0 1 := by rw [cut_tab, tab_succ]; rfl
      repeat' (first
        | exact l1
        | exact l2
        | ((with_reducible refine TOps.any ?_); refine TOps.callV env (by rfl) (by rfl) (by rfl) (f1) ?_)
        | ((with_reducible refine TOps.any ?_); refine TOps.callV env (by rfl) (by rfl) (by rfl) (f2) ?_)
        | refine GZy_i_y_5i_4i tl ?_ ?_ ?_ ?_ ?_ ?_ ?_ ?_
        | with_reducible first | exact BzZq.mk | refine Tw.ret ?_ | refine ImZq.i fun h => ?_ | refine IkZq.i fun hk => ?_)
      refine ⟨i + 1, by omega, by omega, TWk.fcanon env [some 6, some 8] (by rfl) ?_⟩
      repeat' (first
        | exact w1
        | exact w1.symm
        | exact w2
        | exact w2.symm
        | refine GZ_i_y_5i_4i ?_ ?_ ?_ ?_ ?_ ?_ ?_ ?_
        | with_reducible first | exact BzZq.mk | refine Tw.ret ?_ | refine ImZq.i fun h => ?_ | refine IkZq.i fun hk => ?_)
    · obtain rfl : U = i := by omega
      have m1 : 0 + U ≤ (tab U fun u => ((W : Int), (K : Int), D1 u)).length := by rw [tab_len]; omega
      have m2 : 0 + U ≤ (tab U fun u => ((W : Int), (K : Int), D2 u)).length := by rw [tab_len]; omega
      have uz : U * Z ≤ 8 * 16 := Nat.mul_le_mul hU.2 hZ.2
      have uz1 : (U : Int) * (Z : Int) = ((U * Z : Nat) : Int) := by simp
      have b5 : -9223372036854775808 ≤ (U : Int) * (Z : Int) ∧ (U : Int) * (Z : Int) ≤ 9223372036854775807 := by rw [uz1]; omega
      repeat' (first
        | refine GZy_i_y_5i_4i tl ?_ ?_ ?_ ?_ ?_ ?_ ?_ ?_
        | with_reducible first | exact BzZq.mk | refine Tw.ret ?_ | refine ImZq.i fun h => ?_ | refine IkZq.i fun hk => ?_)
      refine TOps.frz env 0 (by rfl) (by rfl) (by rfl) ?_ ?_ ?_
      · repeat' (first
          | exact m1
          | refine GZ_i_y_5i_4i ?_ ?_ ?_ ?_ ?_ ?_ ?_ ?_
          | with_reducible first | exact BzZq.mk | refine Tw.ret ?_ | refine ImZq.i fun h => ?_ | refine IkZq.i fun hk => ?_)
      · repeat' (first
          | exact m1
          | refine GZ_i_y_5i_4i ?_ ?_ ?_ ?_ ?_ ?_ ?_ ?_
          | with_reducible first | exact BzZq.mk | refine Tw.ret ?_ | refine ImZq.i fun h => ?_ | refine IkZq.i fun hk => ?_)
      refine TOps.frz env 1 (by rfl) (by rfl) (by rfl) ?_ ?_ ?_
      · repeat' (first
          | exact m2
          | refine GZ_i_y_5i_4i ?_ ?_ ?_ ?_ ?_ ?_ ?_ ?_
          | with_reducible first | exact BzZq.mk | refine Tw.ret ?_ | refine ImZq.i fun h => ?_ | refine IkZq.i fun hk => ?_)
      · repeat' (first
          | exact m2
          | refine GZ_i_y_5i_4i ?_ ?_ ?_ ?_ ?_ ?_ ?_ ?_
          | with_reducible first | exact BzZq.mk | refine Tw.ret ?_ | refine ImZq.i fun h => ?_ | refine IkZq.i fun hk => ?_)
      rw [cut_tab, cut_tab]
      have n1 : (tab (U * Z) fun r => (((r % U : Nat) : Int), ((r / U : Nat) : Int), (255 : Int), (0 : Int))).length = U * Z := tab_len
      have n2 : (tab (U * Z) fun r => (((r % U : Nat) : Int), ((r / U : Nat) : Int), (255 : Int), (255 : Int))).length = U * Z := tab_len
      have k1 : ∀ i, i < U * Z → (tab (U * Z) fun r => (((r % U : Nat) : Int), ((r / U : Nat) : Int), (255 : Int), (0 : Int))).getD i (0, 0, 0, 0) = (((i % U : Nat) : Int), ((i / U : Nat) : Int), 255, 0) := fun i hi => tab_get hi
      have k2 : ∀ i, i < U * Z → (tab (U * Z) fun r => (((r % U : Nat) : Int), ((r / U : Nat) : Int), (255 : Int), (255 : Int))).getD i (0, 0, 0, 0) = (((i % U : Nat) : Int), ((i / U : Nat) : Int), 255, 255) := fun i hi => tab_get hi
      generalize (tab (U * Z) fun r => (((r % U : Nat) : Int), ((r / U : Nat) : Int), (255 : Int), (0 : Int))) = L1 at *
      generalize (tab (U * Z) fun r => (((r % U : Nat) : Int), ((r / U : Nat) : Int), (255 : Int), (255 : Int))) = L2 at *
      repeat' (first
        | exact b5
        | ((with_reducible refine TOps.any ?_); refine TOps.callV env (by rfl) (by rfl) (by rfl) (r1) ?_)
        | ((with_reducible refine TOps.any ?_); refine TOps.callV env (by rfl) (by rfl) (by rfl) (r2) ?_)
        | refine GZy_i_y_5i_4i (And.intro n1 (And.intro n2 uz1)) ?_ ?_ ?_ ?_ ?_ ?_ ?_ ?_
        | with_reducible first | exact BzZq.mk | refine Tw.ret ?_ | refine ImZq.i fun h => ?_ | refine IkZq.i fun hk => ?_)
      rw [n1]
      refine Tw.loopK [0, 21, 23] (fun i : Nat => i ≤ U * Z) (fun i => U * Z - i) (fun i => [(147, .int .i64 i), (146, .int .i64 (U * Z : Nat))]) (fun _ => []) ⟨0, Nat.zero_le _, TWk.fcanon env [] (by rfl) ?_⟩ (fun i hi => ?_)
      · repeat' (first
          | refine GZ_i_y_5i_4i ?_ ?_ ?_ ?_ ?_ ?_ ?_ ?_
          | with_reducible first | exact BzZq.mk | refine Tw.ret ?_ | refine ImZq.i fun h => ?_ | refine IkZq.i fun hk => ?_)
      rcases Nat.lt_or_ge i (U * Z) with hi | hi
      · have kk1 := k1 i hi
        have kk2 := k2 i hi
        have q1 : rem (i : Int) (U : Int) = ((i % U : Nat) : Int) := by rw [rem_nn (by omega)]; simp
        have q2 : quo (i : Int) (U : Int) = ((i / U : Nat) : Int) := by rw [quo_nn (by omega)]; simp
        have d1 : rng .i64 (quo (i : Int) (U : Int)) := by rw [q2]; exact small_q (Nat.div_le_self i U) (by omega)
        repeat' (first
          | exact d1
          | refine GZy_i_y_5i_4i (And.intro n1 (And.intro n2 (And.intro q1 (And.intro q2 (And.intro kk1 kk2))))) ?_ ?_ ?_ ?_ ?_ ?_ ?_ ?_
          | with_reducible first | exact BzZq.mk | refine Tw.ret ?_ | refine ImZq.i fun h => ?_ | refine IkZq.i fun hk => ?_)
        refine ⟨i + 1, by omega, by omega, TWk.fcanon env [] (by rfl) ?_⟩
        repeat' (first
          | refine GZ_i_y_5i_4i ?_ ?_ ?_ ?_ ?_ ?_ ?_ ?_
          | with_reducible first | exact BzZq.mk | refine Tw.ret ?_ | refine ImZq.i fun h => ?_ | refine IkZq.i fun hk => ?_)
      · obtain rfl : i = U * Z := by omega
        repeat' (first
          | refine GZp_i_y_5i_4i ?_ ?_ ?_ ?_ ?_ ?_ ?_ ?_
          | with_reducible first | exact BzZq.mk | refine Tw.ret ?_ | refine ImZq.i fun h => ?_ | refine IkZq.i fun hk => ?_)
        exact ⟨rfl, rfl, rfl⟩
  · obtain ⟨z, hz, hn⟩ : ∃ z, z < Z ∧ zoneW U Z W z < 2 := by
      refine Classical.byContradiction fun h => hw fun z hz => Nat.le_of_not_lt fun hn => h ⟨z, hz, hn⟩
    have lc := layoutN_c U Z W hU hZ hW ⟨z, hz, hn⟩
    have nn := narrow hU.1 (by omega) hn
    have q1 : quo (W : Int) (Z : Int) = ((W / Z : Nat) : Int) := by rw [quo_nn (by omega)]; simp
    have d1 : rng .i64 (quo (W : Int) (Z : Int)) := by rw [q1]; exact small_q (Nat.div_le_self W Z) (by omega)
    repeat' (first
      | exact d1
      | ((with_reducible refine TOps.any ?_); refine TOps.callV env (by rfl) (by rfl) (by rfl) (lc) ?_)
      | refine GZy_i_y_5i_4i q1 ?_ ?_ ?_ ?_ ?_ ?_ ?_ ?_
      | with_reducible first | exact BzZq.mk | refine Tw.ret ?_ | refine ImZq.i fun h => ?_ | refine IkZq.i fun hk => ?_)
    exact ⟨rfl, congrArg TV.bool (by rw [q1]; simp; omega), rfl⟩
end Go.Proofs.Ythkilkjngincpaa
