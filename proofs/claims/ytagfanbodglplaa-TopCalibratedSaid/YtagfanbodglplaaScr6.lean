/- Screens: the scattered order is walked. -/
import Derived.Test.YtagfanbodglplaaScr5
import Derived.Test.YtagfanbodglplaaGo
namespace Go.Proofs.Ytagfanbodglplaa
open Go Go.Lite
set_option linter.unusedVariables false
set_option linter.unusedSimpArgs false
set_option maxRecDepth 100000
set_option maxHeartbeats 4000000
-- @simp rdi

/-- The squared distances while a round goes over them. -/
def scU (a b P f g : Int) (n : Nat) (ap : List Int) (z : Int) (l : Nat) : List Int := tab n fun q => if q < l then min (ap.getD q 0) (dsq a b P f g q z) else ap.getD q 0

theorem scatter_c {a b k P f g : Int} (h0 : schk a b k = 0) (F : Frm a b P f g) (n : Nat) (en : Due (a * a + b * b = n)) :
    TC R Try.prog screen_scatter_f [.agg [.int .i64 a, .int .i64 b, .int .i64 k], .agg [.int .i64 P, .int .i64 f, .int .i64 g]] [] (fun v X => v = .lst Ei (tab n fun i => ((scN a b P f g n).getD i 0 : Int)) ∧ X = []) := by
  dsimp only [Due] at en
  obtain ⟨a1, a2, b1, b2, _, _, _, n1, n2⟩ := schk_ok h0
  have q1 := sq_bd ⟨a1, a2⟩
  have q2 := sq_bd ⟨b1, b2⟩
  have hP := F.pb
  have hn : 1 ≤ n ∧ n ≤ 400 := by omega
  have sok := sc_ok (f := f) (g := g) ⟨n1, n2⟩ F en
  refine tc0 env screen_scatter_s (by rfl) ?_
  dsimp only [screen_scatter_c]
  repeat' (first
    | refine GZp_i ?_ ?_ ?_ ?_ ?_ ?_ ?_ ?_
    | with_reducible first | exact BzZq.mk | refine Tw.ret ?_ | refine ImZq.i fun h => ?_ | refine IkZq.i fun hk => ?_)
  rw [en]
  simp only [Int.toNat_natCast]
  refine Tw.loopK [2, 3, 4, 5, 29] (fun i : Nat => i ≤ n) (fun i => n - i) (fun i => [(30, .int .i64 i), (6, .sla 1 2 0 n)])
    (fun i => [some (.cells [.int .i64 a, .int .i64 b, .int .i64 k]), some (.cells [.int .i64 P, .int .i64 f, .int .i64 g]), some (.arr Ei (ptab n i fun _ => 1099511627776))]) ⟨0, by omega, TWk.fcanon env [some 0, some 1, some 2] (by rfl) ?_⟩ (fun i hi => ?_)
  · repeat' (first
      | exact ptab_zero
      | refine GZ_i ?_ ?_ ?_ ?_ ?_ ?_ ?_ ?_
      | with_reducible first | exact BzZq.mk | refine Tw.ret ?_ | refine ImZq.i fun h => ?_ | refine IkZq.i fun hk => ?_)
  have pl : (ptab n i fun _ => (1099511627776 : Int)).length = n := ptab_len
  rcases Nat.lt_or_ge i n with hi | hi
  · have ps : ptab n (i + 1) (fun _ => 1099511627776) = (ptab n i fun _ => 1099511627776).set i 1099511627776 := (ptab_set (f := fun _ => 1099511627776)).symm
    repeat' (first
      | refine GZy_i pl ?_ ?_ ?_ ?_ ?_ ?_ ?_ ?_
      | with_reducible first | exact BzZq.mk | refine Tw.ret ?_ | refine ImZq.i fun h => ?_ | refine IkZq.i fun hk => ?_)
    refine ⟨i + 1, by omega, by omega, TWk.fcanon env [some 0, some 1, some 2] (by rfl) ?_⟩
    repeat' (first
      | exact ps
      | refine GZ_i ?_ ?_ ?_ ?_ ?_ ?_ ?_ ?_
      | with_reducible first | exact BzZq.mk | refine Tw.ret ?_ | refine ImZq.i fun h => ?_ | refine IkZq.i fun hk => ?_)
  obtain rfl : i = n := by omega
  rw [ptab_all]
  have e0 : tab i (fun _ => (1099511627776 : Int)) = scA a b P f g i 0 := by
    simp only [scA]
    exact (is_tab 0 (by simp) fun j hj => getD_repl hj).symm
  rw [e0]
  repeat' (first
    | refine GZp_i ?_ ?_ ?_ ?_ ?_ ?_ ?_ ?_
    | with_reducible first | exact BzZq.mk | refine Tw.ret ?_ | refine ImZq.i fun h => ?_ | refine IkZq.i fun hk => ?_)
  refine Tw.loopK [2, 3, 4, 5, 37] (fun m : Nat => m ≤ i) (fun m => i - m) (fun m => [(38, .int .i64 m), (6, .sla 1 2 0 i), (8, .sla 1 3 0 m)])
    (fun m => [some (.cells [.int .i64 a, .int .i64 b, .int .i64 k]), some (.cells [.int .i64 P, .int .i64 f, .int .i64 g]), some (.arr Ei (scA a b P f g i m)), some (.arr Ei (tab m (scB a b P f g i)))]) ⟨0, by omega, TWk.fcanon env [some 0, some 1, some 2, none] (by rfl) ?_⟩ (fun m hm => ?_)
  · repeat' (first
      | refine GZ_i ?_ ?_ ?_ ?_ ?_ ?_ ?_ ?_
      | with_reducible first | exact BzZq.mk | refine Tw.ret ?_ | refine ImZq.i fun h => ?_ | refine IkZq.i fun hk => ?_)
  have al : (scA a b P f g i m).length = i := scA_len
  have tl : (tab m (scB a b P f g i)).length = m := tab_len
  rcases Nat.lt_or_ge m i with hm | hm
  · obtain ⟨_, _, _⟩ := sok m (by omega)
    have hB := (sok (m + 1) (by omega)).2.1 m (by omega)
    repeat' (first
      | refine GZp_i ?_ ?_ ?_ ?_ ?_ ?_ ?_ ?_
      | with_reducible first | exact BzZq.mk | refine Tw.ret ?_ | refine ImZq.i fun h => ?_ | refine IkZq.i fun hk => ?_)
    refine Tw.loopK [2, 3, 4, 5, 37, 38, 6, 8, 40, 41] (fun j : Nat => j ≤ i) (fun j => i - j) (fun j => [(42, .int .i64 j), (9, .int .i64 (bst (scA a b P f g i m) j))])
      (fun j => [some (.cells [.int .i64 a, .int .i64 b, .int .i64 k]), some (.cells [.int .i64 P, .int .i64 f, .int .i64 g]), some (.arr Ei (scA a b P f g i m)), some (.arr Ei (tab m (scB a b P f g i)))]) ⟨0, by omega, TWk.fcanon env [some 0, some 1, some 2, some 3] (by rfl) ?_⟩ (fun j hj => ?_)
    · repeat' (first
        | refine GZ_i ?_ ?_ ?_ ?_ ?_ ?_ ?_ ?_
        | with_reducible first | exact BzZq.mk | refine Tw.ret ?_ | refine ImZq.i fun h => ?_ | refine IkZq.i fun hk => ?_)
    rcases Nat.lt_or_ge j i with hj | hj
    · obtain ⟨w1, w2, w3⟩ := bst_ok (ap := scA a b P f g i m) (i := j)
      have st : bst (scA a b P f g i m) (j + 1) = if 0 < (scA a b P f g i m).getD j 0 ∧ (bst (scA a b P f g i m) j < 0 ∨ (scA a b P f g i m).getD (bst (scA a b P f g i m) j).toNat 0 < (scA a b P f g i m).getD j 0) then (j : Int) else bst (scA a b P f g i m) j := rfl
      have hbb : 0 ≤ bst (scA a b P f g i m) j → (bst (scA a b P f g i m) j).toNat < i := fun h => by omega
      repeat' (first
        | refine GZy_i al ?_ ?_ ?_ ?_ ?_ ?_ ?_ ?_
        | with_reducible first | exact BzZq.mk | refine Tw.ret ?_ | refine ImZq.i fun h => ?_ | refine IkZq.i fun hk => ?_)
      · rw [if_pos h] at st
        refine ⟨j + 1, by omega, by omega, TWk.fcanon env [some 0, some 1, some 2, some 3] (by rfl) ?_⟩
        rw [st]
        repeat' (first
          | refine GZ_i ?_ ?_ ?_ ?_ ?_ ?_ ?_ ?_
          | with_reducible first | exact BzZq.mk | refine Tw.ret ?_ | refine ImZq.i fun h => ?_ | refine IkZq.i fun hk => ?_)
      · rw [if_neg (by omega)] at st
        refine ⟨j + 1, by omega, by omega, TWk.fcanon env [some 0, some 1, some 2, some 3] (by rfl) ?_⟩
        rw [st]
        repeat' (first
          | refine GZ_i ?_ ?_ ?_ ?_ ?_ ?_ ?_ ?_
          | with_reducible first | exact BzZq.mk | refine Tw.ret ?_ | refine ImZq.i fun h => ?_ | refine IkZq.i fun hk => ?_)
    obtain rfl : j = i := by omega
    have e3 : tab (m + 1) (scB a b P f g j) = cut (tab m (scB a b P f g j)) 0 m ++ cut [bst (scA a b P f g j m) j] 0 1 := by rw [tab_succ, cut_all tl.symm]; rfl
    have c1 : (cut [bst (scA a b P f g j m) j] 0 1).length = 1 := rfl
    have hB' : 0 ≤ bst (scA a b P f g j m) j ∧ bst (scA a b P f g j m) j < j := hB
    obtain ⟨z, hz⟩ : ∃ z, z = bst (scA a b P f g j m) j := ⟨_, rfl⟩
    rw [← hz] at e3 c1 hB' ⊢
    repeat' (first
      | refine GZy_i tl ?_ ?_ ?_ ?_ ?_ ?_ ?_ ?_
      | with_reducible first | exact BzZq.mk | refine Tw.ret ?_ | refine ImZq.i fun h => ?_ | refine IkZq.i fun hk => ?_)
    refine Tw.loopK [2, 3, 4, 5, 37, 38, 9] (fun l : Nat => l ≤ j) (fun l => j - l) (fun l => [(69, .int .i64 l), (68, .int .i64 j), (6, .sla 1 2 0 j), (8, .sla 1 3 0 (m + 1))])
      (fun l => [some (.cells [.int .i64 a, .int .i64 b, .int .i64 k]), some (.cells [.int .i64 P, .int .i64 f, .int .i64 g]), some (.arr Ei (scU a b P f g j (scA a b P f g j m) z l)), some (.arr Ei (tab (m + 1) (scB a b P f g j)))]) ⟨0, by omega, TWk.fcanon env [some 0, some 1, some 2, some 5] (by rfl) ?_⟩ (fun l hl => ?_)
    · have g1 : scU a b P f g j (scA a b P f g j m) z 0 = scA a b P f g j m := (is_tab 0 al fun q hq => by rw [if_neg (by omega)]).symm
      repeat' (first
        | exact g1
        | exact e3
        | refine GZ_i ?_ ?_ ?_ ?_ ?_ ?_ ?_ ?_
        | with_reducible first | exact BzZq.mk | refine Tw.ret ?_ | refine ImZq.i fun h => ?_ | refine IkZq.i fun hk => ?_)
    have ll : (scU a b P f g j (scA a b P f g j m) z l).length = j := tab_len
    rcases Nat.lt_or_ge l j with hl | hl
    · have r1 : rem (l : Int) P = (l : Int) % P := rem_nn (by omega)
      have r2 : rem z P = z % P := rem_nn (by omega)
      have r3 : quo (l : Int) P = (l : Int) / P := quo_nn (by omega)
      have r4 : quo z P = z / P := quo_nn (by omega)
      have i1 : 0 ≤ (l : Int) ∧ (l : Int) < g * P := by rw [F.area]; omega
      have i2 : 0 ≤ z ∧ z < g * P := by rw [F.area]; omega
      obtain ⟨d1, _, _⟩ := plc_diff (f := f) hP.1 F.gb.1 i1 i2
      have s1 := Int.emod_nonneg (l : Int) (show P ≠ 0 by omega)
      have s2 := Int.emod_lt_of_pos (l : Int) (show 0 < P by omega)
      have s3 := Int.emod_nonneg z (show P ≠ 0 by omega)
      have s4 := Int.emod_lt_of_pos z (show 0 < P by omega)
      have s5 : 0 ≤ (l : Int) / P := Int.ediv_nonneg (by omega) (by omega)
      have s6 : (l : Int) / P ≤ l := Int.ediv_le_self _ (by omega)
      have s7 : 0 ≤ z / P := Int.ediv_nonneg (by omega) (by omega)
      have s8 : z / P ≤ z := Int.ediv_le_self _ (by omega)
      rw [F.area] at d1
      have pc := place_c F ((l : Int) % P - z % P) ((l : Int) / P - z / P) (by unfold Due; omega)
      have oc := offset_c h0 F (plc P f g ((l : Int) % P - z % P) ((l : Int) / P - z / P)) (by unfold Due; omega)
      obtain ⟨u1, u2⟩ := oUV_bd (P := P) (p := plc P f g ((l : Int) % P - z % P) ((l : Int) / P - z / P)) ⟨n1, n2⟩
      have u3 := sq4 u1 u1
      have u4 := sq4 u2 u2
      have gl : (scU a b P f g j (scA a b P f g j m) z l).getD l 0 = (scA a b P f g j m).getD l 0 := by unfold scU; rw [tab_get hl, if_neg (by omega)]
      have st : scU a b P f g j (scA a b P f g j m) z (l + 1) = (scU a b P f g j (scA a b P f g j m) z l).set l (min ((scA a b P f g j m).getD l 0) (dsq a b P f g l z)) := by
        refine (is_tab 0 (by rw [List.length_set]; exact tab_len) fun q hq => ?_).symm
        unfold scU
        by_cases e : l = q
        · subst e; rw [getD_set_eq (by rw [tab_len]; exact hq), if_pos (by omega)]
        · rw [getD_set_ne e, tab_get hq]
          by_cases hq2 : q < l
          · rw [if_pos hq2, if_pos (by omega)]
          · rw [if_neg hq2, if_neg (by omega)]
      unfold dsq at st
      rw [← r1, ← r2, ← r3, ← r4] at pc oc st
      rw [← r1, ← r2, ← r3, ← r4] at u1 u2 u3 u4
      have t1 : 0 ≤ rem (l : Int) P ∧ rem (l : Int) P < P := by omega
      have t2 : 0 ≤ rem z P ∧ rem z P < P := by omega
      have t3 : 0 ≤ quo (l : Int) P ∧ quo (l : Int) P ≤ l := by omega
      have t4 : 0 ≤ quo z P ∧ quo z P ≤ z := by omega
      generalize (scU a b P f g j (scA a b P f g j m) z l) = D at *
      repeat' (first
        | ((with_reducible refine TDr.any ?_); refine TDr.callE env (by first | rfl | assumption) (by rfl) (by rfl) ?_ (pc) (by rfl) (by rfl) ?_)
        | ((with_reducible refine TDr.any ?_); refine TDr.callE env (by first | rfl | assumption) (by rfl) (by rfl) ?_ (oc) (by rfl) (by rfl) ?_)
        | refine GZy_i ll ?_ ?_ ?_ ?_ ?_ ?_ ?_ ?_
        | with_reducible first | exact BzZq.mk | refine Tw.ret ?_ | refine ImZq.i fun h => ?_ | refine IkZq.i fun hk => ?_)
      rw [← gl] at st
      refine ⟨l + 1, by omega, by omega, TWk.fcanon env [some 0, some 1, some 2, some 3] (by rfl) ?_⟩
      repeat' (first
        | exact st
        | refine GZ_i ?_ ?_ ?_ ?_ ?_ ?_ ?_ ?_
        | with_reducible first | exact BzZq.mk | refine Tw.ret ?_ | refine ImZq.i fun h => ?_ | refine IkZq.i fun hk => ?_)
    obtain rfl : l = j := by omega
    have e4 : scU a b P f g l (scA a b P f g l m) z l = scA a b P f g l (m + 1) := by
      simp only [scA]
      rw [← hz]
      exact List.map_congr_left fun q hq => if_pos (by simpa using hq)
    rw [e4]
    repeat' (first
      | refine GZp_i ?_ ?_ ?_ ?_ ?_ ?_ ?_ ?_
      | with_reducible first | exact BzZq.mk | refine Tw.ret ?_ | refine ImZq.i fun h => ?_ | refine IkZq.i fun hk => ?_)
    refine ⟨m + 1, by omega, by omega, TWk.fcanon env [some 0, some 1, some 2, some 3] (by rfl) ?_⟩
    repeat' (first
      | refine GZ_i ?_ ?_ ?_ ?_ ?_ ?_ ?_ ?_
      | with_reducible first | exact BzZq.mk | refine Tw.ret ?_ | refine ImZq.i fun h => ?_ | refine IkZq.i fun hk => ?_)
  obtain rfl : m = i := by omega
  have e5 : tab m (scB a b P f g m) = tab m fun i => ((scN a b P f g m).getD i 0 : Int) := List.map_congr_left fun q hq => by
    have hq' : q < m := by simpa using hq
    have := (sok m (Nat.le_refl _)).2.1 q hq'
    unfold scN
    rw [tab_get hq']; omega
  rw [e5]
  have tl' : (tab m fun i => ((scN a b P f g m).getD i 0 : Int)).length = m := tab_len
  repeat' (first
    | ((with_reducible refine Tw.retI ?_); refine Tw.frz env 3 (by rfl) (by rfl) (by rfl) ?_ ?_ (Tw.ret ?_))
    | refine GZy_i tl' ?_ ?_ ?_ ?_ ?_ ?_ ?_ ?_
    | with_reducible first | exact BzZq.mk | refine Tw.ret ?_ | refine ImZq.i fun h => ?_ | refine IkZq.i fun hk => ?_)
  rw [cut_all tl'.symm]
  exact ⟨rfl, rfl, trivial⟩
end Go.Proofs.Ytagfanbodglplaa
