/- A curve is fitted to samples that are in order already: it is the curve through them. -/
import Derived.Test.YtagfanbodglplaaCurve5
import Derived.Test.YtagfanbodglplaaGo
namespace Go.Proofs.Ytagfanbodglplaa
open Go Go.Lite
set_option linter.unusedVariables false
set_option linter.unusedSimpArgs false
set_option maxRecDepth 100000
set_option maxHeartbeats 4000000
-- @simp rd2i

theorem near_one (y : Int) : near y 1 = y := by unfold near; omega
def poolL (l : List (Int × Int)) (i : Nat) : List (Int × Int) := tab i fun j => ((l.getD j (0, 0)).2, (1 : Int))
theorem poolL_len {l : List (Int × Int)} {i : Nat} : (poolL l i).length = i := tab_len
theorem poolL_get {l : List (Int × Int)} {i j : Nat} (h : j < i) : (poolL l i).getD j (0, 0) = ((l.getD j (0, 0)).2, 1) := tab_get h
theorem take_tab {l : List (Int × Int)} : tab l.length (fun j => l.getD j (0, 0)) = l := (is_tab (0, 0) rfl fun _ _ => rfl).symm

theorem fit_c (l : List (Int × Int)) (v : Valid l) (hl : Due (l.length ≤ 31)) : TC R Try.prog curve_Fit_f [.lst E2i l] [] (fun v X => v = .tup [.agg [.lst E2i l], .int .i64 0] ∧ X = []) := by
  dsimp only [Due] at hl
  have l2 := v.len
  have vf := v.first
  have vl := v.last
  have rg := v.rg
  have ord := v.ord
  refine tc0 env curve_Fit_s (by rfl) ?_
  dsimp only [curve_Fit_c]
  repeat' (first
    | refine GZp_2i ?_ ?_ ?_ ?_ ?_ ?_ ?_ ?_
    | with_reducible first | exact BzZq.mk | refine Tw.ret ?_ | refine ImZq.i fun h => ?_ | refine IkZq.i fun hk => ?_)
  refine Tw.loopK [0, 2, 3, 26, 27] (fun i : Nat => i ≤ l.length) (fun i => l.length - i) (fun i => [(28, .int .i64 i)]) (fun _ => [some (.cells [.nils])]) ⟨0, by omega, TWk.fcanon env [some 0] (by rfl) ?_⟩ (fun i hi => ?_)
  · repeat' (first
      | refine GZ_2i ?_ ?_ ?_ ?_ ?_ ?_ ?_ ?_
      | with_reducible first | exact BzZq.mk | refine Tw.ret ?_ | refine ImZq.i fun h => ?_ | refine IkZq.i fun hk => ?_)
  rcases Nat.lt_or_ge i l.length with hi | hi
  · have r := rg i hi
    have o := fun h : 0 < i => ord (i - 1) (by omega)
    have e1 : 0 < i → i - 1 + 1 = i := fun h => by omega
    have e2 : ((i : Int) - 1).toNat = i - 1 := by omega
    have o' : 0 < i → (l.getD (i - 1) (0, 0)).1 < (l.getD i (0, 0)).1 := fun h => by have := o h; rw [e1 h] at this; exact this.1
    repeat' (first
      | refine GZy_2i e2 ?_ ?_ ?_ ?_ ?_ ?_ ?_ ?_
      | with_reducible first | exact BzZq.mk | refine Tw.ret ?_ | refine ImZq.i fun h => ?_ | refine IkZq.i fun hk => ?_)
    all_goals first | (exfalso; omega) | skip
    all_goals refine ⟨i + 1, by omega, by omega, TWk.fcanon env [some 0] (by rfl) ?_⟩
    repeat' (first
      | refine GZ_2i ?_ ?_ ?_ ?_ ?_ ?_ ?_ ?_
      | with_reducible first | exact BzZq.mk | refine Tw.ret ?_ | refine ImZq.i fun h => ?_ | refine IkZq.i fun hk => ?_)
  · obtain rfl : l.length = i := by omega
    repeat' (first
      | refine GZp_2i ?_ ?_ ?_ ?_ ?_ ?_ ?_ ?_
      | with_reducible first | exact BzZq.mk | refine Tw.ret ?_ | refine ImZq.i fun h => ?_ | refine IkZq.i fun hk => ?_)
    refine Tw.loopK [0, 2, 3, 67, 68] (fun i : Nat => i ≤ l.length) (fun i => l.length - i) (fun i => [(69, .int .i64 i), (6, .sla 2 1 0 i)]) (fun i => [some (.cells [.nils]), some (.arr E2i (poolL l i))]) ⟨0, by omega, TWk.fcanon env [some 0, none] (by rfl) ?_⟩ (fun i hi => ?_)
    · repeat' (first
        | refine GZ_2i ?_ ?_ ?_ ?_ ?_ ?_ ?_ ?_
        | with_reducible first | exact BzZq.mk | refine Tw.ret ?_ | refine ImZq.i fun h => ?_ | refine IkZq.i fun hk => ?_)
    rcases Nat.lt_or_ge i l.length with hi | hi
    · have r := rg i hi
      have b1 : poolL l (i + 1) = cut (poolL l i) 0 i ++ cut [((l.getD i (0, 0)).2, (1 : Int))] 0 1 := by unfold poolL; rw [cut_all tab_len.symm]; exact tab_succ
      have pl : (poolL l i).length = i := poolL_len
      repeat' (first
        | refine GZp_2i ?_ ?_ ?_ ?_ ?_ ?_ ?_ ?_
        | with_reducible first | exact BzZq.mk | refine Tw.ret ?_ | refine ImZq.i fun h => ?_ | refine IkZq.i fun hk => ?_)
      refine Tw.loopK [0, 2, 3, 67, 68, 69, 6, 8, 9] (fun _ : Nat => True) (fun i => i) (fun _ => []) (fun _ => [some (.cells [.nils]), some (.arr E2i (poolL l i)), some (.cells [.int .i64 (l.getD i (0, 0)).1, .int .i64 (l.getD i (0, 0)).2]), some (.cells [.int .i64 (l.getD i (0, 0)).2, .int .i64 1])]) ⟨0, trivial, TWk.fcanon env [some 0, some 1, some 2, some 3] (by rfl) ?_⟩ (fun _ _ => ?_)
      · repeat' (first
          | refine GZ_2i ?_ ?_ ?_ ?_ ?_ ?_ ?_ ?_
          | with_reducible first | exact BzZq.mk | refine Tw.ret ?_ | refine ImZq.i fun h => ?_ | refine IkZq.i fun hk => ?_)
      by_cases h0 : i = 0
      · repeat' (first
          | refine GZy_2i pl ?_ ?_ ?_ ?_ ?_ ?_ ?_ ?_
          | with_reducible first | exact BzZq.mk | refine Tw.ret ?_ | refine ImZq.i fun h => ?_ | refine IkZq.i fun hk => ?_)
        refine ⟨i + 1, by omega, by omega, TWk.fcanon env [some 0, some 5] (by rfl) ?_⟩
        repeat' (first
          | exact b1
          | refine GZ_2i ?_ ?_ ?_ ?_ ?_ ?_ ?_ ?_
          | with_reducible first | exact BzZq.mk | refine Tw.ret ?_ | refine ImZq.i fun h => ?_ | refine IkZq.i fun hk => ?_)
      · have e2 : ((i : Int) - 1).toNat = i - 1 := by omega
        have pg : (poolL l i).getD (i - 1) (0, 0) = ((l.getD (i - 1) (0, 0)).2, 1) := poolL_get (by omega)
        have r' := rg (i - 1) (by omega)
        have o := (ord (i - 1) (by omega)).2
        rw [Nat.sub_add_cancel (by omega)] at o
        repeat' (first
          | refine GZy_2i (And.intro pl (And.intro e2 pg)) ?_ ?_ ?_ ?_ ?_ ?_ ?_ ?_
          | with_reducible first | exact BzZq.mk | refine Tw.ret ?_ | refine ImZq.i fun h => ?_ | refine IkZq.i fun hk => ?_)
        refine ⟨i + 1, by omega, by omega, TWk.fcanon env [some 0, some 6] (by rfl) ?_⟩
        repeat' (first
          | exact b1
          | refine GZ_2i ?_ ?_ ?_ ?_ ?_ ?_ ?_ ?_
          | with_reducible first | exact BzZq.mk | refine Tw.ret ?_ | refine ImZq.i fun h => ?_ | refine IkZq.i fun hk => ?_)
    · obtain rfl : l.length = i := by omega
      have pl : (poolL l l.length).length = l.length := poolL_len
      repeat' (first
        | refine GZp_2i ?_ ?_ ?_ ?_ ?_ ?_ ?_ ?_
        | with_reducible first | exact BzZq.mk | refine Tw.ret ?_ | refine ImZq.i fun h => ?_ | refine IkZq.i fun hk => ?_)
      refine Tw.loopK [0, 2, 3, 117, 118] (fun i : Nat => i ≤ l.length) (fun i => l.length - i) (fun i => [(119, .int .i64 i), (12, .int .i64 i), (11, .sla 2 2 0 i)]) (fun i => [some (.cells [.nils]), some (.arr E2i (poolL l l.length)), some (.arr E2i (tab i fun j => l.getD j (0, 0)))]) ⟨0, by omega, TWk.fcanon env [some 0, some 1, none] (by rfl) ?_⟩ (fun i hi => ?_)
      · repeat' (first
          | refine GZ_2i ?_ ?_ ?_ ?_ ?_ ?_ ?_ ?_
          | with_reducible first | exact BzZq.mk | refine Tw.ret ?_ | refine ImZq.i fun h => ?_ | refine IkZq.i fun hk => ?_)
      rcases Nat.lt_or_ge i l.length with hi | hi
      · have r := rg i hi
        have pg : (poolL l l.length).getD i (0, 0) = ((l.getD i (0, 0)).2, 1) := poolL_get hi
        have pr1 : ((poolL l l.length).getD i (0, 0)).1 = (l.getD i (0, 0)).2 := by rw [pg]
        have pr2 : ((poolL l l.length).getD i (0, 0)).2 = 1 := by rw [pg]
        have nc := nearest_c (l.getD i (0, 0)).2 1 (by unfold Due; omega)
        rw [near_one] at nc
        repeat' (first
          | refine GZp_2i ?_ ?_ ?_ ?_ ?_ ?_ ?_ ?_
          | with_reducible first | exact BzZq.mk | refine Tw.ret ?_ | refine ImZq.i fun h => ?_ | refine IkZq.i fun hk => ?_)
        simp only [rd2i, Int.toNat_natCast, Nat.add_zero, pg]
        repeat' (first
          | ((with_reducible refine TOps.any ?_); refine TOps.callV env (by rfl) (by rfl) (by rfl) (nc) ?_)
          | refine GZp_2i ?_ ?_ ?_ ?_ ?_ ?_ ?_ ?_
          | with_reducible first | exact BzZq.mk | refine Tw.ret ?_ | refine ImZq.i fun h => ?_ | refine IkZq.i fun hk => ?_)
        refine Tw.loopK [0, 2, 3, 117, 118, 119, 15, 129] (fun k : Nat => k ≤ 1) (fun k => 1 - k) (fun k => [(130, .int .i64 k), (12, .int .i64 ((i : Int) + k)), (11, .sla 2 2 0 (i + k))]) (fun k => [some (.cells [.nils]), some (.arr E2i (poolL l l.length)), some (.arr E2i (tab (i + k) fun j => l.getD j (0, 0)))]) ⟨0, by omega, TWk.fcanon env [some 0, some 1, some 2] (by rfl) ?_⟩ (fun k hk => ?_)
        · repeat' (first
            | refine GZ_2i ?_ ?_ ?_ ?_ ?_ ?_ ?_ ?_
            | with_reducible first | exact BzZq.mk | refine Tw.ret ?_ | refine ImZq.i fun h => ?_ | refine IkZq.i fun hk => ?_)
        rcases Nat.lt_or_ge k 1 with hk | hk
        · obtain rfl : k = 0 := by omega
          have tl : (tab i fun j => l.getD j (0, 0)).length = i := tab_len
          have e1 : tab (i + 1) (fun j => l.getD j (0, 0)) = cut (tab i fun j => l.getD j (0, 0)) 0 i ++ cut [((l.getD i (0, 0)).1, (l.getD i (0, 0)).2)] 0 1 := by rw [cut_all tab_len.symm]; exact tab_succ
          have e2 : ((i : Int) + ((0 : Nat) : Int)).toNat = i := by omega
          repeat' (first
            | refine GZy_2i (And.intro tl e2) ?_ ?_ ?_ ?_ ?_ ?_ ?_ ?_
            | with_reducible first | exact BzZq.mk | refine Tw.ret ?_ | refine ImZq.i fun h => ?_ | refine IkZq.i fun hk => ?_)
          refine ⟨1, by omega, by omega, TWk.fcanon env [some 0, some 1, some 4] (by rfl) ?_⟩
          repeat' (first
            | exact e1
            | refine GZ_2i ?_ ?_ ?_ ?_ ?_ ?_ ?_ ?_
            | with_reducible first | exact BzZq.mk | refine Tw.ret ?_ | refine ImZq.i fun h => ?_ | refine IkZq.i fun hk => ?_)
        · obtain rfl : k = 1 := by omega
          repeat' (first
            | refine GZp_2i ?_ ?_ ?_ ?_ ?_ ?_ ?_ ?_
            | with_reducible first | exact BzZq.mk | refine Tw.ret ?_ | refine ImZq.i fun h => ?_ | refine IkZq.i fun hk => ?_)
          refine ⟨i + 1, by omega, by omega, TWk.fcanon env [some 0, some 1, some 2] (by rfl) ?_⟩
          repeat' (first
            | refine GZ_2i ?_ ?_ ?_ ?_ ?_ ?_ ?_ ?_
            | with_reducible first | exact BzZq.mk | refine Tw.ret ?_ | refine ImZq.i fun h => ?_ | refine IkZq.i fun hk => ?_)
      · obtain rfl : l.length = i := by omega
        have e1 : ((l.length : Int) - 1).toNat = l.length - 1 := by omega
        rw [take_tab]
        repeat' (first
          | ((with_reducible refine Tw.retI ?_); refine Tw.frz env 2 (by rfl) (by rfl) (by rfl) ?_ ?_ (Tw.ret ?_))
          | refine GZy_2i (And.intro vf (And.intro vl e1)) ?_ ?_ ?_ ?_ ?_ ?_ ?_ ?_
          | with_reducible first | exact BzZq.mk | refine Tw.ret ?_ | refine ImZq.i fun h => ?_ | refine IkZq.i fun hk => ?_)
        rw [cut_all rfl]
        exact ⟨rfl, rfl, rfl⟩
end Go.Proofs.Ytagfanbodglplaa
