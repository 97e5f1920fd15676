/- The law ControlSettles. -/
import Derived.Test.YtbaepacihkgalaaStl3
import Derived.Test.YtbaepacihkgalaaCtl8
import Derived.Test.YtbaepacihkgalaaCtlW
import Derived.Test.YtbaepacihkgalaaRMod
import Derived.Test.YtbaepacihkgalaaLControlSettles
import Derived.Test.YtbaepacihkgalaaGo
namespace Go.Proofs.Ytbaepacihkgalaa
open Go Go.Lite
set_option linter.unusedVariables false
set_option linter.unusedSimpArgs false
set_option maxRecDepth 100000
set_option maxHeartbeats 100000000
-- @simp rdi rd6i rdLiJ

/-- The setup's numbers that the law draws. -/
def slT (tg : List Int) (i : Nat) : Int := if i < tg.length then tg.getD i 0 % 4001 else 0
def slG (gn : List Int) (i : Nat) : Int := if i < gn.length then 4 + gn.getD i 0 % 9 else 8
def slV (ld : List Int) (i z : Nat) : Int := if i + z < ld.length then ld.getD (i + z) 0 % 9 else 0
def slB (f k l : TV A) : Option (TRow A) := some (.cells [.int .i64 (2 : Int), .int .i64 (0 : Int), .int .i64 (100 : Int), .int .i64 (80 : Int), f, k, l])
def slR (t g : Nat → Int) (v : Nat → Nat → Int) : Nat → List (Option (TRow A))
  | 0 => [slB .nils .nils .nils]
  | 1 => [slB (.sla 1 1 0 1) (.sl 1 2 0 1) (.sl 1 3 0 1), some (.arr Ei [t 0]), some (.cells [.sla 1 5 0 2]), some (.cells [.sla 1 6 0 2]), some (.arr E6i [(1, 2, 0, 0, g 0, 0)]), some (.arr Ei [(500 : Int), (0 : Int)]), some (.arr Ei [v 0 0, v 0 1])]
  | 2 => [slB (.sla 1 1 0 2) (.sl 1 2 0 2) (.sl 1 3 0 2), some (.arr Ei [t 0, t 1]), some (.cells [.sla 1 5 0 2, .sla 1 7 0 2]), some (.cells [.sla 1 6 0 2, .sla 1 8 0 2]), some (.arr E6i [(1, 2, 0, 0, g 0, 0), (1, 2, 1, 0, g 1, 0)]), some (.arr Ei [(500 : Int), (0 : Int)]), some (.arr Ei [v 0 0, v 0 1]), some (.arr Ei [(500 : Int), (0 : Int)]), some (.arr Ei [v 1 0, v 1 1])]
  | _ => [slB (.sla 1 1 0 3) (.sl 1 2 0 3) (.sl 1 3 0 3), some (.arr Ei [t 0, t 1, t 2]), some (.cells [.sla 1 5 0 2, .sla 1 7 0 2, .sla 1 9 0 2]), some (.cells [.sla 1 6 0 2, .sla 1 8 0 2, .sla 1 10 0 2]), some (.arr E6i [(1, 2, 0, 0, g 0, 0), (1, 2, 1, 0, g 1, 0), (1, 2, 2, 0, g 2, 0)]), some (.arr Ei [(500 : Int), (0 : Int)]), some (.arr Ei [v 0 0, v 0 1]), some (.arr Ei [(500 : Int), (0 : Int)]), some (.arr Ei [v 1 0, v 1 1]), some (.arr Ei [(500 : Int), (0 : Int)]), some (.arr Ei [v 2 0, v 2 1])]
def slS : Nat → TV A
  | 0 => .nils
  | i + 1 => .sla 6 4 0 (i + 1)
def slX (v : Nat → Nat → Int) (i : Nat) : Nat → List Int
  | 0 => []
  | 1 => [v i 0]
  | _ => [v i 0, v i 1]
def slU (t : Nat → Int) (v : Nat → Nat → Int) (u : Nat) : Su := ⟨2, 0, 100, 80, tab u t, tab u fun _ => [500, 0], tab u fun i => [v i 0, v i 1]⟩
theorem slU_tg {t : Nat → Int} {v : Nat → Nat → Int} {u i : Nat} (h : i < u) : (slU t v u).tg.getD i 0 = t i := tab_get h
theorem slU_ks {t : Nat → Int} {v : Nat → Nat → Int} {u i : Nat} (h : i < u) : (slU t v u).ks.getD i [] = [500, 0] := tab_get h
theorem slU_ld {t : Nat → Int} {v : Nat → Nat → Int} {u i : Nat} (h : i < u) : (slU t v u).ld.getD i [] = [v i 0, v i 1] := tab_get h
theorem slU_ok {t : Nat → Int} {v : Nat → Nat → Int} {u : Nat} (hu : 1 ≤ u ∧ u ≤ 3) (ht : ∀ i, 0 ≤ t i ∧ t i ≤ 4000) (hv : ∀ i z, 0 ≤ v i z ∧ v i z ≤ 8) : SuOk (slU t v u) u := by
  refine ⟨by omega, by show 1 ≤ 2 ∧ 2 ≤ 16; omega, by show (0 : Int) ≤ 0 ∧ (0 : Int) ≤ 4000; omega, by show (0 : Int) ≤ 100 ∧ (100 : Int) ≤ 1000; omega, by show (0 : Int) ≤ 80 ∧ (80 : Int) ≤ 24000; omega, tab_len, tab_len, tab_len, fun i hi => ?_, fun i hi => ?_, fun i hi => ?_⟩
  · rw [slU_tg hi]
    have := ht i
    omega
  · rw [slU_ks hi]
    refine ⟨rfl, fun z hz => ?_⟩
    have : z < 2 := hz
    obtain rfl | rfl : z = 0 ∨ z = 1 := by omega
    · decide
    · decide
  · rw [slU_ld hi]
    refine ⟨rfl, fun z hz => ?_⟩
    have : z < 2 := hz
    obtain rfl | rfl : z = 0 ∨ z = 1 := by omega
    · exact hv i 0
    · exact hv i 1
theorem gnE_sc {S : Su} {u : Nat} {g : Nat → Int} (so : SuOk S u) (hg : ∀ i, i < u → 4 ≤ g i ∧ g i ≤ 12) : scE (gnE g u) u S.Z = 0 := by
  have hu := so.un
  refine scE_of (by rw [show (gnE g u).length = u from tab_len]; omega) (gnE_ok hu.2 hg) ?_
  exact List.Pairwise.imp_of_mem (R := fun _ _ => True) (fun {a b} ha hb _ => by obtain ⟨i, _, rfl⟩ := gnE_mem ha; obtain ⟨j, _, rfl⟩ := gnE_mem hb; exact Int.le_refl _) (List.pairwise_of_forall (fun _ _ => trivial))
theorem slU_chk {S : Su} {u : Nat} (so : SuOk S u) : chkE S.Z S.mr S.rg S.tol S.tg S.ks S.ld = 0 := by
  have hu := so.un
  have oZ := so.Z
  have h1 := so.mr
  have h2 := so.rg
  have h3 := so.tol
  have tl := so.tl
  have row : ∀ (l : List Int) (m : Int), l.length = S.Z → (∀ z, z < S.Z → 0 ≤ l.getD z 0 ∧ l.getD z 0 ≤ m) → rowE S.Z m l = 0 := fun l m hl hv => by
    unfold rowE
    rw [if_neg (by omega)]
    exact fstE_zero.2 fun z hz => if_neg (by have := hv z (by omega); omega)
  have tbl : ∀ (l : List (List Int)) (m : Int), l.length = u → (∀ i, i < u → rowE S.Z m (l.getD i []) = 0) → tblE l u S.Z m = 0 := fun l m hl hv => by
    unfold tblE
    rw [if_neg (by omega)]
    exact fstE_zero.2 fun i hi => hv i (by omega)
  have ek := tbl S.ks 1000 so.kl fun i hi => row _ _ (so.k i hi).1 (so.k i hi).2
  have el := tbl S.ld 8 so.ll fun i hi => row _ _ (so.l i hi).1 (so.l i hi).2
  unfold chkE
  rw [if_neg (by omega), if_neg (by omega), if_neg (by omega), if_neg, if_neg]
  · rw [tl]; exact el
  · rw [tl]; exact fun h => h ek
  · refine fun h => h ?_
    exact fstE_zero.2 fun i hi => if_neg (by have := so.t i (by omega); omega)
theorem ControlSettles_law (tg ld gn : List Int) (ink : Int) (wt : tg.length ≤ 9223372036854775807 ∧ ∀ y ∈ tg, Wi y) (wl : ld.length ≤ 9223372036854775807 ∧ ∀ y ∈ ld, Wi y) (wg : gn.length ≤ 9223372036854775807 ∧ ∀ y ∈ gn, Wi y) (wk : rng .i64 ink) :
    TC R Try.prog K2_ControlSettles_f [.lst Ei tg, .lst Ei ld, .lst Ei gn, .int .i64 ink] [] (fun v X => v = .bool true ∧ X = []) := by
  have mk := rMod_c ink 40 (by dsimp only [Due]; simp only [rng] at wk; omega)
  refine tc0 env K2_ControlSettles_s (by rfl) ?_
  dsimp only [K2_ControlSettles_c]
  obtain ⟨u, eu⟩ : ∃ u : Nat, 1 + rem (tg.length : Int) 3 = u ∧ 1 ≤ u ∧ u ≤ 3 := ⟨1 + tg.length % 3, by unfold rem; rw [Int.tmod_eq_emod_of_nonneg (by omega)]; omega, by omega, by omega⟩
  obtain ⟨eu, u1, u3⟩ := eu
  repeat' (first
    | ((with_reducible refine TOps.any ?_); refine TOps.callV env (by rfl) (by rfl) (by rfl) (controlWorks_c) ?_)
    | refine GZp_i_6i_LiJ ?_ ?_ ?_ ?_ ?_ ?_ ?_ ?_
    | with_reducible first | exact BzZq.mk | refine Tw.ret ?_ | refine ImZq.i fun h => ?_ | refine IkZq.i fun hk => ?_)
  rw [eu]
  have wtI : ∀ i, i < tg.length → rng .i64 (tg.getD i 0) := fun i hi => wt.2 _ (getD_mem hi)
  have wlI : ∀ i, i < ld.length → rng .i64 (ld.getD i 0) := fun i hi => wl.2 _ (getD_mem hi)
  have wgI : ∀ i, i < gn.length → rng .i64 (gn.getD i 0) := fun i hi => wg.2 _ (getD_mem hi)
  obtain ⟨t, et⟩ : ∃ t, t = slT tg := ⟨_, rfl⟩
  obtain ⟨g, eg⟩ : ∃ g, g = slG gn := ⟨_, rfl⟩
  obtain ⟨v, ev⟩ : ∃ v, v = slV ld := ⟨_, rfl⟩
  refine Tw.loopK [0, 1, 2, 3, 10] (fun i : Nat => i ≤ u) (fun i => u - i) (fun i => [(31, .int .i64 i), (30, .int .i64 u), (11, slS i)]) (fun i => slR t g v i) ⟨0, by omega, TWk.fcanon env [some 0] (by rfl) ?_⟩ (fun i hi => ?_)
  · repeat' (first
      | refine GZ_i_6i_LiJ ?_ ?_ ?_ ?_ ?_ ?_ ?_ ?_
      | with_reducible first | exact BzZq.mk | refine Tw.ret ?_ | refine ImZq.i fun h => ?_ | refine IkZq.i fun hk => ?_)
  rcases Nat.lt_or_ge i u with hi | hi
  · obtain rfl | rfl | rfl : i = 0 ∨ i = 1 ∨ i = 2 := by omega
    · have mt := fun h => rMod_c (tg.getD 0 0) 4001 (by have := wtI 0 h; dsimp only [Due]; simp only [rng] at this; omega)
      have mg := fun h => rMod_c (gn.getD 0 0) 9 (by have := wgI 0 h; dsimp only [Due]; simp only [rng] at this; omega)
      repeat' (first
        | ((with_reducible refine TOps.any ?_); refine TOps.callV env (by rfl) (by rfl) (by rfl) (mt (by omega)) ?_)
        | ((with_reducible refine TOps.any ?_); refine TOps.callV env (by rfl) (by rfl) (by rfl) (mg (by omega)) ?_)
        | refine GZp_i_6i_LiJ ?_ ?_ ?_ ?_ ?_ ?_ ?_ ?_
        | with_reducible first | exact BzZq.mk | refine Tw.ret ?_ | refine ImZq.i fun h => ?_ | refine IkZq.i fun hk => ?_)
      all_goals
        refine Tw.loopK [0, 1, 2, 3, 10, 11, 12, 30, 31] (fun z : Nat => z ≤ 2) (fun z => 2 - z) (fun z => [(53, .int .i64 z), (15, .sla 1 1 0 z), (13, .int .i64 (t 0)), (14, .int .i64 (g 0))]) (fun z => slR t g v 0 ++ [some (.arr Ei (slX v 0 z))]) ⟨0, by omega, TWk.fcanon env [some 0, none] (by rfl) ?_⟩ (fun z hz => ?_)
        · rw [et, eg]
          repeat' (first
            | exact if_pos (by omega)
            | exact if_neg (by omega)
            | exact rfl
            | refine GZ_i_6i_LiJ ?_ ?_ ?_ ?_ ?_ ?_ ?_ ?_
            | with_reducible first | exact BzZq.mk | refine Tw.ret ?_ | refine ImZq.i fun h => ?_ | refine IkZq.i fun hk => ?_)
        obtain rfl | rfl | rfl : z = 0 ∨ z = 1 ∨ z = 2 := by omega
        · have mv := fun h => rMod_c (ld.getD (0 + 0) 0) 9 (by have := wlI (0 + 0) h; dsimp only [Due]; simp only [rng] at this; omega)
          repeat' (first
            | ((with_reducible refine TOps.any ?_); refine TOps.callV env (by rfl) (by rfl) (by rfl) (mv (by omega)) ?_)
            | refine GZp_i_6i_LiJ ?_ ?_ ?_ ?_ ?_ ?_ ?_ ?_
            | with_reducible first | exact BzZq.mk | refine Tw.ret ?_ | refine ImZq.i fun h => ?_ | refine IkZq.i fun hk => ?_)
          all_goals
            refine ⟨1, by omega, by omega, TWk.fcanon env [some 0, some (1 + 2)] (by rfl) ?_⟩
            rw [ev]
            repeat' (first
              | exact congrArg (fun x => [x]) (if_pos (by omega))
              | exact congrArg (fun x => [x]) (if_neg (by omega))
              | refine GZ_i_6i_LiJ ?_ ?_ ?_ ?_ ?_ ?_ ?_ ?_
              | with_reducible first | exact BzZq.mk | refine Tw.ret ?_ | refine ImZq.i fun h => ?_ | refine IkZq.i fun hk => ?_)
        · have mv := fun h => rMod_c (ld.getD (0 + 1) 0) 9 (by have := wlI (0 + 1) h; dsimp only [Due]; simp only [rng] at this; omega)
          repeat' (first
            | ((with_reducible refine TOps.any ?_); refine TOps.callV env (by rfl) (by rfl) (by rfl) (mv (by omega)) ?_)
            | exact Nat.le_refl 1
            | refine GZp_i_6i_LiJ ?_ ?_ ?_ ?_ ?_ ?_ ?_ ?_
            | with_reducible first | exact BzZq.mk | refine Tw.ret ?_ | refine ImZq.i fun h => ?_ | refine IkZq.i fun hk => ?_)
          all_goals
            refine ⟨2, by omega, by omega, TWk.fcanon env [some 0, some (1 + 2)] (by rfl) ?_⟩
            rw [ev]
            repeat' (first
              | exact congrArg (fun x => [slV ld 0 0, x]) (if_pos (by omega))
              | exact congrArg (fun x => [slV ld 0 0, x]) (if_neg (by omega))
              | refine GZ_i_6i_LiJ ?_ ?_ ?_ ?_ ?_ ?_ ?_ ?_
              | with_reducible first | exact BzZq.mk | refine Tw.ret ?_ | refine ImZq.i fun h => ?_ | refine IkZq.i fun hk => ?_)
        · have lc1 : ∀ x : Ev, (cut [x] 0 1).length = 1 := fun _ => rfl
          have lc2 : ∀ x : A E6i, (cut [x] 0 1).length = 1 := fun _ => rfl
          repeat' (first
            | exact Nat.le_refl 1
            | exact Nat.le_refl 2
            | refine GZy_i_6i_LiJ (And.intro lc1 lc2) ?_ ?_ ?_ ?_ ?_ ?_ ?_ ?_
            | with_reducible first | exact BzZq.mk | refine Tw.ret ?_ | refine ImZq.i fun h => ?_ | refine IkZq.i fun hk => ?_)
          refine ⟨0 + 1, by omega, by omega, TWk.fcanon env [some 0, some 3, some 6, some 8, some 10, some 4, some 1] (by rfl) ?_⟩
          repeat' (first
            | exact rfl
            | refine GZ_i_6i_LiJ ?_ ?_ ?_ ?_ ?_ ?_ ?_ ?_
            | with_reducible first | exact BzZq.mk | refine Tw.ret ?_ | refine ImZq.i fun h => ?_ | refine IkZq.i fun hk => ?_)
    · have mt := fun h => rMod_c (tg.getD 1 0) 4001 (by have := wtI 1 h; dsimp only [Due]; simp only [rng] at this; omega)
      have mg := fun h => rMod_c (gn.getD 1 0) 9 (by have := wgI 1 h; dsimp only [Due]; simp only [rng] at this; omega)
      repeat' (first
        | ((with_reducible refine TOps.any ?_); refine TOps.callV env (by rfl) (by rfl) (by rfl) (mt (by omega)) ?_)
        | ((with_reducible refine TOps.any ?_); refine TOps.callV env (by rfl) (by rfl) (by rfl) (mg (by omega)) ?_)
        | refine GZp_i_6i_LiJ ?_ ?_ ?_ ?_ ?_ ?_ ?_ ?_
        | with_reducible first | exact BzZq.mk | refine Tw.ret ?_ | refine ImZq.i fun h => ?_ | refine IkZq.i fun hk => ?_)
      all_goals
        refine Tw.loopK [0, 1, 2, 3, 10, 11, 12, 30, 31] (fun z : Nat => z ≤ 2) (fun z => 2 - z) (fun z => [(53, .int .i64 z), (15, .sla 1 7 0 z), (13, .int .i64 (t 1)), (14, .int .i64 (g 1))]) (fun z => slR t g v 1 ++ [some (.arr Ei (slX v 1 z))]) ⟨0, by omega, TWk.fcanon env [some 0, some 1, some 2, some 3, some 4, some 5, some 6, none] (by rfl) ?_⟩ (fun z hz => ?_)
        · rw [et, eg]
          repeat' (first
            | exact if_pos (by omega)
            | exact if_neg (by omega)
            | exact rfl
            | refine GZ_i_6i_LiJ ?_ ?_ ?_ ?_ ?_ ?_ ?_ ?_
            | with_reducible first | exact BzZq.mk | refine Tw.ret ?_ | refine ImZq.i fun h => ?_ | refine IkZq.i fun hk => ?_)
        obtain rfl | rfl | rfl : z = 0 ∨ z = 1 ∨ z = 2 := by omega
        · have mv := fun h => rMod_c (ld.getD (1 + 0) 0) 9 (by have := wlI (1 + 0) h; dsimp only [Due]; simp only [rng] at this; omega)
          repeat' (first
            | ((with_reducible refine TOps.any ?_); refine TOps.callV env (by rfl) (by rfl) (by rfl) (mv (by omega)) ?_)
            | refine GZp_i_6i_LiJ ?_ ?_ ?_ ?_ ?_ ?_ ?_ ?_
            | with_reducible first | exact BzZq.mk | refine Tw.ret ?_ | refine ImZq.i fun h => ?_ | refine IkZq.i fun hk => ?_)
          all_goals
            refine ⟨1, by omega, by omega, TWk.fcanon env [some 0, some 1, some 2, some 3, some 4, some 5, some 6, some (7 + 2)] (by rfl) ?_⟩
            rw [ev]
            repeat' (first
              | exact congrArg (fun x => [x]) (if_pos (by omega))
              | exact congrArg (fun x => [x]) (if_neg (by omega))
              | refine GZ_i_6i_LiJ ?_ ?_ ?_ ?_ ?_ ?_ ?_ ?_
              | with_reducible first | exact BzZq.mk | refine Tw.ret ?_ | refine ImZq.i fun h => ?_ | refine IkZq.i fun hk => ?_)
        · have mv := fun h => rMod_c (ld.getD (1 + 1) 0) 9 (by have := wlI (1 + 1) h; dsimp only [Due]; simp only [rng] at this; omega)
          repeat' (first
            | ((with_reducible refine TOps.any ?_); refine TOps.callV env (by rfl) (by rfl) (by rfl) (mv (by omega)) ?_)
            | exact Nat.le_refl 1
            | refine GZp_i_6i_LiJ ?_ ?_ ?_ ?_ ?_ ?_ ?_ ?_
            | with_reducible first | exact BzZq.mk | refine Tw.ret ?_ | refine ImZq.i fun h => ?_ | refine IkZq.i fun hk => ?_)
          all_goals
            refine ⟨2, by omega, by omega, TWk.fcanon env [some 0, some 1, some 2, some 3, some 4, some 5, some 6, some (7 + 2)] (by rfl) ?_⟩
            rw [ev]
            repeat' (first
              | exact congrArg (fun x => [slV ld 1 0, x]) (if_pos (by omega))
              | exact congrArg (fun x => [slV ld 1 0, x]) (if_neg (by omega))
              | refine GZ_i_6i_LiJ ?_ ?_ ?_ ?_ ?_ ?_ ?_ ?_
              | with_reducible first | exact BzZq.mk | refine Tw.ret ?_ | refine ImZq.i fun h => ?_ | refine IkZq.i fun hk => ?_)
        · have lc1 : ∀ x : Ev, (cut [x] 0 1).length = 1 := fun _ => rfl
          have lc2 : ∀ x : A E6i, (cut [x] 0 1).length = 1 := fun _ => rfl
          repeat' (first
            | exact Nat.le_refl 1
            | exact Nat.le_refl 2
            | refine GZy_i_6i_LiJ (And.intro lc1 lc2) ?_ ?_ ?_ ?_ ?_ ?_ ?_ ?_
            | with_reducible first | exact BzZq.mk | refine Tw.ret ?_ | refine ImZq.i fun h => ?_ | refine IkZq.i fun hk => ?_)
          refine ⟨1 + 1, by omega, by omega, TWk.fcanon env [some 0, some 9, some 12, some 14, some 16, some 5, some 6, some 10, some 7] (by rfl) ?_⟩
          repeat' (first
            | exact rfl
            | refine GZ_i_6i_LiJ ?_ ?_ ?_ ?_ ?_ ?_ ?_ ?_
            | with_reducible first | exact BzZq.mk | refine Tw.ret ?_ | refine ImZq.i fun h => ?_ | refine IkZq.i fun hk => ?_)
    · have mt := fun h => rMod_c (tg.getD 2 0) 4001 (by have := wtI 2 h; dsimp only [Due]; simp only [rng] at this; omega)
      have mg := fun h => rMod_c (gn.getD 2 0) 9 (by have := wgI 2 h; dsimp only [Due]; simp only [rng] at this; omega)
      repeat' (first
        | ((with_reducible refine TOps.any ?_); refine TOps.callV env (by rfl) (by rfl) (by rfl) (mt (by omega)) ?_)
        | ((with_reducible refine TOps.any ?_); refine TOps.callV env (by rfl) (by rfl) (by rfl) (mg (by omega)) ?_)
        | refine GZp_i_6i_LiJ ?_ ?_ ?_ ?_ ?_ ?_ ?_ ?_
        | with_reducible first | exact BzZq.mk | refine Tw.ret ?_ | refine ImZq.i fun h => ?_ | refine IkZq.i fun hk => ?_)
      all_goals
        refine Tw.loopK [0, 1, 2, 3, 10, 11, 12, 30, 31] (fun z : Nat => z ≤ 2) (fun z => 2 - z) (fun z => [(53, .int .i64 z), (15, .sla 1 9 0 z), (13, .int .i64 (t 2)), (14, .int .i64 (g 2))]) (fun z => slR t g v 2 ++ [some (.arr Ei (slX v 2 z))]) ⟨0, by omega, TWk.fcanon env [some 0, some 1, some 2, some 3, some 4, some 5, some 6, some 7, some 8, none] (by rfl) ?_⟩ (fun z hz => ?_)
        · rw [et, eg]
          repeat' (first
            | exact if_pos (by omega)
            | exact if_neg (by omega)
            | exact rfl
            | refine GZ_i_6i_LiJ ?_ ?_ ?_ ?_ ?_ ?_ ?_ ?_
            | with_reducible first | exact BzZq.mk | refine Tw.ret ?_ | refine ImZq.i fun h => ?_ | refine IkZq.i fun hk => ?_)
        obtain rfl | rfl | rfl : z = 0 ∨ z = 1 ∨ z = 2 := by omega
        · have mv := fun h => rMod_c (ld.getD (2 + 0) 0) 9 (by have := wlI (2 + 0) h; dsimp only [Due]; simp only [rng] at this; omega)
          repeat' (first
            | ((with_reducible refine TOps.any ?_); refine TOps.callV env (by rfl) (by rfl) (by rfl) (mv (by omega)) ?_)
            | refine GZp_i_6i_LiJ ?_ ?_ ?_ ?_ ?_ ?_ ?_ ?_
            | with_reducible first | exact BzZq.mk | refine Tw.ret ?_ | refine ImZq.i fun h => ?_ | refine IkZq.i fun hk => ?_)
          all_goals
            refine ⟨1, by omega, by omega, TWk.fcanon env [some 0, some 1, some 2, some 3, some 4, some 5, some 6, some 7, some 8, some (9 + 2)] (by rfl) ?_⟩
            rw [ev]
            repeat' (first
              | exact congrArg (fun x => [x]) (if_pos (by omega))
              | exact congrArg (fun x => [x]) (if_neg (by omega))
              | refine GZ_i_6i_LiJ ?_ ?_ ?_ ?_ ?_ ?_ ?_ ?_
              | with_reducible first | exact BzZq.mk | refine Tw.ret ?_ | refine ImZq.i fun h => ?_ | refine IkZq.i fun hk => ?_)
        · have mv := fun h => rMod_c (ld.getD (2 + 1) 0) 9 (by have := wlI (2 + 1) h; dsimp only [Due]; simp only [rng] at this; omega)
          repeat' (first
            | ((with_reducible refine TOps.any ?_); refine TOps.callV env (by rfl) (by rfl) (by rfl) (mv (by omega)) ?_)
            | exact Nat.le_refl 1
            | refine GZp_i_6i_LiJ ?_ ?_ ?_ ?_ ?_ ?_ ?_ ?_
            | with_reducible first | exact BzZq.mk | refine Tw.ret ?_ | refine ImZq.i fun h => ?_ | refine IkZq.i fun hk => ?_)
          all_goals
            refine ⟨2, by omega, by omega, TWk.fcanon env [some 0, some 1, some 2, some 3, some 4, some 5, some 6, some 7, some 8, some (9 + 2)] (by rfl) ?_⟩
            rw [ev]
            repeat' (first
              | exact congrArg (fun x => [slV ld 2 0, x]) (if_pos (by omega))
              | exact congrArg (fun x => [slV ld 2 0, x]) (if_neg (by omega))
              | refine GZ_i_6i_LiJ ?_ ?_ ?_ ?_ ?_ ?_ ?_ ?_
              | with_reducible first | exact BzZq.mk | refine Tw.ret ?_ | refine ImZq.i fun h => ?_ | refine IkZq.i fun hk => ?_)
        · have lc1 : ∀ x : Ev, (cut [x] 0 1).length = 1 := fun _ => rfl
          have lc2 : ∀ x : A E6i, (cut [x] 0 1).length = 1 := fun _ => rfl
          repeat' (first
            | exact Nat.le_refl 1
            | exact Nat.le_refl 2
            | refine GZy_i_6i_LiJ (And.intro lc1 lc2) ?_ ?_ ?_ ?_ ?_ ?_ ?_ ?_
            | with_reducible first | exact BzZq.mk | refine Tw.ret ?_ | refine ImZq.i fun h => ?_ | refine IkZq.i fun hk => ?_)
          refine ⟨2 + 1, by omega, by omega, TWk.fcanon env [some 0, some 11, some 14, some 16, some 18, some 5, some 6, some 7, some 8, some 12, some 9] (by rfl) ?_⟩
          repeat' (first
            | exact rfl
            | refine GZ_i_6i_LiJ ?_ ?_ ?_ ?_ ?_ ?_ ?_ ?_
            | with_reducible first | exact BzZq.mk | refine Tw.ret ?_ | refine ImZq.i fun h => ?_ | refine IkZq.i fun hk => ?_)
  · obtain rfl : u = i := by omega
    have bt : ∀ i, 0 ≤ t i ∧ t i ≤ 4000 := fun i => by rw [et]; unfold slT; split <;> omega
    have bg : ∀ i, 4 ≤ g i ∧ g i ≤ 12 := fun i => by rw [eg]; unfold slG; split <;> omega
    have bv : ∀ i z, 0 ≤ v i z ∧ v i z ≤ 8 := fun i z => by rw [ev]; unfold slV; split <;> omega
    clear et eg ev wtI wlI wgI eu
    obtain ⟨S, eS⟩ : ∃ S, S = slU t v u := ⟨_, rfl⟩
    have so : SuOk S u := by rw [eS]; exact slU_ok ⟨u1, u3⟩ bt bv
    have hc := slU_chk so
    obtain ⟨J, eJ⟩ : ∃ J : Nat, ink % 40 = J := ⟨(ink % 40).toNat, by omega⟩
    have hJ : J < 40 := by omega
    rw [eJ] at mk
    have h0 : ctlE ((64 + J : Nat) : Int) 10 = 0 := if_neg (by omega)
    have sc := gnE_sc (S := S) so (g := g) fun i _ => bg i
    have gl : (gnE g u).length = u := tab_len
    have lc := loop_c S u ((64 + J : Nat) : Int) 10 (gnE g u) (13 * (64 + J) + 100) so hc h0 sc (by omega) (by dsimp only [Due]; omega)
    have hK : ∀ i z, i < u → z < S.Z → 0 ≤ (S.ks.getD i []).getD z 0 ∧ (S.ks.getD i []).getD z 0 ≤ 500 := fun i z hi hz => by
      rw [eS] at hz ⊢
      rw [slU_ks hi]
      have : z < 2 := hz
      obtain rfl | rfl : z = 0 ∨ z = 1 := by omega
      · decide
      · decide
    have st := fun k (hk : k < 13 * (64 + J) + 100) (h12 : 12 * (64 + J) + 63 ≤ k) => settled (S := S) (u := u) (I := 64 + J) (g := g) (cr := 10) so h0 (fun i hi => by rw [eS, slU_tg hi]; exact bt i) (fun i _ => bg i) (by omega) hK (by rw [eS]; rfl) (by rw [eS]; rfl) (n := 13 * (64 + J) + 100) hk (by omega) h12
    obtain ⟨L, eL⟩ : ∃ L, L = lpL S u (newCt S ((64 + J : Nat) : Int) 10) (gnE g u) (13 * (64 + J) + 100) := ⟨_, rfl⟩
    have lL : (L.length : Int) = 13 * (64 + (J : Int)) + 100 := by rw [eL, show (lpL S u (newCt S ((64 + J : Nat) : Int) 10) (gnE g u) (13 * (64 + J) + 100)).length = 13 * (64 + J) + 100 from tab_len]; omega
    rw [← eL] at lc st
    clear eL
    rw [show ((64 + J : Nat) : Int) = 64 + (J : Int) by omega, show ((13 * (64 + J) + 100 : Nat) : Int) = 13 * (64 + (J : Int)) + 100 by omega] at lc
    obtain ⟨dL, edL⟩ : ∃ dL, dL = List.drop (12 * (64 + (J : Int)) + 63).toNat L := ⟨_, rfl⟩
    have sd : ∀ k, k < dL.length → (dL.getD k (R.d E2iL2iJLLiJJi)).2.1 = 0 := fun k hk => by
      have ea : (12 * (64 + (J : Int)) + 63).toNat = 12 * (64 + J) + 63 := by omega
      rw [edL, ea] at hk ⊢
      rw [List.length_drop] at hk
      rw [List.getD_eq_getElem?_getD, List.getElem?_drop, ← List.getD_eq_getElem?_getD]
      exact st _ (by omega) (by omega)
    have ld9 : dL.length ≤ 1500 := by rw [edL, List.length_drop]; omega
    clear st hK
    obtain rfl | rfl | rfl : u = 1 ∨ u = 2 ∨ u = 3 := by omega
    · refine Tw.frz env 1 (by rfl) (by rfl) (by rfl) ?_ ?_ ?_
      · repeat' (first
          | refine GZ_i_6i_LiJ ?_ ?_ ?_ ?_ ?_ ?_ ?_ ?_
          | with_reducible first | exact BzZq.mk | refine Tw.ret ?_ | refine ImZq.i fun h => ?_ | refine IkZq.i fun hk => ?_)
      · repeat' (first
          | refine GZ_i_6i_LiJ ?_ ?_ ?_ ?_ ?_ ?_ ?_ ?_
          | with_reducible first | exact BzZq.mk | refine Tw.ret ?_ | refine ImZq.i fun h => ?_ | refine IkZq.i fun hk => ?_)
      refine Tw.frz env 4 (by rfl) (by rfl) (by rfl) ?_ ?_ ?_
      · repeat' (first
          | refine GZ_i_6i_LiJ ?_ ?_ ?_ ?_ ?_ ?_ ?_ ?_
          | with_reducible first | exact BzZq.mk | refine Tw.ret ?_ | refine ImZq.i fun h => ?_ | refine IkZq.i fun hk => ?_)
      · repeat' (first
          | refine GZ_i_6i_LiJ ?_ ?_ ?_ ?_ ?_ ?_ ?_ ?_
          | with_reducible first | exact BzZq.mk | refine Tw.ret ?_ | refine ImZq.i fun h => ?_ | refine IkZq.i fun hk => ?_)
      refine Tw.frz env 5 (by rfl) (by rfl) (by rfl) ?_ ?_ ?_
      · repeat' (first
          | refine GZ_i_6i_LiJ ?_ ?_ ?_ ?_ ?_ ?_ ?_ ?_
          | with_reducible first | exact BzZq.mk | refine Tw.ret ?_ | refine ImZq.i fun h => ?_ | refine IkZq.i fun hk => ?_)
      · repeat' (first
          | refine GZ_i_6i_LiJ ?_ ?_ ?_ ?_ ?_ ?_ ?_ ?_
          | with_reducible first | exact BzZq.mk | refine Tw.ret ?_ | refine ImZq.i fun h => ?_ | refine IkZq.i fun hk => ?_)
      refine Tw.frz env 6 (by rfl) (by rfl) (by rfl) ?_ ?_ ?_
      · repeat' (first
          | refine GZ_i_6i_LiJ ?_ ?_ ?_ ?_ ?_ ?_ ?_ ?_
          | with_reducible first | exact BzZq.mk | refine Tw.ret ?_ | refine ImZq.i fun h => ?_ | refine IkZq.i fun hk => ?_)
      · repeat' (first
          | refine GZ_i_6i_LiJ ?_ ?_ ?_ ?_ ?_ ?_ ?_ ?_
          | with_reducible first | exact BzZq.mk | refine Tw.ret ?_ | refine ImZq.i fun h => ?_ | refine IkZq.i fun hk => ?_)
      refine Tw.reP (H' := [slB (.lst Ei [t 0]) (.sla 1 2 0 1) (.sla 1 3 0 1), none, some (.arr ELiJ [[(500 : Int), (0 : Int)]]), some (.arr ELiJ [[v 0 0, v 0 1]]), none, none, none]) (by rfl) ?_
      refine Tw.frz env 2 (by rfl) (by rfl) (by rfl) ?_ ?_ ?_
      · repeat' (first
          | refine GZ_i_6i_LiJ ?_ ?_ ?_ ?_ ?_ ?_ ?_ ?_
          | with_reducible first | exact BzZq.mk | refine Tw.ret ?_ | refine ImZq.i fun h => ?_ | refine IkZq.i fun hk => ?_)
      · repeat' (first
          | refine GZ_i_6i_LiJ ?_ ?_ ?_ ?_ ?_ ?_ ?_ ?_
          | with_reducible first | exact BzZq.mk | refine Tw.ret ?_ | refine ImZq.i fun h => ?_ | refine IkZq.i fun hk => ?_)
      refine Tw.frz env 3 (by rfl) (by rfl) (by rfl) ?_ ?_ ?_
      · repeat' (first
          | refine GZ_i_6i_LiJ ?_ ?_ ?_ ?_ ?_ ?_ ?_ ?_
          | with_reducible first | exact BzZq.mk | refine Tw.ret ?_ | refine ImZq.i fun h => ?_ | refine IkZq.i fun hk => ?_)
      · repeat' (first
          | refine GZ_i_6i_LiJ ?_ ?_ ?_ ?_ ?_ ?_ ?_ ?_
          | with_reducible first | exact BzZq.mk | refine Tw.ret ?_ | refine ImZq.i fun h => ?_ | refine IkZq.i fun hk => ?_)
      rw [eS] at lc
      have lc2 : TC R Try.prog control_Loop_f [.agg [.int .i64 (2 : Int), .int .i64 (0 : Int), .int .i64 (100 : Int), .int .i64 (80 : Int), .lst Ei [t 0], .lst ELiJ [[(500 : Int), (0 : Int)]], .lst ELiJ [[v 0 0, v 0 1]]], .agg [.int .i64 (64 + (J : Int)), .int .i64 (10 : Int)], .lst E6i [((1 : Int), (2 : Int), (0 : Int), (0 : Int), g 0, (0 : Int))], .int .i64 (13 * (64 + (J : Int)) + 100)] [] (fun v X => v = .tup [.lst E2iL2iJLLiJJi L, .int .i64 0] ∧ X = []) := lc
      clear lc
      repeat' (first
        | ((with_reducible refine TOps.any ?_); refine TOps.callV env (by rfl) (by rfl) (by rfl) (mk) ?_)
        | ((with_reducible refine TOps.any ?_); refine TOps.callV env (by rfl) (by rfl) (by rfl) (lc2) ?_)
        | refine GZy_i_6i_LiJ lL ?_ ?_ ?_ ?_ ?_ ?_ ?_ ?_
        | with_reducible first | exact BzZq.mk | refine Tw.ret ?_ | refine ImZq.i fun h => ?_ | refine IkZq.i fun hk => ?_)
      rw [← edL]
      refine Tw.loopK [130] (fun k : Nat => k ≤ dL.length) (fun k => dL.length - k) (fun k => [(132, .int .i64 k), (131, .int .i64 dL.length)]) (fun _ => []) ⟨0, by omega, TWk.fcanon env [] (by rfl) ?_⟩ (fun k hk => ?_)
      · repeat' (first
          | refine GZ_i_6i_LiJ ?_ ?_ ?_ ?_ ?_ ?_ ?_ ?_
          | with_reducible first | exact BzZq.mk | refine Tw.ret ?_ | refine ImZq.i fun h => ?_ | refine IkZq.i fun hk => ?_)
      rcases Nat.lt_or_ge k dL.length with hk | hk
      · have sk := sd k hk
        clear sd lc2
        repeat' (first
          | refine GZy_i_6i_LiJ sk ?_ ?_ ?_ ?_ ?_ ?_ ?_ ?_
          | with_reducible first | exact BzZq.mk | refine Tw.ret ?_ | refine ImZq.i fun h => ?_ | refine IkZq.i fun hk => ?_)
        refine ⟨k + 1, by omega, by omega, TWk.fcanon env [] (by rfl) ?_⟩
        repeat' (first
          | refine GZ_i_6i_LiJ ?_ ?_ ?_ ?_ ?_ ?_ ?_ ?_
          | with_reducible first | exact BzZq.mk | refine Tw.ret ?_ | refine ImZq.i fun h => ?_ | refine IkZq.i fun hk => ?_)
      · obtain rfl : dL.length = k := by omega
        repeat' (first
          | refine GZp_i_6i_LiJ ?_ ?_ ?_ ?_ ?_ ?_ ?_ ?_
          | with_reducible first | exact BzZq.mk | refine Tw.ret ?_ | refine ImZq.i fun h => ?_ | refine IkZq.i fun hk => ?_)
        exact ⟨rfl, rfl, rfl⟩
    · refine Tw.frz env 1 (by rfl) (by rfl) (by rfl) ?_ ?_ ?_
      · repeat' (first
          | refine GZ_i_6i_LiJ ?_ ?_ ?_ ?_ ?_ ?_ ?_ ?_
          | with_reducible first | exact BzZq.mk | refine Tw.ret ?_ | refine ImZq.i fun h => ?_ | refine IkZq.i fun hk => ?_)
      · repeat' (first
          | refine GZ_i_6i_LiJ ?_ ?_ ?_ ?_ ?_ ?_ ?_ ?_
          | with_reducible first | exact BzZq.mk | refine Tw.ret ?_ | refine ImZq.i fun h => ?_ | refine IkZq.i fun hk => ?_)
      refine Tw.frz env 4 (by rfl) (by rfl) (by rfl) ?_ ?_ ?_
      · repeat' (first
          | refine GZ_i_6i_LiJ ?_ ?_ ?_ ?_ ?_ ?_ ?_ ?_
          | with_reducible first | exact BzZq.mk | refine Tw.ret ?_ | refine ImZq.i fun h => ?_ | refine IkZq.i fun hk => ?_)
      · repeat' (first
          | refine GZ_i_6i_LiJ ?_ ?_ ?_ ?_ ?_ ?_ ?_ ?_
          | with_reducible first | exact BzZq.mk | refine Tw.ret ?_ | refine ImZq.i fun h => ?_ | refine IkZq.i fun hk => ?_)
      refine Tw.frz env 5 (by rfl) (by rfl) (by rfl) ?_ ?_ ?_
      · repeat' (first
          | refine GZ_i_6i_LiJ ?_ ?_ ?_ ?_ ?_ ?_ ?_ ?_
          | with_reducible first | exact BzZq.mk | refine Tw.ret ?_ | refine ImZq.i fun h => ?_ | refine IkZq.i fun hk => ?_)
      · repeat' (first
          | refine GZ_i_6i_LiJ ?_ ?_ ?_ ?_ ?_ ?_ ?_ ?_
          | with_reducible first | exact BzZq.mk | refine Tw.ret ?_ | refine ImZq.i fun h => ?_ | refine IkZq.i fun hk => ?_)
      refine Tw.frz env 6 (by rfl) (by rfl) (by rfl) ?_ ?_ ?_
      · repeat' (first
          | refine GZ_i_6i_LiJ ?_ ?_ ?_ ?_ ?_ ?_ ?_ ?_
          | with_reducible first | exact BzZq.mk | refine Tw.ret ?_ | refine ImZq.i fun h => ?_ | refine IkZq.i fun hk => ?_)
      · repeat' (first
          | refine GZ_i_6i_LiJ ?_ ?_ ?_ ?_ ?_ ?_ ?_ ?_
          | with_reducible first | exact BzZq.mk | refine Tw.ret ?_ | refine ImZq.i fun h => ?_ | refine IkZq.i fun hk => ?_)
      refine Tw.frz env 7 (by rfl) (by rfl) (by rfl) ?_ ?_ ?_
      · repeat' (first
          | refine GZ_i_6i_LiJ ?_ ?_ ?_ ?_ ?_ ?_ ?_ ?_
          | with_reducible first | exact BzZq.mk | refine Tw.ret ?_ | refine ImZq.i fun h => ?_ | refine IkZq.i fun hk => ?_)
      · repeat' (first
          | refine GZ_i_6i_LiJ ?_ ?_ ?_ ?_ ?_ ?_ ?_ ?_
          | with_reducible first | exact BzZq.mk | refine Tw.ret ?_ | refine ImZq.i fun h => ?_ | refine IkZq.i fun hk => ?_)
      refine Tw.frz env 8 (by rfl) (by rfl) (by rfl) ?_ ?_ ?_
      · repeat' (first
          | refine GZ_i_6i_LiJ ?_ ?_ ?_ ?_ ?_ ?_ ?_ ?_
          | with_reducible first | exact BzZq.mk | refine Tw.ret ?_ | refine ImZq.i fun h => ?_ | refine IkZq.i fun hk => ?_)
      · repeat' (first
          | refine GZ_i_6i_LiJ ?_ ?_ ?_ ?_ ?_ ?_ ?_ ?_
          | with_reducible first | exact BzZq.mk | refine Tw.ret ?_ | refine ImZq.i fun h => ?_ | refine IkZq.i fun hk => ?_)
      refine Tw.reP (H' := [slB (.lst Ei [t 0, t 1]) (.sla 1 2 0 2) (.sla 1 3 0 2), none, some (.arr ELiJ [[(500 : Int), (0 : Int)], [(500 : Int), (0 : Int)]]), some (.arr ELiJ [[v 0 0, v 0 1], [v 1 0, v 1 1]]), none, none, none, none, none]) (by rfl) ?_
      refine Tw.frz env 2 (by rfl) (by rfl) (by rfl) ?_ ?_ ?_
      · repeat' (first
          | refine GZ_i_6i_LiJ ?_ ?_ ?_ ?_ ?_ ?_ ?_ ?_
          | with_reducible first | exact BzZq.mk | refine Tw.ret ?_ | refine ImZq.i fun h => ?_ | refine IkZq.i fun hk => ?_)
      · repeat' (first
          | refine GZ_i_6i_LiJ ?_ ?_ ?_ ?_ ?_ ?_ ?_ ?_
          | with_reducible first | exact BzZq.mk | refine Tw.ret ?_ | refine ImZq.i fun h => ?_ | refine IkZq.i fun hk => ?_)
      refine Tw.frz env 3 (by rfl) (by rfl) (by rfl) ?_ ?_ ?_
      · repeat' (first
          | refine GZ_i_6i_LiJ ?_ ?_ ?_ ?_ ?_ ?_ ?_ ?_
          | with_reducible first | exact BzZq.mk | refine Tw.ret ?_ | refine ImZq.i fun h => ?_ | refine IkZq.i fun hk => ?_)
      · repeat' (first
          | refine GZ_i_6i_LiJ ?_ ?_ ?_ ?_ ?_ ?_ ?_ ?_
          | with_reducible first | exact BzZq.mk | refine Tw.ret ?_ | refine ImZq.i fun h => ?_ | refine IkZq.i fun hk => ?_)
      rw [eS] at lc
      have lc2 : TC R Try.prog control_Loop_f [.agg [.int .i64 (2 : Int), .int .i64 (0 : Int), .int .i64 (100 : Int), .int .i64 (80 : Int), .lst Ei [t 0, t 1], .lst ELiJ [[(500 : Int), (0 : Int)], [(500 : Int), (0 : Int)]], .lst ELiJ [[v 0 0, v 0 1], [v 1 0, v 1 1]]], .agg [.int .i64 (64 + (J : Int)), .int .i64 (10 : Int)], .lst E6i [((1 : Int), (2 : Int), (0 : Int), (0 : Int), g 0, (0 : Int)), ((1 : Int), (2 : Int), (1 : Int), (0 : Int), g 1, (0 : Int))], .int .i64 (13 * (64 + (J : Int)) + 100)] [] (fun v X => v = .tup [.lst E2iL2iJLLiJJi L, .int .i64 0] ∧ X = []) := lc
      clear lc
      repeat' (first
        | ((with_reducible refine TOps.any ?_); refine TOps.callV env (by rfl) (by rfl) (by rfl) (mk) ?_)
        | ((with_reducible refine TOps.any ?_); refine TOps.callV env (by rfl) (by rfl) (by rfl) (lc2) ?_)
        | refine GZy_i_6i_LiJ lL ?_ ?_ ?_ ?_ ?_ ?_ ?_ ?_
        | with_reducible first | exact BzZq.mk | refine Tw.ret ?_ | refine ImZq.i fun h => ?_ | refine IkZq.i fun hk => ?_)
      rw [← edL]
      refine Tw.loopK [130] (fun k : Nat => k ≤ dL.length) (fun k => dL.length - k) (fun k => [(132, .int .i64 k), (131, .int .i64 dL.length)]) (fun _ => []) ⟨0, by omega, TWk.fcanon env [] (by rfl) ?_⟩ (fun k hk => ?_)
      · repeat' (first
          | refine GZ_i_6i_LiJ ?_ ?_ ?_ ?_ ?_ ?_ ?_ ?_
          | with_reducible first | exact BzZq.mk | refine Tw.ret ?_ | refine ImZq.i fun h => ?_ | refine IkZq.i fun hk => ?_)
      rcases Nat.lt_or_ge k dL.length with hk | hk
      · have sk := sd k hk
        clear sd lc2
        repeat' (first
          | refine GZy_i_6i_LiJ sk ?_ ?_ ?_ ?_ ?_ ?_ ?_ ?_
          | with_reducible first | exact BzZq.mk | refine Tw.ret ?_ | refine ImZq.i fun h => ?_ | refine IkZq.i fun hk => ?_)
        refine ⟨k + 1, by omega, by omega, TWk.fcanon env [] (by rfl) ?_⟩
        repeat' (first
          | refine GZ_i_6i_LiJ ?_ ?_ ?_ ?_ ?_ ?_ ?_ ?_
          | with_reducible first | exact BzZq.mk | refine Tw.ret ?_ | refine ImZq.i fun h => ?_ | refine IkZq.i fun hk => ?_)
      · obtain rfl : dL.length = k := by omega
        repeat' (first
          | refine GZp_i_6i_LiJ ?_ ?_ ?_ ?_ ?_ ?_ ?_ ?_
          | with_reducible first | exact BzZq.mk | refine Tw.ret ?_ | refine ImZq.i fun h => ?_ | refine IkZq.i fun hk => ?_)
        exact ⟨rfl, rfl, rfl⟩
    · refine Tw.frz env 1 (by rfl) (by rfl) (by rfl) ?_ ?_ ?_
      · repeat' (first
          | refine GZ_i_6i_LiJ ?_ ?_ ?_ ?_ ?_ ?_ ?_ ?_
          | with_reducible first | exact BzZq.mk | refine Tw.ret ?_ | refine ImZq.i fun h => ?_ | refine IkZq.i fun hk => ?_)
      · repeat' (first
          | refine GZ_i_6i_LiJ ?_ ?_ ?_ ?_ ?_ ?_ ?_ ?_
          | with_reducible first | exact BzZq.mk | refine Tw.ret ?_ | refine ImZq.i fun h => ?_ | refine IkZq.i fun hk => ?_)
      refine Tw.frz env 4 (by rfl) (by rfl) (by rfl) ?_ ?_ ?_
      · repeat' (first
          | refine GZ_i_6i_LiJ ?_ ?_ ?_ ?_ ?_ ?_ ?_ ?_
          | with_reducible first | exact BzZq.mk | refine Tw.ret ?_ | refine ImZq.i fun h => ?_ | refine IkZq.i fun hk => ?_)
      · repeat' (first
          | refine GZ_i_6i_LiJ ?_ ?_ ?_ ?_ ?_ ?_ ?_ ?_
          | with_reducible first | exact BzZq.mk | refine Tw.ret ?_ | refine ImZq.i fun h => ?_ | refine IkZq.i fun hk => ?_)
      refine Tw.frz env 5 (by rfl) (by rfl) (by rfl) ?_ ?_ ?_
      · repeat' (first
          | refine GZ_i_6i_LiJ ?_ ?_ ?_ ?_ ?_ ?_ ?_ ?_
          | with_reducible first | exact BzZq.mk | refine Tw.ret ?_ | refine ImZq.i fun h => ?_ | refine IkZq.i fun hk => ?_)
      · repeat' (first
          | refine GZ_i_6i_LiJ ?_ ?_ ?_ ?_ ?_ ?_ ?_ ?_
          | with_reducible first | exact BzZq.mk | refine Tw.ret ?_ | refine ImZq.i fun h => ?_ | refine IkZq.i fun hk => ?_)
      refine Tw.frz env 6 (by rfl) (by rfl) (by rfl) ?_ ?_ ?_
      · repeat' (first
          | refine GZ_i_6i_LiJ ?_ ?_ ?_ ?_ ?_ ?_ ?_ ?_
          | with_reducible first | exact BzZq.mk | refine Tw.ret ?_ | refine ImZq.i fun h => ?_ | refine IkZq.i fun hk => ?_)
      · repeat' (first
          | refine GZ_i_6i_LiJ ?_ ?_ ?_ ?_ ?_ ?_ ?_ ?_
          | with_reducible first | exact BzZq.mk | refine Tw.ret ?_ | refine ImZq.i fun h => ?_ | refine IkZq.i fun hk => ?_)
      refine Tw.frz env 7 (by rfl) (by rfl) (by rfl) ?_ ?_ ?_
      · repeat' (first
          | refine GZ_i_6i_LiJ ?_ ?_ ?_ ?_ ?_ ?_ ?_ ?_
          | with_reducible first | exact BzZq.mk | refine Tw.ret ?_ | refine ImZq.i fun h => ?_ | refine IkZq.i fun hk => ?_)
      · repeat' (first
          | refine GZ_i_6i_LiJ ?_ ?_ ?_ ?_ ?_ ?_ ?_ ?_
          | with_reducible first | exact BzZq.mk | refine Tw.ret ?_ | refine ImZq.i fun h => ?_ | refine IkZq.i fun hk => ?_)
      refine Tw.frz env 8 (by rfl) (by rfl) (by rfl) ?_ ?_ ?_
      · repeat' (first
          | refine GZ_i_6i_LiJ ?_ ?_ ?_ ?_ ?_ ?_ ?_ ?_
          | with_reducible first | exact BzZq.mk | refine Tw.ret ?_ | refine ImZq.i fun h => ?_ | refine IkZq.i fun hk => ?_)
      · repeat' (first
          | refine GZ_i_6i_LiJ ?_ ?_ ?_ ?_ ?_ ?_ ?_ ?_
          | with_reducible first | exact BzZq.mk | refine Tw.ret ?_ | refine ImZq.i fun h => ?_ | refine IkZq.i fun hk => ?_)
      refine Tw.frz env 9 (by rfl) (by rfl) (by rfl) ?_ ?_ ?_
      · repeat' (first
          | refine GZ_i_6i_LiJ ?_ ?_ ?_ ?_ ?_ ?_ ?_ ?_
          | with_reducible first | exact BzZq.mk | refine Tw.ret ?_ | refine ImZq.i fun h => ?_ | refine IkZq.i fun hk => ?_)
      · repeat' (first
          | refine GZ_i_6i_LiJ ?_ ?_ ?_ ?_ ?_ ?_ ?_ ?_
          | with_reducible first | exact BzZq.mk | refine Tw.ret ?_ | refine ImZq.i fun h => ?_ | refine IkZq.i fun hk => ?_)
      refine Tw.frz env 10 (by rfl) (by rfl) (by rfl) ?_ ?_ ?_
      · repeat' (first
          | refine GZ_i_6i_LiJ ?_ ?_ ?_ ?_ ?_ ?_ ?_ ?_
          | with_reducible first | exact BzZq.mk | refine Tw.ret ?_ | refine ImZq.i fun h => ?_ | refine IkZq.i fun hk => ?_)
      · repeat' (first
          | refine GZ_i_6i_LiJ ?_ ?_ ?_ ?_ ?_ ?_ ?_ ?_
          | with_reducible first | exact BzZq.mk | refine Tw.ret ?_ | refine ImZq.i fun h => ?_ | refine IkZq.i fun hk => ?_)
      refine Tw.reP (H' := [slB (.lst Ei [t 0, t 1, t 2]) (.sla 1 2 0 3) (.sla 1 3 0 3), none, some (.arr ELiJ [[(500 : Int), (0 : Int)], [(500 : Int), (0 : Int)], [(500 : Int), (0 : Int)]]), some (.arr ELiJ [[v 0 0, v 0 1], [v 1 0, v 1 1], [v 2 0, v 2 1]]), none, none, none, none, none, none, none]) (by rfl) ?_
      refine Tw.frz env 2 (by rfl) (by rfl) (by rfl) ?_ ?_ ?_
      · repeat' (first
          | refine GZ_i_6i_LiJ ?_ ?_ ?_ ?_ ?_ ?_ ?_ ?_
          | with_reducible first | exact BzZq.mk | refine Tw.ret ?_ | refine ImZq.i fun h => ?_ | refine IkZq.i fun hk => ?_)
      · repeat' (first
          | refine GZ_i_6i_LiJ ?_ ?_ ?_ ?_ ?_ ?_ ?_ ?_
          | with_reducible first | exact BzZq.mk | refine Tw.ret ?_ | refine ImZq.i fun h => ?_ | refine IkZq.i fun hk => ?_)
      refine Tw.frz env 3 (by rfl) (by rfl) (by rfl) ?_ ?_ ?_
      · repeat' (first
          | refine GZ_i_6i_LiJ ?_ ?_ ?_ ?_ ?_ ?_ ?_ ?_
          | with_reducible first | exact BzZq.mk | refine Tw.ret ?_ | refine ImZq.i fun h => ?_ | refine IkZq.i fun hk => ?_)
      · repeat' (first
          | refine GZ_i_6i_LiJ ?_ ?_ ?_ ?_ ?_ ?_ ?_ ?_
          | with_reducible first | exact BzZq.mk | refine Tw.ret ?_ | refine ImZq.i fun h => ?_ | refine IkZq.i fun hk => ?_)
      rw [eS] at lc
      have lc2 : TC R Try.prog control_Loop_f [.agg [.int .i64 (2 : Int), .int .i64 (0 : Int), .int .i64 (100 : Int), .int .i64 (80 : Int), .lst Ei [t 0, t 1, t 2], .lst ELiJ [[(500 : Int), (0 : Int)], [(500 : Int), (0 : Int)], [(500 : Int), (0 : Int)]], .lst ELiJ [[v 0 0, v 0 1], [v 1 0, v 1 1], [v 2 0, v 2 1]]], .agg [.int .i64 (64 + (J : Int)), .int .i64 (10 : Int)], .lst E6i [((1 : Int), (2 : Int), (0 : Int), (0 : Int), g 0, (0 : Int)), ((1 : Int), (2 : Int), (1 : Int), (0 : Int), g 1, (0 : Int)), ((1 : Int), (2 : Int), (2 : Int), (0 : Int), g 2, (0 : Int))], .int .i64 (13 * (64 + (J : Int)) + 100)] [] (fun v X => v = .tup [.lst E2iL2iJLLiJJi L, .int .i64 0] ∧ X = []) := lc
      clear lc
      repeat' (first
        | ((with_reducible refine TOps.any ?_); refine TOps.callV env (by rfl) (by rfl) (by rfl) (mk) ?_)
        | ((with_reducible refine TOps.any ?_); refine TOps.callV env (by rfl) (by rfl) (by rfl) (lc2) ?_)
        | refine GZy_i_6i_LiJ lL ?_ ?_ ?_ ?_ ?_ ?_ ?_ ?_
        | with_reducible first | exact BzZq.mk | refine Tw.ret ?_ | refine ImZq.i fun h => ?_ | refine IkZq.i fun hk => ?_)
      rw [← edL]
      refine Tw.loopK [130] (fun k : Nat => k ≤ dL.length) (fun k => dL.length - k) (fun k => [(132, .int .i64 k), (131, .int .i64 dL.length)]) (fun _ => []) ⟨0, by omega, TWk.fcanon env [] (by rfl) ?_⟩ (fun k hk => ?_)
      · repeat' (first
          | refine GZ_i_6i_LiJ ?_ ?_ ?_ ?_ ?_ ?_ ?_ ?_
          | with_reducible first | exact BzZq.mk | refine Tw.ret ?_ | refine ImZq.i fun h => ?_ | refine IkZq.i fun hk => ?_)
      rcases Nat.lt_or_ge k dL.length with hk | hk
      · have sk := sd k hk
        clear sd lc2
        repeat' (first
          | refine GZy_i_6i_LiJ sk ?_ ?_ ?_ ?_ ?_ ?_ ?_ ?_
          | with_reducible first | exact BzZq.mk | refine Tw.ret ?_ | refine ImZq.i fun h => ?_ | refine IkZq.i fun hk => ?_)
        refine ⟨k + 1, by omega, by omega, TWk.fcanon env [] (by rfl) ?_⟩
        repeat' (first
          | refine GZ_i_6i_LiJ ?_ ?_ ?_ ?_ ?_ ?_ ?_ ?_
          | with_reducible first | exact BzZq.mk | refine Tw.ret ?_ | refine ImZq.i fun h => ?_ | refine IkZq.i fun hk => ?_)
      · obtain rfl : dL.length = k := by omega
        repeat' (first
          | refine GZp_i_6i_LiJ ?_ ?_ ?_ ?_ ?_ ?_ ?_ ?_
          | with_reducible first | exact BzZq.mk | refine Tw.ret ?_ | refine ImZq.i fun h => ?_ | refine IkZq.i fun hk => ?_)
        exact ⟨rfl, rfl, rfl⟩
end Go.Proofs.Ytbaepacihkgalaa
