/- The law ScreenBalance: all places occur equally often; the ranks are a permutation that begins at the place 0. -/
import Derived.Test.YtcehapmkhlmgdaaScr8
import Derived.Test.YtcehapmkhlmgdaaScreenW
import Derived.Test.YtcehapmkhlmgdaaXScreenBalance0
import Derived.Test.YtcehapmkhlmgdaaGo
namespace Go.Proofs.Ytcehapmkhlmgdaa
open Go Go.Lite
set_option linter.unusedVariables false
set_option linter.unusedSimpArgs false
set_option maxRecDepth 100000
set_option maxHeartbeats 4000000
-- @simp rdi rdo

def seenB (a b k P f g : Int) (n i : Nat) : List Bool := tab n fun q => decide ((ordK a b k P f g n).getD q 0 < i)
theorem seenB_len {a b k P f g : Int} {n i : Nat} : (seenB a b k P f g n i).length = n := tab_len

def cntL (P : Nat) (f : Int) (g : Nat) (x y : Int) (n j i : Nat) : List Int := tab n fun q => occ P f g x y j i q
theorem cntL_len {P : Nat} {f : Int} {g : Nat} {x y : Int} {n j i : Nat} : (cntL P f g x y n j i).length = n := tab_len
theorem cntL_step {P : Nat} {f : Int} {g : Nat} {x y : Int} {n j i p : Nat} (hp : p < n) (e : plc P f g (x + i) (y + j) = p) : cntL P f g x y n j (i + 1) = (cntL P f g x y n j i).set p ((cntL P f g x y n j i).getD p 0 + 1) := by
  refine (is_tab 0 (by rw [List.length_set]; exact cntL_len) fun q hq => ?_).symm
  rw [occ_step, e]
  by_cases h : p = q
  · subst h
    rw [getD_set_eq (by rw [cntL_len]; exact hq), if_pos rfl]
    unfold cntL; rw [tab_get hq]
  · rw [getD_set_ne h, if_neg (by omega)]
    unfold cntL; rw [tab_get hq]; omega

theorem ScreenBalance_law (a b k x0 y0 : Int) (_ : rng .i64 a) (_ : rng .i64 b) (_ : rng .i64 k) (rx : rng .i64 x0) (ry : rng .i64 y0) :
    TC R Try.prog K2_ScreenBalance_f [.agg [.int .i64 a, .int .i64 b, .int .i64 k], .int .i64 x0, .int .i64 y0] [] (fun v X => v = .bool true ∧ X = []) := by
  simp only [rng] at rx ry
  have m1 := rMod_c x0 1000 (by unfold Due; omega)
  have m2 := rMod_c y0 1000 (by unfold Due; omega)
  have x1 := Int.emod_nonneg x0 (show (1000 : Int) ≠ 0 by omega)
  have x2 := Int.emod_lt_of_pos x0 (show (0 : Int) < 1000 by omega)
  have y1 := Int.emod_nonneg y0 (show (1000 : Int) ≠ 0 by omega)
  have y2 := Int.emod_lt_of_pos y0 (show (0 : Int) < 1000 by omega)
  refine tc0 env K2_ScreenBalance_s (by rfl) ?_
  dsimp only [K2_ScreenBalance_c]
  by_cases h0 : schk a b k = 0
  rotate_left
  · have pb := period_bad a b k h0
    have ob := order_bad a b k h0
    generalize schk a b k = e at *
    repeat' (first
      | ((with_reducible refine TOps.any ?_); refine TOps.callV env (by rfl) (by rfl) (by rfl) (screenWorks_c) ?_)
      | ((with_reducible refine TOps.any ?_); refine TOps.callV env (by rfl) (by rfl) (by rfl) (pb) ?_)
      | ((with_reducible refine TOps.any ?_); refine TOps.callV env (by rfl) (by rfl) (by rfl) (ob) ?_)
      | refine GZp_i_o ?_ ?_ ?_ ?_ ?_ ?_ ?_ ?_
      | with_reducible first | exact BzZq.mk | refine Tw.ret ?_ | refine ImZq.i fun h => ?_ | refine IkZq.i fun hk => ?_)
    all_goals exact ⟨rfl, congrArg TV.bool (by simp), rfl⟩
  obtain ⟨P, f, g, oc, F⟩ := of_ex a b k h0
  obtain ⟨a1, a2, b1, b2, _, _, _, n1, n2⟩ := schk_ok h0
  have q1 := sq_bd ⟨a1, a2⟩
  have q2 := sq_bd ⟨b1, b2⟩
  have hP := F.pb
  have hg := F.gb
  have har := F.area
  obtain ⟨m, _, em, _⟩ := F.l3
  obtain ⟨P, rfl⟩ : ∃ p : Nat, P = p := ⟨P.toNat, by omega⟩
  obtain ⟨g, rfl⟩ : ∃ p : Nat, g = p := ⟨g.toNat, by omega⟩
  obtain ⟨n, en⟩ : ∃ n : Nat, a * a + b * b = n := ⟨(a * a + b * b).toNat, by omega⟩
  have hn : 1 ≤ n ∧ n ≤ 400 := by omega
  obtain ⟨m, rfl⟩ : ∃ p : Nat, m = p := ⟨m.toNat, by
    rcases Int.lt_or_le m 0 with h | h
    · have := Int.mul_le_mul_of_nonneg_left (show m ≤ -1 by omega) (show (0 : Int) ≤ g by omega); omega
    · omega⟩
  have em' : P = g * m := by have : (P : Int) = ((g * m : Nat) : Int) := by rw [em]; simp
                             omega
  have pc := period_ok a b k P f g h0 oc
  have oo := order_c h0 F oc n (by unfold Due; omega)
  have rl : (rks a b k P f g n).length = n := tab_len
  have r0 : (rks a b k P f g n).getD 0 0 = 0 := by
    unfold rks
    rw [tab_get (by omega)]
    have z := ordK_zero (k := k) ⟨a1, b1⟩ ⟨n1, n2⟩ F en
    have := rkK_ord (k := k) ⟨n1, n2⟩ F en (i := 0) (by omega)
    rw [z] at this
    rw [this]; rfl
  repeat' (first
    | ((with_reducible refine TOps.any ?_); refine TOps.callV env (by rfl) (by rfl) (by rfl) (screenWorks_c) ?_)
    | ((with_reducible refine TOps.any ?_); refine TOps.callV env (by rfl) (by rfl) (by rfl) (pc) ?_)
    | ((with_reducible refine TOps.any ?_); refine TOps.callV env (by rfl) (by rfl) (by rfl) (oo) ?_)
    | refine GZy_i_o (And.intro en (And.intro rl r0)) ?_ ?_ ?_ ?_ ?_ ?_ ?_ ?_
    | with_reducible first | exact BzZq.mk | refine Tw.ret ?_ | refine ImZq.i fun h => ?_ | refine IkZq.i fun hk => ?_)
  rw [en]
  simp only [Int.toNat_natCast]
  refine Tw.loopK [1, 2, 3, 7, 11, 83] (fun i : Nat => i ≤ n) (fun i => n - i) (fun i => [(85, .int .i64 i), (84, .int .i64 n), (12, .sla 1 1 0 n)])
    (fun i => [some (.cells [.int .i64 a, .int .i64 b, .int .i64 k]), some (.arr Eo (seenB a b k P f g n i))]) ⟨0, by omega, TWk.fcanon env [some 0, some 1] (by rfl) ?_⟩ (fun i hi => ?_)
  · have e0 : seenB a b k P f g n 0 = List.replicate n false := (is_tab false (by simp) fun q hq => by rw [getD_repl hq]; simp).symm
    repeat' (first
      | exact e0
      | refine GZx_i_o rl ?_ ?_ ?_ ?_ ?_ ?_ ?_ ?_
      | with_reducible first | exact BzZq.mk | refine Tw.ret ?_ | refine ImZq.i fun h => ?_ | refine IkZq.i fun hk => ?_)
  have sl : (seenB a b k P f g n i).length = n := seenB_len
  rcases Nat.lt_or_ge i n with hi | hi
  · have hr : rkK a b k P f g n i < n := rkK_lt ⟨n1, n2⟩ F en hi
    have hv : (rks a b k P f g n).getD i 0 = (rkK a b k P f g n i : Nat) := by unfold rks; exact tab_get hi
    have ho := ordK_rk (k := k) ⟨n1, n2⟩ F en hi
    obtain ⟨r, er⟩ : ∃ r, r = rkK a b k P f g n i := ⟨_, rfl⟩
    rw [← er] at hr hv ho
    have hs : (seenB a b k P f g n i).getD r false = false := by
      unfold seenB
      rw [tab_get hr, ho]; simp
    have hst : seenB a b k P f g n (i + 1) = (seenB a b k P f g n i).set r true := by
      refine (is_tab false (by rw [List.length_set]; exact seenB_len) fun q hq => ?_).symm
      by_cases e : r = q
      · subst e; rw [getD_set_eq (by rw [seenB_len]; exact hq), ho]; simp
      · rw [getD_set_ne e]
        unfold seenB
        rw [tab_get hq]
        have hne : (ordK a b k P f g n).getD q 0 ≠ i := fun h' => e (by rw [er, ← h', rkK_ord ⟨n1, n2⟩ F en hq])
        exact decide_eq_decide.2 (by omega)
    have hs' : (seenB a b k P f g n i).getD (r + 0) false = false := hs
    repeat' (first
      | refine GZy_i_o (And.intro hv (And.intro hs (And.intro hs' sl))) ?_ ?_ ?_ ?_ ?_ ?_ ?_ ?_
      | with_reducible first | exact BzZq.mk | refine Tw.ret ?_ | refine ImZq.i fun h => ?_ | refine IkZq.i fun hk => ?_)
    have hv' : (rks a b k P f g n).getD i (R.d Ei) = (r : Int) := hv
    simp only [Int.toNat_natCast, Nat.add_zero, hv']
    refine ⟨i + 1, by omega, by omega, TWk.fcanon env [some 0, some 1] (by rfl) ?_⟩
    repeat' (first
      | exact hst
      | refine GZ_i_o ?_ ?_ ?_ ?_ ?_ ?_ ?_ ?_
      | with_reducible first | exact BzZq.mk | refine Tw.ret ?_ | refine ImZq.i fun h => ?_ | refine IkZq.i fun hk => ?_)
  obtain rfl : n = i := by omega
  have fin1 : TV.bool (A := A) true = TV.bool true := rfl
  by_cases hp : 40 < P
  · repeat' (first
      | refine GZp_i_o ?_ ?_ ?_ ?_ ?_ ?_ ?_ ?_
      | with_reducible first | exact BzZq.mk | refine Tw.ret ?_ | refine ImZq.i fun h => ?_ | refine IkZq.i fun hk => ?_)
    exact ⟨rfl, rfl, trivial⟩
  obtain ⟨x, hx⟩ : ∃ x, x = x0 % 1000 := ⟨_, rfl⟩
  obtain ⟨y, hy⟩ : ∃ y, y = y0 % 1000 := ⟨_, rfl⟩
  rw [← hx] at m1 x1 x2
  rw [← hy] at m2 y1 y2
  have bd := fun j i q hj hi => occ_bd (P := P) (g := g) (f := f) (x := x) (y := y) (j := j) (i := i) (q := q) hj hi (by omega)
  repeat' (first
    | ((with_reducible refine TOps.any ?_); refine TOps.callV env (by rfl) (by rfl) (by rfl) (m1) ?_)
    | ((with_reducible refine TOps.any ?_); refine TOps.callV env (by rfl) (by rfl) (by rfl) (m2) ?_)
    | refine GZp_i_o ?_ ?_ ?_ ?_ ?_ ?_ ?_ ?_
    | with_reducible first | exact BzZq.mk | refine Tw.ret ?_ | refine ImZq.i fun h => ?_ | refine IkZq.i fun hk => ?_)
  simp only [Int.toNat_natCast]
  refine Tw.loopK [1, 2, 3, 7, 11, 114] (fun j : Nat => j ≤ P) (fun j => P - j) (fun j => [(115, .int .i64 j), (15, .sla 1 1 0 n)])
    (fun j => [some (.cells [.int .i64 a, .int .i64 b, .int .i64 k]), some (.arr Ei (cntL P f g x y n j 0))]) ⟨0, by omega, TWk.fcanon env [some 0, some 2] (by rfl) ?_⟩ (fun j hj => ?_)
  · have e0 : cntL P f g x y n 0 0 = List.replicate n 0 := (is_tab 0 (by simp) fun q hq => by rw [getD_repl hq]; rfl).symm
    repeat' (first
      | exact e0
      | refine GZ_i_o ?_ ?_ ?_ ?_ ?_ ?_ ?_ ?_
      | with_reducible first | exact BzZq.mk | refine Tw.ret ?_ | refine ImZq.i fun h => ?_ | refine IkZq.i fun hk => ?_)
  rcases Nat.lt_or_ge j P with hj | hj
  · repeat' (first
      | refine GZp_i_o ?_ ?_ ?_ ?_ ?_ ?_ ?_ ?_
      | with_reducible first | exact BzZq.mk | refine Tw.ret ?_ | refine ImZq.i fun h => ?_ | refine IkZq.i fun hk => ?_)
    refine Tw.loopK [1, 2, 3, 7, 11, 114, 115, 16, 118] (fun i : Nat => i ≤ P) (fun i => P - i) (fun i => [(119, .int .i64 i), (15, .sla 1 1 0 n)])
      (fun i => [some (.cells [.int .i64 a, .int .i64 b, .int .i64 k]), some (.arr Ei (cntL P f g x y n j i))]) ⟨0, by omega, TWk.fcanon env [some 0, some 1] (by rfl) ?_⟩ (fun i hi => ?_)
    · repeat' (first
        | refine GZ_i_o ?_ ?_ ?_ ?_ ?_ ?_ ?_ ?_
        | with_reducible first | exact BzZq.mk | refine Tw.ret ?_ | refine ImZq.i fun h => ?_ | refine IkZq.i fun hk => ?_)
    rcases Nat.lt_or_ge i P with hi | hi
    · have ce := cell_c a b k (x + i) (y + j) P f g h0 F oc (by unfold Due; omega)
      have pb : 0 ≤ plc P f g (x + i) (y + j) ∧ plc P f g (x + i) (y + j) < n := by
        have z1 := Int.emod_nonneg (y + j) (show (g : Int) ≠ 0 by omega)
        have z2 := Int.emod_lt_of_pos (y + j) (show (0 : Int) < g by omega)
        unfold plc
        have z3 := Int.emod_nonneg (x + i - (y + j) / g % P * f) (show (P : Int) ≠ 0 by omega)
        have z4 := Int.emod_lt_of_pos (x + i - (y + j) / g % P * f) (show (0 : Int) < P by omega)
        have z5 := Int.mul_le_mul_of_nonneg_right (show (y + j) % g ≤ g - 1 by omega) (show (0 : Int) ≤ P by omega)
        have z6 := Int.mul_nonneg z1 (show (0 : Int) ≤ P by omega)
        rw [Int.sub_mul] at z5
        omega
      obtain ⟨p, ep⟩ : ∃ p : Nat, plc P f g (x + i) (y + j) = p := ⟨(plc P f g (x + i) (y + j)).toNat, by omega⟩
      have st := cntL_step (n := n) (by omega) ep
      have cl : (cntL P f g x y n j i).length = n := cntL_len
      have cb : 0 ≤ (cntL P f g x y n j i).getD p 0 ∧ (cntL P f g x y n j i).getD p 0 ≤ 160400 := by
        unfold cntL; rw [tab_get (by omega)]; exact bd j i p (by omega) (by omega)
      have cb' : 0 ≤ (cntL P f g x y n j i).getD (p + 0) 0 ∧ (cntL P f g x y n j i).getD (p + 0) 0 ≤ 160400 := cb
      rw [ep] at ce pb
      repeat' (first
        | ((with_reducible refine TOps.any ?_); refine TOps.callV env (by rfl) (by rfl) (by rfl) (ce) ?_)
        | refine GZy_i_o cl ?_ ?_ ?_ ?_ ?_ ?_ ?_ ?_
        | with_reducible first | exact BzZq.mk | refine Tw.ret ?_ | refine ImZq.i fun h => ?_ | refine IkZq.i fun hk => ?_)
      refine ⟨i + 1, by omega, by omega, TWk.fcanon env [some 0, some 1] (by rfl) ?_⟩
      repeat' (first
        | exact st
        | refine GZ_i_o ?_ ?_ ?_ ?_ ?_ ?_ ?_ ?_
        | with_reducible first | exact BzZq.mk | refine Tw.ret ?_ | refine ImZq.i fun h => ?_ | refine IkZq.i fun hk => ?_)
    · obtain rfl : P = i := by omega
      have e1 : cntL P f g x y n j P = cntL P f g x y n (j + 1) 0 := List.map_congr_left fun q _ => occ_next.symm
      rw [e1]
      repeat' (first
        | refine GZp_i_o ?_ ?_ ?_ ?_ ?_ ?_ ?_ ?_
        | with_reducible first | exact BzZq.mk | refine Tw.ret ?_ | refine ImZq.i fun h => ?_ | refine IkZq.i fun hk => ?_)
      refine ⟨j + 1, by omega, by omega, TWk.fcanon env [some 0, some 1] (by rfl) ?_⟩
      repeat' (first
        | refine GZ_i_o ?_ ?_ ?_ ?_ ?_ ?_ ?_ ?_
        | with_reducible first | exact BzZq.mk | refine Tw.ret ?_ | refine ImZq.i fun h => ?_ | refine IkZq.i fun hk => ?_)
  · obtain rfl : P = j := by omega
    have cl : (cntL P f g x y n P 0).length = n := cntL_len
    have eq1 : (m : Int) * n = P * P := by
      have h1 : (n : Int) = g * P := by omega
      rw [h1, ← Int.mul_assoc, Int.mul_comm (m : Int) g, ← em]
    have mn : (m : Int) * n ≤ 160000 := by
      rw [eq1]
      have := Int.mul_le_mul (show (P : Int) ≤ 400 by omega) (show (P : Int) ≤ 400 by omega) (by omega) (by omega)
      omega
    have mn0 : 0 ≤ (m : Int) * n := Int.mul_nonneg (by omega) (by omega)
    have PP : (P : Int) * P ≤ 160000 := by omega
    have PP0 : 0 ≤ (P : Int) * P := by omega
    repeat' (first
      | refine GZp_i_o ?_ ?_ ?_ ?_ ?_ ?_ ?_ ?_
      | with_reducible first | exact BzZq.mk | refine Tw.ret ?_ | refine ImZq.i fun h => ?_ | refine IkZq.i fun hk => ?_)
    refine Tw.loopK [1, 2, 3, 7, 11, 152] (fun i : Nat => i ≤ n) (fun i => n - i) (fun i => [(154, .int .i64 i), (153, .int .i64 n)])
      (fun i => [some (.cells [.int .i64 a, .int .i64 b, .int .i64 k]), some (.arr Ei (cntL P f g x y n P 0))]) ⟨0, by omega, TWk.fcanon env [some 0, some 1] (by rfl) ?_⟩ (fun i hi => ?_)
    · repeat' (first
        | refine GZx_i_o cl ?_ ?_ ?_ ?_ ?_ ?_ ?_ ?_
        | with_reducible first | exact BzZq.mk | refine Tw.ret ?_ | refine ImZq.i fun h => ?_ | refine IkZq.i fun hk => ?_)
    rcases Nat.lt_or_ge i n with hi | hi
    · have gv : (cntL P f g x y n P 0).getD i 0 = (m : Int) := by
        unfold cntL
        rw [tab_get hi]
        exact occ_all (by omega) (by omega) em' ⟨by omega, by omega⟩
      have gv' : (cntL P f g x y n P 0).getD i (R.d Ei) = (m : Int) := gv
      repeat' (first
        | refine GZy_i_o (And.intro cl (And.intro gv eq1)) ?_ ?_ ?_ ?_ ?_ ?_ ?_ ?_
        | with_reducible first | exact BzZq.mk | refine Tw.ret ?_ | refine ImZq.i fun h => ?_ | refine IkZq.i fun hk => ?_)
      refine ⟨i + 1, by omega, by omega, TWk.fcanon env [some 0, some 1] (by rfl) ?_⟩
      repeat' (first
        | refine GZ_i_o ?_ ?_ ?_ ?_ ?_ ?_ ?_ ?_
        | with_reducible first | exact BzZq.mk | refine Tw.ret ?_ | refine ImZq.i fun h => ?_ | refine IkZq.i fun hk => ?_)
    · obtain rfl : n = i := by omega
      repeat' (first
        | refine GZp_i_o ?_ ?_ ?_ ?_ ?_ ?_ ?_ ?_
        | with_reducible first | exact BzZq.mk | refine Tw.ret ?_ | refine ImZq.i fun h => ?_ | refine IkZq.i fun hk => ?_)
      exact ⟨rfl, rfl, trivial⟩
end Go.Proofs.Ytcehapmkhlmgdaa
