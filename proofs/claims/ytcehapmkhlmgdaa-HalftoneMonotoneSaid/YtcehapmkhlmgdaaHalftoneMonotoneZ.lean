/- The law HalftoneMonotone: darker plates print at least the same pixels. -/
import Derived.Test.YtcehapmkhlmgdaaHft3
import Derived.Test.YtcehapmkhlmgdaaBits4
import Derived.Test.YtcehapmkhlmgdaaBits5
import Derived.Test.YtcehapmkhlmgdaaPop
import Derived.Test.YtcehapmkhlmgdaaXHalftoneMonotone0
import Derived.Test.YtcehapmkhlmgdaaGo
namespace Go.Proofs.Ytcehapmkhlmgdaa
open Go Go.Lite
set_option linter.unusedVariables false
set_option linter.unusedSimpArgs false
set_option maxRecDepth 100000
set_option maxHeartbeats 4000000
-- @simp rdi rdy

/-- The darker plate. -/
def mor (more : List Int) (p : List Int) (i : Nat) : Int := if more.length = 0 then p.getD i 0 else max (p.getD i 0) (more.getD (i % more.length) 0)
def morL (more p : List Int) (i : Nat) : List Int := tab p.length fun j => if j < i then mor more p j else p.getD j 0
theorem morL_len {more p : List Int} {i : Nat} : (morL more p i).length = p.length := tab_len
theorem HalftoneMonotone_law (w h : Int) (pix : List Int) (a b k : Int) (more : List Int) (_ : rng .i64 w) (_ : rng .i64 h) (wp : pix.length ≤ 9223372036854775807 ∧ ∀ y ∈ pix, Wy y) (_ : rng .i64 a) (_ : rng .i64 b) (_ : rng .i64 k) (wm : more.length ≤ 9223372036854775807 ∧ ∀ y ∈ more, Wy y) :
    TC R Try.prog K2_HalftoneMonotone_f [.agg [.int .i64 w, .int .i64 h, .lst Ey pix], .agg [.int .i64 a, .int .i64 b, .int .i64 k], .lst Ey more] [] (fun v X => v = .bool true ∧ X = []) := by
  have hb : ∀ i, i < pix.length → 0 ≤ pix.getD i 0 ∧ pix.getD i 0 ≤ 255 := fun i hi => by
    have := wp.2 _ (getD_mem (d := (0 : Int)) hi)
    simpa [Wy, rng] using this
  have hm : ∀ i, i < more.length → 0 ≤ more.getD i 0 ∧ more.getD i 0 ≤ 255 := fun i hi => by
    have := wm.2 _ (getD_mem (d := (0 : Int)) hi)
    simpa [Wy, rng] using this
  refine tc0 env K2_HalftoneMonotone_s (by rfl) ?_
  dsimp only [K2_HalftoneMonotone_c]
  by_cases hh : (if pchk w h pix.length ≠ 0 then pchk w h pix.length else schk a b k) = 0
  rotate_left
  · have ap := apply_bad w h a b k pix wp.1 _ rfl hh
    generalize (if pchk w h pix.length ≠ 0 then pchk w h pix.length else schk a b k) = e at *
    repeat' (first
      | ((with_reducible refine TOps.any ?_); refine TOps.callV env (by rfl) (by rfl) (by rfl) (htWorks_c) ?_)
      | ((with_reducible refine TOps.any ?_); refine TOps.callV env (by rfl) (by rfl) (by rfl) (ap) ?_)
      | ((with_reducible refine TOps.any ?_); refine TOps.callV env (by rfl) (by rfl) (by rfl) (noBits0_c) ?_)
      | refine GZp_i_y ?_ ?_ ?_ ?_ ?_ ?_ ?_ ?_
      | with_reducible first | exact BzZq.mk | refine Tw.ret ?_ | refine ImZq.i fun h => ?_ | refine IkZq.i fun hk => ?_)
    all_goals exact ⟨rfl, rfl, rfl⟩
  have hh1 : pchk w h pix.length = 0 := by
    refine Decidable.byContradiction fun hc => ?_
    rw [if_pos hc] at hh; exact hc hh
  have s0 : schk a b k = 0 := by rwa [if_neg (fun hc => hc hh1)] at hh
  obtain ⟨w', h', e1, e2, hw, hk, e5⟩ := pchk_ok hh1
  subst e1 e2
  obtain ⟨P, f, g, oc, F⟩ := of_ex a b k s0
  obtain ⟨_, _, _, _, _, _, _, n1, n2⟩ := schk_ok s0
  obtain ⟨n, en⟩ : ∃ n : Nat, a * a + b * b = n := ⟨(a * a + b * b).toNat, by omega⟩
  have wk : w' * h' ≤ 1024 * 1024 := Nat.mul_le_mul hw.2 hk.2
  have ap := apply_c s0 F oc n (by unfold Due; omega) w' h' pix hw hk e5 hb
  have qb : ∀ i, i < pix.length → 0 ≤ mor more pix i ∧ mor more pix i ≤ 255 ∧ pix.getD i 0 ≤ mor more pix i := fun i hi => by
    have h1 := hb i hi
    unfold mor
    split
    · omega
    · have h2 := hm (i % more.length) (Nat.mod_lt _ (by omega)); omega
  have qall : ∀ i, i < pix.length → (morL more pix pix.length).getD i 0 = mor more pix i := fun i hi => by
    unfold morL; rw [tab_get hi, if_pos hi]
  have aq := apply_c s0 F oc n (by unfold Due; omega) w' h' (morL more pix pix.length) hw hk (by rw [morL_len]; exact e5) (fun i hi => by
    rw [morL_len] at hi
    rw [qall i hi]; have := qb i hi; omega)
  have mn := bmMinus_c w' h' _ _ (bm_ok (f := hdot (rks a b k P f g n) P f g (dotT n) w' pix) hw hk) (bm_ok (f := hdot (rks a b k P f g n) P f g (dotT n) w' (morL more pix pix.length)) hw hk)
  have noneB : (bm w' h' fun x y => hdot (rks a b k P f g n) P f g (dotT n) w' pix x y && !hdot (rks a b k P f g n) P f g (dotT n) w' (morL more pix pix.length) x y) = bm w' h' fun _ _ => false := bm_congr fun x y hx hy => by
    have hi : y * w' + x < pix.length := by
      rw [e5]
      have := Nat.mul_le_mul_left w' (show y + 1 ≤ h' by omega)
      rw [Nat.mul_add, Nat.mul_comm w' y] at this; omega
    have h1 := hb _ hi
    have h2 := qb _ hi
    have mono : dotV n (pix.getD (y * w' + x) 0) ≤ dotV n (mor more pix (y * w' + x)) := near_mono (by omega) (Int.mul_le_mul_of_nonneg_right h2.2.2 (by omega))
    unfold hdot
    rw [qall _ hi, dot_get h1, dot_get ⟨h2.1, h2.2.1⟩]
    generalize (rks a b k P f g n).getD (plc P f g x y).toNat 0 = r at *
    by_cases hr : r < dotV n (pix.getD (y * w' + x) 0)
    · rw [decide_eq_true hr, decide_eq_true (by omega)]; rfl
    · rw [decide_eq_false hr]; rfl
  rw [mg_minus, noneB] at mn
  have cn := count_c w' h' (bm w' h' fun _ _ => false) (bm_ok hw hk)
  have z : popL (bm w' h' fun _ _ => false) = 0 := by
    rw [pop_bm (by omega)]
    exact sumN_zero fun y _ => sumN_zero fun x _ => rfl
  rw [z] at cn
  have p0 : (morL more pix 0) = pix := (is_tab 0 rfl fun i hi => by rw [if_neg (by omega)]).symm
  have stp : ∀ i, i < pix.length → morL more pix (i + 1) = (morL more pix i).set i (mor more pix i) := fun i hi => by
    refine (is_tab 0 (by rw [List.length_set]; exact morL_len) fun j hj => ?_).symm
    by_cases e : i = j
    · subst e; rw [getD_set_eq (by rw [morL_len]; exact hj), if_pos (by omega)]
    · rw [getD_set_ne e]
      unfold morL
      rw [tab_get hj]
      by_cases h1 : j < i
      · rw [if_pos h1, if_pos (by omega)]
      · rw [if_neg h1, if_neg (by omega)]
  have ml : ∀ i, (morL more pix i).length = pix.length := fun i => morL_len
  have mg : ∀ i, i < pix.length → (morL more pix i).getD i 0 = pix.getD i 0 := fun i hi => by unfold morL; rw [tab_get hi, if_neg (by omega)]
  generalize bm w' h' (hdot (rks a b k P f g n) P f g (dotT n) w' pix) = D1 at *
  generalize bm w' h' (hdot (rks a b k P f g n) P f g (dotT n) w' (morL more pix pix.length)) = D2 at *
  generalize bm w' h' (fun _ _ => false) = D3 at *
  have hl : pix.length ≤ 1048576 := by omega
  have due : ((0 : Nat) + pix.length) * 1 ≤ 140737488355328 ∧ 0 + pix.length ≤ 140737488355328 := by omega
  repeat' (first
    | ((with_reducible refine TOps.any ?_); refine TOps.callV env (by rfl) (by rfl) (by rfl) (htWorks_c) ?_)
    | ((with_reducible refine TOps.any ?_); refine TOps.callV env (by rfl) (by rfl) (by rfl) (ap) ?_)
    | refine GZp_i_y ?_ ?_ ?_ ?_ ?_ ?_ ?_ ?_
    | with_reducible first | exact BzZq.mk | refine Tw.ret ?_ | refine ImZq.i fun h => ?_ | refine IkZq.i fun hk => ?_)
  simp only [Nat.zero_add]
  refine Tw.loopK [2, 3, 4, 6, 7, 8, 9] (fun i : Nat => i ≤ pix.length) (fun i => pix.length - i) (fun i => [(41, .int .i64 i), (40, .int .i64 pix.length)])
    (fun i => [some (.cells [.int .i64 w', .int .i64 h', .lst Ey pix]), some (.cells [.int .i64 a, .int .i64 b, .int .i64 k]), some (.cells [.int .i64 w', .int .i64 h', .lst Ey D1]), none, some (.arr Ey (morL more pix i)), some (.cells [.int .i64 w', .int .i64 h', .sla 1 4 0 pix.length])]) ⟨0, by omega, TWk.fcanon env [some 0, some 1, some 2, some 3, some 4, some 5] (by rfl) ?_⟩ (fun i hi => ?_)
  · repeat' (first
      | exact p0
      | refine GZ_i_y ?_ ?_ ?_ ?_ ?_ ?_ ?_ ?_
      | with_reducible first | exact BzZq.mk | refine Tw.ret ?_ | refine ImZq.i fun h => ?_ | refine IkZq.i fun hk => ?_)
  have mli := ml i
  rcases Nat.lt_or_ge i pix.length with hi | hi
  · have q1 := hb i hi
    have q2 := mg i hi
    have st := stp i hi
    by_cases h0 : more.length = 0
    · have mv : mor more pix i = pix.getD i 0 := if_pos h0
      have same : (morL more pix i).set i (pix.getD i 0) = morL more pix i := by
        refine ext_getD 0 (by simp) fun j hj => ?_
        rw [List.length_set] at hj
        by_cases e : i = j
        · subst e; rw [getD_set_eq hj, q2]
        · rw [getD_set_ne e]
      rw [mv, same] at st
      repeat' (first
        | refine GZy_i_y mli ?_ ?_ ?_ ?_ ?_ ?_ ?_ ?_
        | with_reducible first | exact BzZq.mk | refine Tw.ret ?_ | refine ImZq.i fun h => ?_ | refine IkZq.i fun hk => ?_)
      refine ⟨i + 1, by omega, by omega, ?_⟩
      rw [st]
      refine TWk.fcanon env [some 0, some 1, some 2, some 3, some 4, some 5] (by rfl) ?_
      repeat' (first
        | refine GZ_i_y ?_ ?_ ?_ ?_ ?_ ?_ ?_ ?_
        | with_reducible first | exact BzZq.mk | refine Tw.ret ?_ | refine ImZq.i fun h => ?_ | refine IkZq.i fun hk => ?_)
    · have rm : rem (i : Int) (more.length : Int) = ((i % more.length : Nat) : Int) := by rw [rem_nn (by omega)]; simp
      have hlt : i % more.length < more.length := Nat.mod_lt _ (by omega)
      have q3 := hm _ hlt
      have mv : mor more pix i = max (pix.getD i 0) (more.getD (i % more.length) 0) := if_neg h0
      rw [mv, ← q2] at st
      generalize morL more pix i = M at *
      repeat' (first
        | refine GZy_i_y (And.intro mli (And.intro rm q2)) ?_ ?_ ?_ ?_ ?_ ?_ ?_ ?_
        | with_reducible first | exact BzZq.mk | refine Tw.ret ?_ | refine ImZq.i fun h => ?_ | refine IkZq.i fun hk => ?_)
      simp only [rm, Int.toNat_natCast, Nat.add_zero]
      refine ⟨i + 1, by omega, by omega, TWk.fcanon env [some 0, some 1, some 2, some 3, some 4, some 5] (by rfl) ?_⟩
      repeat' (first
        | exact st
        | refine GZ_i_y ?_ ?_ ?_ ?_ ?_ ?_ ?_ ?_
        | with_reducible first | exact BzZq.mk | refine Tw.ret ?_ | refine ImZq.i fun h => ?_ | refine IkZq.i fun hk => ?_)
  · obtain rfl : pix.length = i := by omega
    generalize morL more pix pix.length = M at *
    repeat' (first
      | refine GZp_i_y ?_ ?_ ?_ ?_ ?_ ?_ ?_ ?_
      | with_reducible first | exact BzZq.mk | refine Tw.ret ?_ | refine ImZq.i fun h => ?_ | refine IkZq.i fun hk => ?_)
    refine TOps.frz env 4 (by rfl) (by rfl) (by rfl) ?_ ?_ ?_
    · repeat' (first
        | refine GZx_i_y mli ?_ ?_ ?_ ?_ ?_ ?_ ?_ ?_
        | with_reducible first | exact BzZq.mk | refine Tw.ret ?_ | refine ImZq.i fun h => ?_ | refine IkZq.i fun hk => ?_)
    · repeat' (first
        | refine GZx_i_y mli ?_ ?_ ?_ ?_ ?_ ?_ ?_ ?_
        | with_reducible first | exact BzZq.mk | refine Tw.ret ?_ | refine ImZq.i fun h => ?_ | refine IkZq.i fun hk => ?_)
    rw [cut_all mli.symm]
    repeat' (first
      | ((with_reducible refine TOps.any ?_); refine TOps.callV env (by rfl) (by rfl) (by rfl) (aq) ?_)
      | ((with_reducible refine TOps.any ?_); refine TOps.callV env (by rfl) (by rfl) (by rfl) (mn) ?_)
      | ((with_reducible refine TOps.any ?_); refine TOps.callV env (by rfl) (by rfl) (by rfl) (cn) ?_)
      | refine GZp_i_y ?_ ?_ ?_ ?_ ?_ ?_ ?_ ?_
      | with_reducible first | exact BzZq.mk | refine Tw.ret ?_ | refine ImZq.i fun h => ?_ | refine IkZq.i fun hk => ?_)
    all_goals exact ⟨rfl, rfl, trivial⟩
end Go.Proofs.Ytcehapmkhlmgdaa
