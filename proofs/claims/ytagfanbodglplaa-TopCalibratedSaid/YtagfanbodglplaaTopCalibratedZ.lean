/- The law TopCalibrated. -/
import Derived.Test.YtagfanbodglplaaTCal1
import Derived.Test.YtagfanbodglplaaXTopCalibrated0
import Derived.Test.YtagfanbodglplaaGo
namespace Go.Proofs.Ytagfanbodglplaa
open Go Go.Lite
set_option linter.unusedVariables false
set_option linter.unusedSimpArgs false
set_option maxRecDepth 100000
set_option maxHeartbeats 100000000
-- @simp rdi rdy rd2i rd2iLyJ

theorem TopCalibrated_law (a b k g0 s0 : Int) (_ : rng .i64 a) (_ : rng .i64 b) (_ : rng .i64 k) (wg : rng .i64 g0) (ws : rng .i64 s0) :
    TC R Try.prog T_TopCalibrated_f [.agg [.int .i64 a, .int .i64 b, .int .i64 k], .int .i64 g0, .int .i64 s0] [] (fun v X => v = .bool true ∧ X = []) := by
  simp only [rng] at wg ws
  have m1 := sMod_c g0 3 (by unfold Due; omega)
  have m2 := sMod_c s0 12 (by unfold Due; omega)
  obtain ⟨gr, eg⟩ : ∃ gr : Nat, g0 % 3 = gr := ⟨(g0 % 3).toNat, by omega⟩
  obtain ⟨S, eS⟩ : ∃ S : Nat, 6 + s0 % 12 = S := ⟨(6 + s0 % 12).toNat, by omega⟩
  have hg3 : gr < 3 := by omega
  have hS : 6 ≤ S ∧ S ≤ 17 := by omega
  obtain ⟨N, eN⟩ : ∃ N : Nat, S * S = N := ⟨_, rfl⟩
  have es : (S : Int) * S = (N : Int) := by rw [← eN]; simp
  have nb : 36 ≤ N ∧ N ≤ 289 := by rw [← eN]; exact ⟨Nat.mul_le_mul hS.1 hS.1, Nat.mul_le_mul hS.2 hS.2⟩
  have sc := scheck_c a b k
  refine tc0 env T_TopCalibrated_s (by rfl) ?_
  dsimp only [T_TopCalibrated_c]
  repeat' (first
    | ((with_reducible refine TOps.any ?_); refine TOps.callV env (by rfl) (by rfl) (by rfl) (sDots_c) ?_)
    | ((with_reducible refine TOps.any ?_); refine TOps.callV env (by rfl) (by rfl) (by rfl) (m1) ?_)
    | ((with_reducible refine TOps.any ?_); refine TOps.callV env (by rfl) (by rfl) (by rfl) (m2) ?_)
    | refine GZp_i_y_2i_2iLyJ ?_ ?_ ?_ ?_ ?_ ?_ ?_ ?_
    | with_reducible first | exact BzZq.mk | refine Tw.ret ?_ | refine ImZq.i fun h => ?_ | refine IkZq.i fun hk => ?_)
  rw [eg, eS]
  clear m1 m2 eg eS wg ws
  by_cases h0 : schk a b k = 0
  rotate_left
  · have sf : TC R Try.prog T_sFlat_f [.int .i64 S, .int .i64 S, .int .u8 (15 * (0 : Int) % 256)] [] (fun v X => v = .agg [.int .i64 S, .int .i64 S, .lst Ey (List.replicate N (0 : Int))] ∧ X = []) := sFlat_c S N 0 eN (by omega) (by omega)
    have ap := apply_bad S S a b k (List.replicate N 0) (by unfold Due; simp; omega) (schk a b k) (by
      have : pchk S S (List.replicate N (0 : Int)).length = 0 := by
        unfold pchk
        rw [if_neg (by omega), if_neg (by rw [List.length_replicate, es]; omega)]
      rw [if_neg (by rw [this]; decide)]) h0
    generalize schk a b k = e at *
    refine Tw.loopK [1, 2, 3] (fun _ : Nat => True) (fun j => j) (fun _ => [(31, .int .i64 0)]) (fun _ => [some (.cells [.int .i64 a, .int .i64 b, .int .i64 k])]) ⟨0, trivial, TWk.fcanon env [some 0] (by rfl) ?_⟩ (fun _ _ => ?_)
    · repeat' (first
        | refine GZ_i_y_2i_2iLyJ ?_ ?_ ?_ ?_ ?_ ?_ ?_ ?_
        | with_reducible first | exact BzZq.mk | refine Tw.ret ?_ | refine ImZq.i fun h => ?_ | refine IkZq.i fun hk => ?_)
    repeat' (first
      | ((with_reducible refine TDr.any ?_); refine TDr.callHD env [] (sf) (by first | rfl | assumption) (by rfl) (by rfl) (by rfl) (by rfl) (by rfl) (fun _ => by rfl) (fun _ => by repeat' (first | exact trivial | refine ⟨rfl, ?_⟩)) (fun _ => by rfl) (fun _ => by rfl) ?_)
      | ((with_reducible refine TDr.any ?_); refine TDr.callHD env [] (ap) (by first | rfl | assumption) (by rfl) (by rfl) (by rfl) (by rfl) (by rfl) (fun _ => by rfl) (fun _ => by repeat' (first | exact trivial | refine ⟨rfl, ?_⟩)) (fun _ => by rfl) (fun _ => by rfl) ?_)
      | ((with_reducible refine TOps.any ?_); refine TOps.callV env (by rfl) (by rfl) (by rfl) (sc) ?_)
      | refine GZp_i_y_2i_2iLyJ ?_ ?_ ?_ ?_ ?_ ?_ ?_ ?_
      | with_reducible first | exact BzZq.mk | refine Tw.ret ?_ | refine ImZq.i fun h => ?_ | refine IkZq.i fun hk => ?_)
    all_goals exact ⟨rfl, congrArg TV.bool (by simp), rfl⟩
  obtain ⟨P, f, g, oc, F⟩ := of_ex a b k h0
  obtain ⟨a1, a2, b1, b2, _, _, _, n1, n2⟩ := schk_ok h0
  obtain ⟨n, en⟩ : ∃ n : Nat, a * a + b * b = n := ⟨(a * a + b * b).toNat, by omega⟩
  obtain ⟨hd, ehd⟩ : ∃ hd : Int → Nat → Nat → Bool, hd = fun t => hdot (rks a b k P f g n) P f g (dotT n) S (List.replicate N t) := ⟨_, rfl⟩
  obtain ⟨ar, ear⟩ : ∃ ar : Nat → Int, ar = fun j : Nat => 65280 * dotC S gr hd (15 * (j : Int)) / (N : Int) := ⟨_, rfl⟩
  have ar_in : ∀ j, 0 ≤ ar j ∧ ar j ≤ 65280 := fun j => by
    have h1 := dotC_bd (s := S) (n := gr) (hd := hd) (t := 15 * (j : Int))
    rw [eN] at h1
    rw [ear]
    exact ⟨Int.ediv_nonneg (by omega) (by omega), Int.ediv_le_of_le_mul (by omega) (by omega)⟩
  obtain ⟨Lf, eLf⟩ : ∃ Lf : Nat → Int × Int, Lf = fun j : Nat => (3840 * (j : Int), ar j) := ⟨_, rfl⟩
  refine Tw.weaken (TWk.reH (H' := [some (.cells [.int .i64 a, .int .i64 b, .int .i64 k]), some (.arr Ei (ptab 18 0 ar))]) (by rfl)) ?_
  refine Tw.loopK [1, 2, 3, 8] (fun j : Nat => j ≤ 18) (fun j => 18 - j) (fun j => [(31, .int .i64 j), (7, .sla 2 2 0 j)]) (fun j => [some (.cells [.int .i64 a, .int .i64 b, .int .i64 k]), some (.arr Ei (ptab 18 j ar)), some (.arr E2i (tab j Lf))]) ⟨0, by omega, TWk.fcanon env [some 0, some 1, none] (by rfl) ?_⟩ (fun j hj => ?_)
  · repeat' (first
      | refine GZ_i_y_2i_2iLyJ ?_ ?_ ?_ ?_ ?_ ?_ ?_ ?_
      | with_reducible first | exact BzZq.mk | refine Tw.ret ?_ | refine ImZq.i fun h => ?_ | refine IkZq.i fun hk => ?_)
  rcases Nat.lt_or_ge j 18 with hj | hj
  · obtain ⟨t, et⟩ : ∃ t : Int, t = 15 * (j : Int) := ⟨_, rfl⟩
    have ht : 0 ≤ t ∧ t ≤ 255 := by omega
    have e15 : 15 * (j : Int) % 256 = t := by omega
    have sf : TC R Try.prog T_sFlat_f [.int .i64 S, .int .i64 S, .int .u8 (15 * (j : Int) % 256)] [] (fun v X => v = .agg [.int .i64 S, .int .i64 S, .lst Ey (List.replicate N t)] ∧ X = []) := by rw [e15]; exact sFlat_c S N t eN (by omega) ht
    have rl : (List.replicate N t).length = N := by simp
    have ap : TC R Try.prog halftone_Apply_f [.agg [.int .i64 S, .int .i64 S, .lst Ey (List.replicate N t)], .agg [.int .i64 a, .int .i64 b, .int .i64 k]] [] (fun v X => v = .tup [.agg [.int .i64 S, .int .i64 S, .lst Ey (bm S S (hd t))], .int .i64 0] ∧ X = []) := by
      rw [ehd]
      exact apply_c h0 F oc n (by unfold Due; omega) S S _ (by unfold Due; omega) (by unfold Due; omega) (by unfold Due; rw [rl, eN]) (fun i hi => by rw [getD_repl (by omega)]; exact ht)
    have okB : BmOk S S (bm S S (hd t)) := bm_ok (by omega) (by omega)
    have pc := print_g S S (cut [((S : Int), (S : Int), bm S S (hd t))] 0 1) (cut [(gr : Int)] 0 1) (cut [((0 : Int), (0 : Int))] 0 1) (fun q hq => by
        obtain rfl : q = 0 := by have : q < 1 := hq; omega
        exact okB.byte) rfl rfl (fun q hq => by
        obtain rfl : q = 0 := by have : q < 1 := hq; omega
        show (0 : Int) ≤ (gr : Int) ∧ (gr : Int) ≤ 16; omega) (fun q hq => by
        obtain rfl : q = 0 := by have : q < 1 := hq; omega
        show (-1024 : Int) ≤ 0 ∧ (0 : Int) ≤ 1024 ∧ (-1024 : Int) ≤ 0 ∧ (0 : Int) ≤ 1024; omega) ⟨by show 1 ≤ 1; omega, by show 1 ≤ 8; omega, fun q hq => by
        obtain rfl : q = 0 := by have : q < 1 := hq; omega
        exact ⟨(bitsE_ok okB.byte).2 ⟨S, S, rfl, rfl, okB⟩, rfl, rfl⟩⟩ (fun _ x y => dotP S gr hd t x y) (fun i x y hi => by
        obtain rfl : i = 0 := by have : i < 1 := hi; omega
        show px S S (grD S S gr (bm S S (hd t))) x y = px S S (grD S S gr (bm S S (hd t))) ((x : Int) - 0) ((y : Int) - 0)
        rw [Int.sub_zero, Int.sub_zero]) (fun q hq => by
        obtain rfl : q = 0 := by have : q < 1 := hq; omega
        exact ⟨rfl, rfl, okB⟩)
    obtain ⟨Lp, eLp⟩ : ∃ Lp : List Int, Lp = tab (S * S) fun j => setG S (fun _ x y => dotP S gr hd t x y) j 1 := ⟨_, rfl⟩
    have pl : Lp.length = N := by rw [eLp, tab_len]; exact eN
    have pg : ∀ q, q < N → Lp.getD q 0 = if dotP S gr hd t (q % S) (q / S) then 1 else 0 := fun q hq => by
      rw [eLp, tab_get (by omega)]
      show (0 : Int) + (if dotP S gr hd t (q % S) (q / S) then 2 ^ 0 else 0) = _
      split <;> rfl
    have pc : TC R Try.prog sheet_Print_f [.lst E2iLyJ (cut [((S : Int), (S : Int), bm S S (hd t))] 0 1), .lst Ei (cut [(gr : Int)] 0 1), .lst E2i (cut [((0 : Int), (0 : Int))] 0 1)] [] (fun v X => v = .tup [.agg [.int .i64 S, .int .i64 S, .sla 1 0 0 N], .int .i64 0] ∧ X = [some (.arr Ey Lp)]) := by
      rw [eLp, ← eN]; exact pc
    have ct := counts_y S S Lp 1 (mskE_ok.2 ⟨by omega, by omega, by omega, by omega, by rw [pl, es]⟩) (by omega) (fun q hq => by rw [pg q (by omega)]; split <;> decide)
    have c1 : cntN Lp 1 N = dotC S gr hd t := by
      rw [← eN]
      refine sumN_congr fun q hq => ?_
      rw [pg q (by omega)]
      by_cases e : dotP S gr hd t (q % S) (q / S) = true
      · rw [if_pos e]; rfl
      · rw [if_neg e]; rfl
    rw [pl] at ct
    obtain ⟨Cl, eCl⟩ : ∃ Cl : List Int, Cl = tab (2 ^ 1) fun s => cntN Lp s N := ⟨_, rfl⟩
    have cl : Cl.length = 2 := by rw [eCl]; exact tab_len
    have cg : Cl.getD 1 0 = dotC S gr hd t := by rw [eCl, ← c1]; exact tab_get (by decide)
    rw [← eCl] at ct
    have cb := dotC_bd (s := S) (n := gr) (hd := hd) (t := t)
    rw [eN] at cb
    have ea : quo (65280 * Cl.getD 1 0) ((S : Int) * S) = ar j := by rw [cg, es, quo_nn (by omega), ear, et]
    repeat' (first
      | ((with_reducible refine TDr.any ?_); refine TDr.callHD env [] (sf) (by first | rfl | assumption) (by rfl) (by rfl) (by rfl) (by rfl) (by rfl) (fun _ => by rfl) (fun _ => by repeat' (first | exact trivial | refine ⟨rfl, ?_⟩)) (fun _ => by rfl) (fun _ => by rfl) ?_)
      | ((with_reducible refine TDr.any ?_); refine TDr.callHD env [] (ap) (by first | rfl | assumption) (by rfl) (by rfl) (by rfl) (by rfl) (by rfl) (fun _ => by rfl) (fun _ => by repeat' (first | exact trivial | refine ⟨rfl, ?_⟩)) (fun _ => by rfl) (fun _ => by rfl) ?_)
      | ((with_reducible refine TOps.any ?_); refine TOps.callE env (by rfl) (by rfl) (by rfl) ?_ (pc) (by rfl) ?_)
      | refine GZp_i_y_2i_2iLyJ ?_ ?_ ?_ ?_ ?_ ?_ ?_ ?_
      | with_reducible first | exact BzZq.mk | refine Tw.ret ?_ | refine ImZq.i fun h => ?_ | refine IkZq.i fun hk => ?_)
    refine TOps.frz env 7 (by rfl) (by rfl) (by rfl) ?_ ?_ ?_
    · repeat' (first
        | refine GZx_i_y_2i_2iLyJ pl ?_ ?_ ?_ ?_ ?_ ?_ ?_ ?_
        | with_reducible first | exact BzZq.mk | refine Tw.ret ?_ | refine ImZq.i fun h => ?_ | refine IkZq.i fun hk => ?_)
    · repeat' (first
        | refine GZx_i_y_2i_2iLyJ pl ?_ ?_ ?_ ?_ ?_ ?_ ?_ ?_
        | with_reducible first | exact BzZq.mk | refine Tw.ret ?_ | refine ImZq.i fun h => ?_ | refine IkZq.i fun hk => ?_)
    rw [cut_all pl.symm]
    have tl : (tab j Lf).length = j := tab_len
    have al : (ptab 18 j ar).length = 18 := ptab_len
    have s1 : (ptab 18 j ar).set j (ar j) = ptab 18 (j + 1) ar := ptab_set
    have s2 : (ptab 18 (j + 1) ar).getD j 0 = ar j := ptab_get (by omega) hj
    have b1 : -9223372036854775808 ≤ (S : Int) * S ∧ (S : Int) * S ≤ 9223372036854775807 := by rw [es]; omega
    have b2 : ¬ (S : Int) * S = 0 := by rw [es]; omega
    have b3 := ar_in j
    have b4 : tab (j + 1) Lf = cut (tab j Lf) 0 j ++ cut [(3840 * (j : Int), ar j)] 0 1 := by rw [cut_all tl.symm, tab_succ, eLf]; rfl
    rw [← cg] at cb
    clear sf ap pc ehd okB
    repeat' (first
      | ((with_reducible refine TOps.any ?_); refine TOps.callV env (by rfl) (by rfl) (by rfl) (ct) ?_)
      | exact b1
      | refine GZy_i_y_2i_2iLyJ (And.intro cl (And.intro ea (And.intro s1 (And.intro s2 (And.intro tl al))))) ?_ ?_ ?_ ?_ ?_ ?_ ?_ ?_
      | with_reducible first | exact BzZq.mk | refine Tw.ret ?_ | refine ImZq.i fun h => ?_ | refine IkZq.i fun hk => ?_)
    · show -9223372036854775808 ≤ 65280 * Cl.getD 1 0 ∧ 65280 * Cl.getD 1 0 ≤ 9223372036854775807
      omega
    · show rng .i64 (quo (65280 * Cl.getD 1 0) ((S : Int) * S))
      rw [ea]; simp only [rng]; omega
    have s3 : ptab 18 (j + 1) ar = (ptab 18 j ar).set (j : Int).toNat (quo (65280 * Cl.getD (Int.toNat 1) (R.d Ei)) ((S : Int) * S)) := by
      show _ = (ptab 18 j ar).set j (quo (65280 * Cl.getD 1 0) ((S : Int) * S))
      rw [ea, s1]
    have s4 : ((ptab 18 j ar).set (j : Int).toNat (quo (65280 * Cl.getD (Int.toNat 1) (R.d Ei)) ((S : Int) * S))).getD (j : Int).toNat (R.d Ei) = ar j := by
      rw [← s3]; exact s2
    rw [s4]
    refine ⟨j + 1, by omega, by omega, TWk.fcanon env [some 0, some 1, some 10] (by rfl) ?_⟩
    repeat' (first
      | exact s3
      | exact b4
      | refine GZ_i_y_2i_2iLyJ ?_ ?_ ?_ ?_ ?_ ?_ ?_ ?_
      | with_reducible first | exact BzZq.mk | refine Tw.ret ?_ | refine ImZq.i fun h => ?_ | refine IkZq.i fun hk => ?_)
  · obtain rfl : j = 18 := by omega
    clear sc
    have rl0 : ∀ t, (List.replicate N (t : Int)).length = N := fun t => by simp
    have dm : ∀ t u : Int, 0 ≤ t → t ≤ u → u ≤ 255 → dotC S gr hd t ≤ dotC S gr hd u := fun t u h1 h2 h3 => dotC_mono fun x y hx hy => by
      have hi : y * S + x < N := by
        rw [← eN]
        have := Nat.mul_le_mul_right S (show y + 1 ≤ S by omega)
        rw [Nat.add_mul] at this; omega
      rw [ehd]
      unfold hdot
      dsimp only
      rw [getD_repl hi, getD_repl hi]
      have d1 : (dotT n).getD t.toNat 0 = dotV n (t.toNat : Int) := tab_get (by omega)
      have d2 : (dotT n).getD u.toNat 0 = dotV n (u.toNat : Int) := tab_get (by omega)
      have d3 : dotV n (t.toNat : Int) ≤ dotV n (u.toNat : Int) := near_mono (by omega) (Int.mul_le_mul_of_nonneg_right (by omega) (by omega))
      rw [d1, d2]
      intro hq
      simp only [decide_eq_true_eq] at hq ⊢
      omega
    have am : ∀ i j, i ≤ j → j ≤ 17 → ar i ≤ ar j := fun i j hij hj => by
      have := dm (15 * (i : Int)) (15 * (j : Int)) (by omega) (by omega) (by omega)
      rw [ear]
      exact Int.ediv_le_ediv (by omega) (by omega)
    have a17 : ar 17 = 65280 := by
      have e1 : dotC S gr hd (15 * ((17 : Nat) : Int)) = (S * S : Nat) := dotC_full (by omega) fun x y hx hy => by
        have hi : y * S + x < N := by
          rw [← eN]
          have := Nat.mul_le_mul_right S (show y + 1 ≤ S by omega)
          rw [Nat.add_mul] at this; omega
        rw [ehd]
        unfold hdot
        dsimp only
        rw [getD_repl hi]
        have d2 : (dotT n).getD (15 * ((17 : Nat) : Int)).toNat 0 = dotV n 255 := tab_get (show 255 < 256 by decide)
        have d3 : dotV n 255 = n := by unfold dotV; rw [Int.mul_comm]; exact near_full (by omega)
        rw [d2, d3]
        refine decide_eq_true ?_
        have hn : 1 ≤ a * a + b * b ∧ a * a + b * b ≤ 400 := ⟨n1, n2⟩
        have pb : (plc P f g x y).toNat < n := by
          have hP := F.pb
          have hg := F.gb
          have har := F.area
          obtain ⟨P, rfl⟩ : ∃ p : Nat, P = p := ⟨P.toNat, by omega⟩
          obtain ⟨g, rfl⟩ : ∃ p : Nat, g = p := ⟨g.toNat, by omega⟩
          have := plc_in (f := f) (x := x) (y := y) (show 0 < P by omega) (show 0 < g by omega)
          omega
        show (rks a b k P f g n).getD (plc P f g x y).toNat 0 < (n : Int)
        unfold rks
        rw [tab_get pb]
        have := rkK_lt (k := k) hn F en pb
        omega
      rw [ear]
      show 65280 * dotC S gr hd (15 * ((17 : Nat) : Int)) / (N : Int) = 65280
      rw [e1, eN]
      exact Int.mul_ediv_cancel _ (by omega)
    obtain ⟨L, eL⟩ : ∃ L, L = tab 18 Lf := ⟨_, rfl⟩
    have ll : L.length = 18 := by rw [eL]; exact tab_len
    have lg : ∀ i, i < 18 → L.getD i (0, 0) = (3840 * (i : Int), ar i) := fun i hi => by rw [eL, tab_get hi, eLf]
    have vL : Valid L := ⟨by omega, fun i hi => by
      rw [ll] at hi
      rw [lg i hi]
      have := ar_in i
      exact ⟨by show 0 ≤ 3840 * (i : Int); omega, by show 3840 * (i : Int) ≤ 65280; omega, this.1, this.2⟩, fun i hi => by
      rw [ll] at hi
      rw [lg i (by omega), lg (i + 1) (by omega)]
      exact ⟨by show 3840 * (i : Int) < 3840 * ((i + 1 : Nat) : Int); omega, am i (i + 1) (by omega) (by omega)⟩, by rw [lg 0 (by omega)]; rfl, by rw [ll, lg 17 (by omega)]; rfl⟩
    have line : check [((0 : Int), (0 : Int)), (65280, 65280)] = 0 := by decide +kernel
    have vI : Valid [((0 : Int), (0 : Int)), (65280, 65280)] := check_ok line
    have lr : ∀ k : Nat, k < 17 → raw [((0 : Int), (0 : Int)), (65280, 65280)] ((k : Int) * 4080) = (k : Int) * 4080 := fun k hk => by
      rw [raw_at vI (i := 0) (by decide) (by constructor <;> (show _ ≤ _) <;> simp <;> omega)]
      show (0 : Int) + near ((65280 - 0) * ((k : Int) * 4080 - 0)) (65280 - 0) = _
      rw [Int.sub_zero, Int.sub_zero, Int.mul_comm, near_full (by decide)]; omega
    have fc := fit_c L vL (by unfold Due; omega)
    have lst17 : (L.getD (L.length - 1) (0, 0)).2 = 65280 := by rw [ll, lg 17 (by omega)]; exact a17
    have cy := calib_y L [((0 : Int), (0 : Int)), (65280, 65280)] (by unfold Due; exact check_valid vL) (by unfold Due; exact line) (by unfold Due; rw [lst17]; decide)
    obtain ⟨C, eC⟩ : ∃ C : List (Int × Int), C = tab 17 fun k => ((k : Int) * 4080, lst L (raw [((0 : Int), (0 : Int)), (65280, 65280)] (k * 4080))) := ⟨_, rfl⟩
    rw [← eC] at cy
    have cl : C.length = 17 := by rw [eC]; exact tab_len
    have key : ∀ k j : Nat, k < 17 → j < 18 → decide ((C.getD k (0, 0)).2 ≤ 3840 * (j : Int)) = decide (4080 * (k : Int) ≤ ar j) := fun k j hk hj => by
      have e1 : (C.getD k (0, 0)).2 = lst L ((k : Int) * 4080) := by rw [eC, tab_get hk, lr k hk]
      rw [e1]
      obtain ⟨q1, q2, q3, q4⟩ := lst_is vL (y := (k : Int) * 4080) (by rw [lst17]; omega)
      have node : raw L (3840 * (j : Int)) = ar j := by
        rcases Nat.lt_or_ge j 17 with h | h
        · rw [raw_at vL (i := j) (by omega) (by rw [lg j hj, lg (j + 1) (by omega)]; constructor <;> (show _ ≤ _) <;> simp <;> omega)]
          unfold rawAt
          rw [lg j hj]
          show ar j + near (_ * (3840 * (j : Int) - 3840 * (j : Int))) _ = _
          rw [Int.sub_self, Int.mul_zero, near_zero (by rw [lg (j + 1) (by omega)]; show 0 < 3840 * ((j + 1 : Nat) : Int) - 3840 * (j : Int); omega)]; omega
        · obtain rfl : j = 17 := by omega
          have := raw_last vL
          rw [lst17] at this
          rw [a17]; exact this
      refine decide_eq_decide.2 ⟨fun h => ?_, fun h => ?_⟩
      · have := raw_mono vL (x := lst L ((k : Int) * 4080)) (y := 3840 * (j : Int)) ⟨q1, q2⟩ (by omega) h
        rw [node] at this; omega
      · refine Int.not_lt.1 fun hc => ?_
        rcases q4 with q4 | q4
        · omega
        · have := raw_mono vL (x := 3840 * (j : Int)) (y := lst L ((k : Int) * 4080) - 1) (by omega) (by omega) (by omega)
          rw [node] at this; omega
    have t18 : (tab 18 Lf).length = 18 := tab_len
    refine Tw.frz env 2 (by rfl) (by rfl) (by rfl) ?_ ?_ ?_
    · repeat' (first
        | refine GZx_i_y_2i_2iLyJ t18 ?_ ?_ ?_ ?_ ?_ ?_ ?_ ?_
        | with_reducible first | exact BzZq.mk | refine Tw.ret ?_ | refine ImZq.i fun h => ?_ | refine IkZq.i fun hk => ?_)
    · repeat' (first
        | refine GZx_i_y_2i_2iLyJ t18 ?_ ?_ ?_ ?_ ?_ ?_ ?_ ?_
        | with_reducible first | exact BzZq.mk | refine Tw.ret ?_ | refine ImZq.i fun h => ?_ | refine IkZq.i fun hk => ?_)
    rw [cut_tab, ← eL]
    have lc : TC R Try.prog T_sLine_f [] [] (fun v X => v = .agg [.lst E2i [((0 : Int), (0 : Int)), (65280, 65280)]] ∧ X = []) := by
      refine tc0 env T_sLine_s (by rfl) ?_
      dsimp only [T_sLine_c]
      repeat' (first
        | ((with_reducible refine Tw.retI ?_); refine Tw.frz env 1 (by rfl) (by rfl) (by rfl) ?_ ?_ (Tw.ret ?_))
        | refine GZp_i_y_2i_2iLyJ ?_ ?_ ?_ ?_ ?_ ?_ ?_ ?_
        | with_reducible first | exact BzZq.mk | refine Tw.ret ?_ | refine ImZq.i fun h => ?_ | refine IkZq.i fun hk => ?_)
      exact ⟨rfl, rfl, rfl⟩
    rw [ptab_all]
    clear eC eL vL dm am a17 ear eLf ehd
    repeat' (first
      | ((with_reducible refine TOps.any ?_); refine TOps.callV env (by rfl) (by rfl) (by rfl) (fc) ?_)
      | ((with_reducible refine TDr.any ?_); refine TDr.callHD env [] (lc) (by first | rfl | assumption) (by rfl) (by rfl) (by rfl) (by rfl) (by rfl) (fun _ => by rfl) (fun _ => by repeat' (first | exact trivial | refine ⟨rfl, ?_⟩)) (fun _ => by rfl) (fun _ => by rfl) ?_)
      | ((with_reducible refine TDr.any ?_); refine TDr.callHD env [] (cy) (by first | rfl | assumption) (by rfl) (by rfl) (by rfl) (by rfl) (by rfl) (fun _ => by rfl) (fun _ => by repeat' (first | exact trivial | refine ⟨rfl, ?_⟩)) (fun _ => by rfl) (fun _ => by rfl) ?_)
      | refine GZy_i_y_2i_2iLyJ cl ?_ ?_ ?_ ?_ ?_ ?_ ?_ ?_
      | with_reducible first | exact BzZq.mk | refine Tw.ret ?_ | refine ImZq.i fun h => ?_ | refine IkZq.i fun hk => ?_)
    refine Tw.weaken (TWk.reH (H' := [some (.cells [.int .i64 a, .int .i64 b, .int .i64 k]), some (.cells [.int .i64 (ar 0), .int .i64 (ar 1), .int .i64 (ar 2), .int .i64 (ar 3), .int .i64 (ar 4), .int .i64 (ar 5), .int .i64 (ar 6), .int .i64 (ar 7), .int .i64 (ar 8), .int .i64 (ar 9), .int .i64 (ar 10), .int .i64 (ar 11), .int .i64 (ar 12), .int .i64 (ar 13), .int .i64 (ar 14), .int .i64 (ar 15), .int .i64 (ar 16), .int .i64 (ar 17)]), none, some (.cells [.lst E2i L]), some (.cells [.lst E2i C])]) (by rfl)) ?_
    refine Tw.loopK [121, 122] (fun k : Nat => k ≤ 17) (fun k => 17 - k) (fun k => [(123, .int .i64 k), (8, .ptr 0 0)]) (fun _ => [some (.cells [.int .i64 (ar 0), .int .i64 (ar 1), .int .i64 (ar 2), .int .i64 (ar 3), .int .i64 (ar 4), .int .i64 (ar 5), .int .i64 (ar 6), .int .i64 (ar 7), .int .i64 (ar 8), .int .i64 (ar 9), .int .i64 (ar 10), .int .i64 (ar 11), .int .i64 (ar 12), .int .i64 (ar 13), .int .i64 (ar 14), .int .i64 (ar 15), .int .i64 (ar 16), .int .i64 (ar 17)])]) ⟨0, by omega, TWk.fcanon env [some 1] (by rfl) ?_⟩ (fun k hk => ?_)
    · repeat' (first
        | refine GZ_i_y_2i_2iLyJ ?_ ?_ ?_ ?_ ?_ ?_ ?_ ?_
        | with_reducible first | exact BzZq.mk | refine Tw.ret ?_ | refine ImZq.i fun h => ?_ | refine IkZq.i fun hk => ?_)
    rcases Nat.lt_or_ge k 17 with hk | hk
    · repeat' (first
        | refine GZy_i_y_2i_2iLyJ cl ?_ ?_ ?_ ?_ ?_ ?_ ?_ ?_
        | with_reducible first | exact BzZq.mk | refine Tw.ret ?_ | refine ImZq.i fun h => ?_ | refine IkZq.i fun hk => ?_)
      refine Tw.loopK [8, 121, 122, 123, 20, 21, 128] (fun j : Nat => j ≤ 18) (fun j => 18 - j) (fun j => [(129, .int .i64 j)]) (fun j => [some (.cells [.int .i64 (ar 0), .int .i64 (ar 1), .int .i64 (ar 2), .int .i64 (ar 3), .int .i64 (ar 4), .int .i64 (ar 5), .int .i64 (ar 6), .int .i64 (ar 7), .int .i64 (ar 8), .int .i64 (ar 9), .int .i64 (ar 10), .int .i64 (ar 11), .int .i64 (ar 12), .int .i64 (ar 13), .int .i64 (ar 14), .int .i64 (ar 15), .int .i64 (ar 16), .int .i64 (ar 17)]), some (.cells [.int .i64 (C.getD k (0, 0)).1, .int .i64 (C.getD k (0, 0)).2])]) ⟨0, by omega, TWk.fcanon env [some 0, some 1] (by rfl) ?_⟩ (fun j hj => ?_)
      · repeat' (first
          | refine GZ_i_y_2i_2iLyJ ?_ ?_ ?_ ?_ ?_ ?_ ?_ ?_
          | with_reducible first | exact BzZq.mk | refine Tw.ret ?_ | refine ImZq.i fun h => ?_ | refine IkZq.i fun hk => ?_)
      rcases Nat.lt_or_ge j 18 with hj | hj
      · have kj := key k j hk hj
        have aj := ar_in j
        obtain ⟨j1, ej⟩ : ∃ j1, j1 = j + 1 := ⟨_, rfl⟩
        have e : j = 0 ∨ j = 1 ∨ j = 2 ∨ j = 3 ∨ j = 4 ∨ j = 5 ∨ j = 6 ∨ j = 7 ∨ j = 8 ∨ j = 9 ∨ j = 10 ∨ j = 11 ∨ j = 12 ∨ j = 13 ∨ j = 14 ∨ j = 15 ∨ j = 16 ∨ j = 17 := by omega
        rcases e with rfl | rfl | rfl | rfl | rfl | rfl | rfl | rfl | rfl | rfl | rfl | rfl | rfl | rfl | rfl | rfl | rfl | rfl
        all_goals
          repeat' (first
            | refine GZy_i_y_2i_2iLyJ kj ?_ ?_ ?_ ?_ ?_ ?_ ?_ ?_
            | with_reducible first | exact BzZq.mk | refine Tw.ret ?_ | refine ImZq.i fun h => ?_ | refine IkZq.i fun hk => ?_)
          all_goals first
            | (exfalso; simp at h; done)
            | skip
          refine ⟨j1, by omega, by omega, ?_⟩
          rw [ej]
          refine TWk.fcanon env [some 0, some 1] (by rfl) ?_
          repeat' (first
            | refine GZ_i_y_2i_2iLyJ ?_ ?_ ?_ ?_ ?_ ?_ ?_ ?_
            | with_reducible first | exact BzZq.mk | refine Tw.ret ?_ | refine ImZq.i fun h => ?_ | refine IkZq.i fun hk => ?_)
      · obtain rfl : j = 18 := by omega
        repeat' (first
          | refine GZp_i_y_2i_2iLyJ ?_ ?_ ?_ ?_ ?_ ?_ ?_ ?_
          | with_reducible first | exact BzZq.mk | refine Tw.ret ?_ | refine ImZq.i fun h => ?_ | refine IkZq.i fun hk => ?_)
        refine ⟨k + 1, by omega, by omega, TWk.fcanon env [some 0] (by rfl) ?_⟩
        repeat' (first
          | refine GZ_i_y_2i_2iLyJ ?_ ?_ ?_ ?_ ?_ ?_ ?_ ?_
          | with_reducible first | exact BzZq.mk | refine Tw.ret ?_ | refine ImZq.i fun h => ?_ | refine IkZq.i fun hk => ?_)
    · obtain rfl : k = 17 := by omega
      repeat' (first
        | refine GZy_i_y_2i_2iLyJ cl ?_ ?_ ?_ ?_ ?_ ?_ ?_ ?_
        | with_reducible first | exact BzZq.mk | refine Tw.ret ?_ | refine ImZq.i fun h => ?_ | refine IkZq.i fun hk => ?_)
      exact ⟨rfl, rfl, rfl⟩
end Go.Proofs.Ytagfanbodglplaa
