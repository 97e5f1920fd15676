/- Reed-Solomon: the search for the locator, walked. -/
import Derived.Test.YthkilkjngincpaaRs6
import Derived.Test.YthkilkjngincpaaGo
namespace Go.Proofs.Ythkilkjngincpaa
open Go Go.Lite
set_option linter.unusedVariables false
set_option linter.unusedSimpArgs false
set_option maxRecDepth 100000
set_option maxHeartbeats 4000000
-- @simp rdi rdy rdo

theorem pow_c (x : BitVec 8) (n : Nat) (hn : Due (n ≤ 1000000)) : TC R Try.prog reedsolomon_power_f [.int .u8 (by8 x), .int .i64 n] [] (fun v X => v = .int .u8 (by8 (pw x n)) ∧ X = []) := by
  have h := power_c x n hn
  rw [pwF_pw, mulF_oneL] at h
  exact h
theorem inv_c (x : BitVec 8) : TC R Try.prog reedsolomon_power_f [.int .u8 (by8 x), .int .i64 254] [] (fun v X => v = .int .u8 (by8 (iv x)) ∧ X = []) := pow_c x 254 (by unfold Due; omega)
/-- The state of the search. -/
structure LSt where
  L : Nat
  gap : Nat
  lc : Nat
  lb : Nat
  C : Nat → BitVec 8
  B : Nat → BitVec 8
  last : BitVec 8
def lStep (N : Nat) (e : Nat → BitVec 8) (M rho n : Nat) (s : LSt) : LSt :=
  if dis N e M s.C n = 0#8 then ⟨s.L, s.gap + 1, s.lc, s.lb, s.C, s.B, s.last⟩
  else if 2 * s.L ≤ n + rho then ⟨n + 1 + rho - s.L, 1, max s.lc (s.lb + s.gap), s.lc, fixd s.C s.B s.gap (mulF (dis N e M s.C n) (iv s.last)), s.C, dis N e M s.C n⟩
  else ⟨s.L, s.gap + 1, max s.lc (s.lb + s.gap), s.lb, fixd s.C s.B s.gap (mulF (dis N e M s.C n) (iv s.last)), s.B, s.last⟩
def lRun (N : Nat) (e : Nat → BitVec 8) (M rho : Nat) (G : Nat → BitVec 8) : Nat → LSt
  | 0 => ⟨rho, 1, rho + 1, rho + 1, G, G, 1#8⟩
  | k + 1 => lStep N e M rho (rho + k) (lRun N e M rho G k)
/-- Lengths. -/
structure LLen (n : Nat) (s : LSt) : Prop where
  l : s.L ≤ n
  c1 : 1 ≤ s.lc ∧ s.lc ≤ n + 1
  b1 : 1 ≤ s.lb ∧ s.lb + s.gap ≤ n + 2
  g1 : 1 ≤ s.gap
  cz : ∀ k, s.lc ≤ k → s.C k = 0#8
  bz : ∀ k, s.lb ≤ k → s.B k = 0#8
  c0 : s.C 0 = 1#8
theorem lRun_len {N M rho : Nat} {e G : Nat → BitVec 8} (g0 : G 0 = 1#8) (gz : ∀ k, rho < k → G k = 0#8) (hr : ∀ k, (lRun N e M rho G k).L ≥ rho) : ∀ k, LLen (rho + k) (lRun N e M rho G k)
  | 0 => ⟨Nat.le_refl _, ⟨by simp [lRun], by simp [lRun]⟩, ⟨by simp [lRun], by simp [lRun]⟩, by simp [lRun], fun k hk => gz k (by simp only [lRun] at hk; omega), fun k hk => gz k (by simp only [lRun] at hk; omega), g0⟩
  | k + 1 => by
    obtain ⟨h1, h2, h3, h4, h5, h6, h7⟩ := lRun_len g0 gz hr k
    have hrk := hr k
    simp only [lRun]
    generalize lRun N e M rho G k = s at *
    have fz : ∀ f i, max s.lc (s.lb + s.gap) ≤ i → fixd s.C s.B s.gap f i = 0#8 := fun f i hi => by
      unfold fixd shf
      rw [h5 i (by omega), if_pos (by omega), h6 (i - s.gap) (by omega), mulF_zeroR, BitVec.xor_zero]
    have f0 : ∀ f, fixd s.C s.B s.gap f 0 = 1#8 := fun f => by
      unfold fixd shf
      rw [if_neg (by omega), mulF_zeroR, BitVec.xor_zero, h7]
    unfold lStep
    split
    · exact ⟨by dsimp only; omega, by dsimp only; omega, by dsimp only; omega, by dsimp only; omega, h5, h6, h7⟩
    · split
      · exact ⟨by dsimp only; omega, by dsimp only; omega, by dsimp only; omega, by dsimp only; omega, fz _, h5, f0 _⟩
      · exact ⟨by dsimp only; omega, by dsimp only; omega, by dsimp only; omega, by dsimp only; omega, fz _, h6, f0 _⟩
theorem lRun_ge {N M rho : Nat} {e G : Nat → BitVec 8} : ∀ k, (lRun N e M rho G k).L ≥ rho ∧ (lRun N e M rho G k).L ≤ rho + k
  | 0 => ⟨Nat.le_refl _, Nat.le_refl _⟩
  | k + 1 => by
    have ih := lRun_ge (N := N) (M := M) (rho := rho) (e := e) (G := G) k
    simp only [lRun]
    generalize lRun N e M rho G k = s at *
    unfold lStep
    split
    · dsimp only; omega
    · split
      · dsimp only; omega
      · dsimp only; omega
/-- The search finds the locator. -/
theorem lRun_loc {N M rho : Nat} {e G : Nat → BitVec 8} {er : Nat → Bool} (hN : N ≤ 255) (g0 : G 0 = 1#8) (gd : ∀ k, rho < k → G k = 0#8) (gg : ∀ j, j < N → er j = true → ev G M (eY N j) = 0#8) :
    ∀ k, rho + k + 300 ≤ M → Loc N e er M rho (rho + k) (lRun N e M rho G k).L (lRun N e M rho G k).gap (lRun N e M rho G k).C (lRun N e M rho G k).B (lRun N e M rho G k).last
  | 0, _ => Loc.start g0 gd gg
  | k + 1, hM => by
    have ih := lRun_loc (e := e) hN g0 gd gg k (by omega)
    simp only [lRun]
    generalize lRun N e M rho G k = s at *
    unfold lStep
    by_cases hd : dis N e M s.C (rho + k) = 0#8
    · rw [if_pos hd]; exact ih.same hd
    · rw [if_neg hd]
      have st := ih.step hN (by omega) hd
      by_cases hc : 2 * s.L ≤ rho + k + rho
      · rw [if_pos hc]
        simp only [if_pos hc] at st
        exact st
      · rw [if_neg hc]
        simp only [if_neg hc] at st
        exact st
def fxS (C B : Nat → BitVec 8) (gap : Nat) (f : BitVec 8) (m k : Nat) : BitVec 8 := C k ^^^ (if k < gap + m then mulF f (shf gap B k) else 0#8)
theorem locate_c (N t rho M : Nat) (e G : Nat → BitVec 8) (g0 : G 0 = 1#8) (gz : ∀ k, rho < k → G k = 0#8) (hb : Due (rho ≤ t ∧ t ≤ 64 ∧ 400 ≤ M)) :
    TC R Try.prog reedsolomon_locate_f [.lst Ey (btab t (syn N e)), .lst Ey (btab (rho + 1) G), .int .i64 rho] []
      (fun v X => v = .sla 1 0 0 (lRun N e M rho G (t - rho)).lc ∧ X = [some (.arr Ey (btab (lRun N e M rho G (t - rho)).lc (lRun N e M rho G (t - rho)).C))]) := by
  dsimp only [Due] at hb
  have sl : (btab t (syn N e)).length = t := btab_len
  have gl : (btab (rho + 1) G).length = rho + 1 := btab_len
  have hle : (rho + 1) * 1 ≤ 140737488355328 ∧ rho + 1 ≤ 140737488355328 := by omega
  refine tc env reedsolomon_locate_s (by rfl) ?_
  dsimp only [reedsolomon_locate_c]
  repeat' (first
    | refine GZy_i_y_o (And.intro sl gl) ?_ ?_ ?_ ?_ ?_ ?_ ?_ ?_
    | with_reducible first | exact BzZq.mk | refine Tw.ret ?_ | refine ImZq.i fun h => ?_ | refine IkZq.i fun hk => ?_)
  rw [gl]
  refine Tw.loopK [0, 1, 2] (fun k : Nat => rho + k ≤ t) (fun k => t - (rho + k))
    (fun k => [(12, .int .i64 ((rho + k : Nat) : Int)), (9, .int .i64 (lRun N e M rho G k).L), (10, .int .i64 (lRun N e M rho G k).gap), (11, .int .u8 (by8 (lRun N e M rho G k).last)), (7, .sla 1 0 0 (lRun N e M rho G k).lc), (8, .sla 1 1 0 (lRun N e M rho G k).lb)])
    (fun k => [some (.arr Ey (btab (lRun N e M rho G k).lc (lRun N e M rho G k).C)), some (.arr Ey (btab (lRun N e M rho G k).lb (lRun N e M rho G k).B))])
    ⟨0, by omega, TWk.fcanon env [some 0, some 1] (by rfl) ?_⟩ (fun k hk => ?_)
  · repeat' (first
      | refine GZ_i_y_o ?_ ?_ ?_ ?_ ?_ ?_ ?_ ?_
      | with_reducible first | exact BzZq.mk | refine Tw.ret ?_ | refine ImZq.i fun h => ?_ | refine IkZq.i fun hk => ?_)
    all_goals rfl
  have len := lRun_len (N := N) (M := M) (e := e) g0 gz (fun k => (lRun_ge k).1) k
  have lge := lRun_ge (N := N) (M := M) (rho := rho) (e := e) (G := G) k
  have hnext : lRun N e M rho G (k + 1) = lStep N e M rho (rho + k) (lRun N e M rho G k) := rfl
  rcases Nat.lt_or_ge (rho + k) t with hk | hk
  · generalize lRun N e M rho G k = s at *
    obtain ⟨L, gap, lc, lb, C, B, last⟩ := s
    obtain ⟨q1, q2, q3, q4, q5, q6, q7⟩ := len
    dsimp only at q1 q2 q3 q4 q5 q6 q7 lge ⊢
    generalize hn : rho + k = n at *
    have cl : ∀ f : Nat → BitVec 8, (btab lc f).length = lc := fun _ => btab_len
    have bl : (btab lb B).length = lb := btab_len
    have sn : (btab t (syn N e)).getD n 0 = by8 (syn N e n) := btab_get hk
    have b0 := by8_bd (syn N e n)
    have dsm := dis_sum (N := N) (M := M) (m := lc) (n := n) (e := e) (C := C) (by omega) (by omega) q5
    have d1 : syn N e n = xs (fun i => mulF (C i) (syn N e (n - i))) 1 := by
      simp only [xs]; rw [q7, mulF_oneL, BitVec.zero_xor]; rfl
    repeat' (first
      | refine GZy_i_y_o (And.intro sl sn) ?_ ?_ ?_ ?_ ?_ ?_ ?_ ?_
      | with_reducible first | exact BzZq.mk | refine Tw.ret ?_ | refine ImZq.i fun h => ?_ | refine IkZq.i fun hk => ?_)
    refine Tw.loopK [0, 1, 2, 7, 8, 9, 10, 11, 12] (fun i : Nat => 1 ≤ i ∧ i ≤ lc) (fun i => lc - i) (fun i => [(14, .int .i64 i), (13, .int .u8 (by8 (xs (fun i => mulF (C i) (syn N e (n - i))) i)))])
      (fun i => [some (.arr Ey (btab lc C)), some (.arr Ey (btab lb B))]) ⟨1, by omega, TWk.fcanon env [some 0, some 1] (by rfl) ?_⟩ (fun i hi => ?_)
    · have z := congrArg by8 d1
      repeat' (first
        | exact z.symm
        | exact z
        | refine GZ_i_y_o ?_ ?_ ?_ ?_ ?_ ?_ ?_ ?_
        | with_reducible first | exact BzZq.mk | refine Tw.ret ?_ | refine ImZq.i fun h => ?_ | refine IkZq.i fun hk => ?_)
    rcases Nat.lt_or_ge i lc with hi2 | hi2
    · have gc : (btab lc C).getD i 0 = by8 (C i) := btab_get hi2
      have k0 : ((n : Int) - (i : Int)).toNat = n - i := by omega
      have gs : (btab t (syn N e)).getD (n - i) 0 = by8 (syn N e (n - i)) := btab_get (by omega)
      have mc := mul_c (C i) (syn N e (n - i))
      rw [← gc, ← gs, ← k0] at mc
      have b1 := by8_bd (xs (fun i => mulF (C i) (syn N e (n - i))) i)
      have b2 := by8_bd (mulF (C i) (syn N e (n - i)))
      have hs : by8 (xs (fun i => mulF (C i) (syn N e (n - i))) (i + 1)) = bxor (by8 (xs (fun i => mulF (C i) (syn N e (n - i))) i)) (by8 (mulF (C i) (syn N e (n - i)))) := by rw [by8_xor]; rfl
      repeat' (first
        | ((with_reducible refine TDr.any ?_); refine TDr.callE env (by first | rfl | assumption) (by rfl) (by rfl) ?_ (mc) (by rfl) (by rfl) ?_)
        | refine GZy_i_y_o (And.intro sl (And.intro cl k0)) ?_ ?_ ?_ ?_ ?_ ?_ ?_ ?_
        | with_reducible first | exact BzZq.mk | refine Tw.ret ?_ | refine ImZq.i fun h => ?_ | refine IkZq.i fun hk => ?_)
      refine ⟨i + 1, by omega, by omega, TWk.fcanon env [some 0, some 1] (by rfl) ?_⟩
      repeat' (first
        | exact hs
        | refine GZ_i_y_o ?_ ?_ ?_ ?_ ?_ ?_ ?_ ?_
        | with_reducible first | exact BzZq.mk | refine Tw.ret ?_ | refine ImZq.i fun h => ?_ | refine IkZq.i fun hk => ?_)
    · obtain rfl : lc = i := by omega
      rw [dsm]
      unfold lStep at hnext
      dsimp only at hnext
      have bd := by8_bd (dis N e M C n)
      by_cases hd : dis N e M C n = 0#8
      · rw [if_pos hd] at hnext
        have hz : by8 (dis N e M C n) = 0 := by8_zero.2 hd
        repeat' (first
          | refine GZy_i_y_o cl ?_ ?_ ?_ ?_ ?_ ?_ ?_ ?_
          | with_reducible first | exact BzZq.mk | refine Tw.ret ?_ | refine ImZq.i fun h => ?_ | refine IkZq.i fun hk => ?_)
        refine ⟨k + 1, by omega, by omega, TWk.fcanon env [some 0, some 1] (by rfl) ?_⟩
        rw [hnext]
        have z : ((rho + (k + 1) : Nat) : Int) = (n : Int) + 1 := by omega
        repeat' (first
          | exact z
          | exact z.symm
          | refine GZ_i_y_o ?_ ?_ ?_ ?_ ?_ ?_ ?_ ?_
          | with_reducible first | exact BzZq.mk | refine Tw.ret ?_ | refine ImZq.i fun h => ?_ | refine IkZq.i fun hk => ?_)
      · rw [if_neg hd] at hnext
        have hz : by8 (dis N e M C n) ≠ 0 := fun h => hd (by8_zero.1 h)
        have ic := inv_c last
        have mc := mul_c (dis N e M C n) (iv last)
        have cc : cut (btab lc C) 0 lc = btab lc C := cut_tab
        have ccl : (cut (btab lc C) 0 lc).length = lc := by rw [cc, btab_len]
        have bf : (cut (btab lc C) 0 lc).length * 1 ≤ 140737488355328 ∧ (cut (btab lc C) 0 lc).length ≤ 140737488355328 := by rw [ccl]; omega
        repeat' (first
          | ((with_reducible refine TOps.any ?_); refine TOps.callV env (by rfl) (by rfl) (by rfl) (ic) ?_)
          | ((with_reducible refine TOps.any ?_); refine TOps.callV env (by rfl) (by rfl) (by rfl) (mc) ?_)
          | exact bf
          | refine GZy_i_y_o cl ?_ ?_ ?_ ?_ ?_ ?_ ?_ ?_
          | with_reducible first | exact BzZq.mk | refine Tw.ret ?_ | refine ImZq.i fun h => ?_ | refine IkZq.i fun hk => ?_)
        generalize hf : mulF (dis N e M C n) (iv last) = f at *
        refine Tw.loopK [0, 1, 2, 9, 10, 11, 12, 13, 16] (fun m : Nat => lc ≤ m ∧ m ≤ max lc (lb + gap)) (fun m => max lc (lb + gap) - m) (fun m => [(7, .sla 1 0 0 m), (8, .sla 1 1 0 lb), (15, .sla 1 2 0 lc)])
          (fun m => [some (.arr Ey (btab m C)), some (.arr Ey (btab lb B)), some (.arr Ey (btab lc C))]) ⟨lc, by omega, TWk.fcanon env [some 0, some 1, some 2] (by rfl) ?_⟩ (fun m hm => ?_)
        · repeat' (first
            | exact cc
            | exact cc.symm
            | exact ccl
            | exact ccl.symm
            | refine GZ_i_y_o ?_ ?_ ?_ ?_ ?_ ?_ ?_ ?_
            | with_reducible first | exact BzZq.mk | refine Tw.ret ?_ | refine ImZq.i fun h => ?_ | refine IkZq.i fun hk => ?_)
        have ml : (btab m C).length = m := btab_len
        rcases Nat.lt_or_ge m (lb + gap) with hm2 | hm2
        · have ap : cut (btab m C) 0 m ++ cut [(0 : Int)] 0 1 = btab (m + 1) C := by
            rw [show cut (btab m C) 0 m = btab m C from cut_tab, cut_one]
            show btab m C ++ [(0 : Int)] = tab (m + 1) _
            rw [tab_succ, q5 m (by omega)]; rfl
          repeat' (first
            | refine GZy_i_y_o ml ?_ ?_ ?_ ?_ ?_ ?_ ?_ ?_
            | with_reducible first | exact BzZq.mk | refine Tw.ret ?_ | refine ImZq.i fun h => ?_ | refine IkZq.i fun hk => ?_)
          refine ⟨m + 1, by omega, by omega, TWk.fcanon env [some 4, some 1, some 2] (by rfl) ?_⟩
          repeat' (first
            | exact ap
            | exact ap.symm
            | refine GZ_i_y_o ?_ ?_ ?_ ?_ ?_ ?_ ?_ ?_
            | with_reducible first | exact BzZq.mk | refine Tw.ret ?_ | refine ImZq.i fun h => ?_ | refine IkZq.i fun hk => ?_)
        · obtain ⟨mx, hmx⟩ : ∃ mx, max lc (lb + gap) = mx := ⟨_, rfl⟩
          obtain rfl : mx = m := by omega
          rw [hmx] at hnext
          have fl : ∀ g : Nat → BitVec 8, (btab mx g).length = mx := fun _ => btab_len
          repeat' (first
            | refine GZy_i_y_o (And.intro ml bl) ?_ ?_ ?_ ?_ ?_ ?_ ?_ ?_
            | with_reducible first | exact BzZq.mk | refine Tw.ret ?_ | refine ImZq.i fun h => ?_ | refine IkZq.i fun hk => ?_)
          refine Tw.loopK [0, 1, 2, 7, 8, 9, 10, 11, 12, 13, 15, 16, 79, 80] (fun u : Nat => u ≤ lb) (fun u => lb - u) (fun u => [(81, .int .i64 u)])
            (fun u => [some (.arr Ey (btab mx (fxS C B gap f u))), some (.arr Ey (btab lb B)), some (.arr Ey (btab lc C))]) ⟨0, by omega, TWk.fcanon env [some 0, some 1, some 2] (by rfl) ?_⟩ (fun u hu => ?_)
          · have z : btab mx (fxS C B gap f 0) = btab mx C := btab_congr fun k _ => by
              unfold fxS
              split
              · unfold shf; rw [if_neg (by omega), mulF_zeroR, BitVec.xor_zero]
              · exact BitVec.xor_zero
            repeat' (first
              | exact z
              | exact z.symm
              | refine GZ_i_y_o ?_ ?_ ?_ ?_ ?_ ?_ ?_ ?_
              | with_reducible first | exact BzZq.mk | refine Tw.ret ?_ | refine ImZq.i fun h => ?_ | refine IkZq.i fun hk => ?_)
          rcases Nat.lt_or_ge u lb with hu | hu
          · have gb : (btab lb B).getD u 0 = by8 (B u) := btab_get hu
            have mb := mul_c f (B u)
            rw [← gb] at mb
            have k0 : ((u : Int) + (gap : Int)).toNat = u + gap := by omega
            have g1 : (btab mx (fxS C B gap f u)).getD (u + gap) 0 = by8 (fxS C B gap f u (u + gap)) := btab_get (by omega)
            have b1 := by8_bd (fxS C B gap f u (u + gap))
            have b2 := by8_bd (mulF f (B u))
            have r1 : (btab mx (fxS C B gap f u)).set (((u : Int) + (gap : Int)).toNat + 0) (bxor ((btab mx (fxS C B gap f u)).getD (((u : Int) + (gap : Int)).toNat + 0) 0) (by8 (mulF f (B u)))) = btab mx (fxS C B gap f (u + 1)) := by
              rw [k0]; simp only [Nat.add_zero]; rw [g1, by8_xor]
              refine btab_set ?_ fun k _ hk => ?_
              · congr 1
                unfold fxS
                rw [if_neg (show ¬ u + gap < gap + u by omega), if_pos (show u + gap < gap + (u + 1) by omega), BitVec.xor_zero]
                congr 2
                unfold shf
                rw [if_pos (by omega)]
                congr 1; omega
              · unfold fxS
                by_cases h : k < gap + u
                · rw [if_pos h, if_pos (by omega)]
                · rw [if_neg h, if_neg (by omega)]
            repeat' (first
              | ((with_reducible refine TDr.any ?_); refine TDr.callE env (by first | rfl | assumption) (by rfl) (by rfl) ?_ (mb) (by rfl) (by rfl) ?_)
              | refine GZy_i_y_o (And.intro bl (And.intro fl (And.intro k0 g1))) ?_ ?_ ?_ ?_ ?_ ?_ ?_ ?_
              | with_reducible first | exact BzZq.mk | refine Tw.ret ?_ | refine ImZq.i fun h => ?_ | refine IkZq.i fun hk => ?_)
            refine ⟨u + 1, by omega, by omega, TWk.fcanon env [some 0, some 1, some 2] (by rfl) ?_⟩
            repeat' (first
              | exact r1
              | exact r1.symm
              | refine GZ_i_y_o ?_ ?_ ?_ ?_ ?_ ?_ ?_ ?_
              | with_reducible first | exact BzZq.mk | refine Tw.ret ?_ | refine ImZq.i fun h => ?_ | refine IkZq.i fun hk => ?_)
          · obtain rfl : lb = u := by omega
            have r1 : btab mx (fxS C B gap f lb) = btab mx (fixd C B gap f) := btab_congr fun k hk => by
              unfold fxS fixd
              split
              · rfl
              · unfold shf
                rw [if_pos (by omega), q6 _ (by omega), mulF_zeroR]
            rw [r1]
            have z : ((rho + (k + 1) : Nat) : Int) = (n : Int) + 1 := by omega
            by_cases hc : 2 * L ≤ n + rho
            · rw [if_pos hc] at hnext
              repeat' (first
                | refine GZp_i_y_o ?_ ?_ ?_ ?_ ?_ ?_ ?_ ?_
                | with_reducible first | exact BzZq.mk | refine Tw.ret ?_ | refine ImZq.i fun h => ?_ | refine IkZq.i fun hk => ?_)
              refine ⟨k + 1, by omega, by omega, TWk.fcanon env [some 0, some 2] (by rfl) ?_⟩
              rw [hnext]
              dsimp only
              have z2 : ((n + 1 + rho - L : Nat) : Int) = (n : Int) + 1 + rho - L := by omega
              repeat' (first
                | exact z
                | exact z.symm
                | exact z2
                | exact z2.symm
                | refine GZ_i_y_o ?_ ?_ ?_ ?_ ?_ ?_ ?_ ?_
                | with_reducible first | exact BzZq.mk | refine Tw.ret ?_ | refine ImZq.i fun h => ?_ | refine IkZq.i fun hk => ?_)
            · rw [if_neg hc] at hnext
              repeat' (first
                | refine GZp_i_y_o ?_ ?_ ?_ ?_ ?_ ?_ ?_ ?_
                | with_reducible first | exact BzZq.mk | refine Tw.ret ?_ | refine ImZq.i fun h => ?_ | refine IkZq.i fun hk => ?_)
              refine ⟨k + 1, by omega, by omega, TWk.fcanon env [some 0, some 1] (by rfl) ?_⟩
              rw [hnext]
              dsimp only
              repeat' (first
                | exact z
                | exact z.symm
                | refine GZ_i_y_o ?_ ?_ ?_ ?_ ?_ ?_ ?_ ?_
                | with_reducible first | exact BzZq.mk | refine Tw.ret ?_ | refine ImZq.i fun h => ?_ | refine IkZq.i fun hk => ?_)
  · obtain rfl : k = t - rho := by omega
    repeat' (first
      | ((with_reducible refine Tw.retI ?_); refine Tw.gc env [0] [6] (by rfl) (by rfl) ?_ (Tw.ret ?_))
      | refine GZp_i_y_o ?_ ?_ ?_ ?_ ?_ ?_ ?_ ?_
      | with_reducible first | exact BzZq.mk | refine Tw.ret ?_ | refine ImZq.i fun h => ?_ | refine IkZq.i fun hk => ?_)
    all_goals exact ⟨rfl, rfl⟩
end Go.Proofs.Ythkilkjngincpaa
