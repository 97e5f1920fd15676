/- The law InverseBest. -/
import Derived.Test.YtkapjajlkpepmaaInv12
import Derived.Test.YtkapjajlkpepmaaInvW
import Derived.Test.YtkapjajlkpepmaaRMod
import Derived.Test.YtkapjajlkpepmaaXInverseBest0
import Derived.Test.YtkapjajlkpepmaaGo
namespace Go.Proofs.Ytkapjajlkpepmaa
open Go Go.Lite
set_option linter.unusedVariables false
set_option linter.unusedSimpArgs false
set_option maxRecDepth 100000
set_option maxHeartbeats 4000000
-- @simp rdi rd2i rdL2iJ

theorem le_of {a b : Int} {p : Prop} (h : a < b ∨ (a = b ∧ p)) : a ≤ b := by rcases h with h | ⟨h, _⟩ <;> omega
theorem InverseBest_main (p : Prf) (q : Ask) (ot : List Int) (w : PrfW p) (hl : q.lo.length ≤ 9223372036854775807) (hh : q.hi.length ≤ 9223372036854775807) (wo : ot.length ≤ 9223372036854775807 ∧ ∀ y ∈ ot, Wi y) :
    TC R Try.prog K2_InverseBest_f [.agg (encP p), .agg (encA q), .lst Ei ot] [] (fun v X => v = .bool true ∧ X = []) := by
  refine tc0 env K2_InverseBest_s (by rfl) ?_
  dsimp only [K2_InverseBest_c, encP, encA]
  by_cases h0 : findE p q = 0
  · have hp : prfE p = 0 := by unfold findE at h0; split at h0; (rename_i h; exact absurd h0 h); rename_i h; simpa using h
    obtain ⟨n, s, ok⟩ := prfE_ok hp
    have il := ok.il
    have a0 : askE n q = 0 := by unfold findE at h0; rw [if_neg (by simpa using hp), il] at h0; exact h0
    have a := askE_ok a0
    have bf := boxF_ok ok a
    have hx := boxOf_ok ok a
    have gi := ok.g.i1
    rcases find_y p q w n s hp ok a0 hl hh with ⟨_, fy⟩ | ⟨ys, best, fy⟩
    · repeat' (first
        | ((with_reducible refine TOps.any ?_); refine TOps.callV env (by rfl) (by rfl) (by rfl) (invWorks_c) ?_)
        | ((with_reducible refine TOps.any ?_); refine TOps.callV env (by rfl) (by rfl) (by rfl) (fy) ?_)
        | refine GZp_i_2i_L2iJ ?_ ?_ ?_ ?_ ?_ ?_ ?_ ?_
        | with_reducible first | exact BzZq.mk | refine Tw.ret ?_ | refine ImZq.i fun h => ?_ | refine IkZq.i fun hk => ?_)
      exact ⟨rfl, congrArg TV.bool (by simp), rfl⟩
    · have y5 := cand_255 hx (fun k _ => Nat.le_refl _) best.1
      have f1 := forward_y p n s ys w hp ok y5
      have sq := square_c (pcol p n s ys 0) (pcol p n s ys 1) (pcol p n s ys 2) q.tl q.ta q.tb
      rw [if_pos ⟨pcol_ok ok y5, a.lab⟩, if_pos ⟨pcol_ok ok y5, a.lab⟩] at sq
      have ed : far (pcol p n s ys 0) (pcol p n s ys 1) (pcol p n s ys 2) q.tl q.ta q.tb = sdst (boxOf p q n s) ys := rfl
      rw [ed] at sq
      have yl : (nz ys).length = n := by rw [nz_len]; exact best.1.1
      have ll := bf.ll
      have lh := bf.lh
      by_cases ho : ot.length < n
      · generalize sdst (boxOf p q n s) ys = d at *
        repeat' (first
          | ((with_reducible refine TOps.any ?_); refine TOps.callV env (by rfl) (by rfl) (by rfl) (invWorks_c) ?_)
          | ((with_reducible refine TOps.any ?_); refine TOps.callV env (by rfl) (by rfl) (by rfl) (fy) ?_)
          | ((with_reducible refine TOps.any ?_); refine TOps.callV env (by rfl) (by rfl) (by rfl) (f1) ?_)
          | ((with_reducible refine TOps.any ?_); refine TOps.callV env (by rfl) (by rfl) (by rfl) (sq) ?_)
          | refine GZy_i_2i_L2iJ (And.intro yl (And.intro il (And.intro ll lh))) ?_ ?_ ?_ ?_ ?_ ?_ ?_ ?_
          | with_reducible first | exact BzZq.mk | refine Tw.ret ?_ | refine ImZq.i fun h => ?_ | refine IkZq.i fun hk => ?_)
        all_goals exact ⟨rfl, congrArg TV.bool (by simp [yl, il]), rfl⟩
      obtain ⟨st, est⟩ : ∃ st : Nat, q.st = st := ⟨q.st.toNat, by have := a.st; unfold stepOk at this; omega⟩
      have stb := bf.st
      have xst : (boxOf p q n s).st = st := by show q.st.toNat = st; omega
      have xn : (boxOf p q n s).n = n := rfl
      have xq : (boxOf p q n s).q = q := rfl
      obtain ⟨F, hF⟩ : ∃ F, F = (boxOf p q n s).F := ⟨_, rfl⟩
      obtain ⟨T, hT⟩ : ∃ T, T = (boxOf p q n s).T := ⟨_, rfl⟩
      rw [← hF, ← hT] at bf
      obtain ⟨bc, ball⟩ := best
      rw [← hF, ← hT] at bc ball
      have js : ∀ k, k < n → ∃ j, F k ≤ j ∧ j ≤ T k ∧ ys.getD k 0 = j * st := fun k hk => by rw [← xst]; exact bc.2.1 k hk
      have hsum : (tsum n ys : Int) ≤ q.tot := bc.2.2
      -- the other candidate
      obtain ⟨Z, hZ⟩ : ∃ Z : Nat → Nat, Z = fun k => (F k + (ot.getD k 0 % ((T k : Int) - (F k : Int) + 1)).toNat) * st := ⟨_, rfl⟩
      obtain ⟨zs, hzs⟩ : ∃ zs, zs = tab n Z := ⟨_, rfl⟩
      have zl : zs.length = n := by rw [hzs]; exact tab_len
      have zg : ∀ k, k < n → zs.getD k 0 = Z k := fun k hk => by rw [hzs, tab_get hk]
      have md : ∀ k, k < n → 0 ≤ ot.getD k 0 % ((T k : Int) - (F k : Int) + 1) ∧ ot.getD k 0 % ((T k : Int) - (F k : Int) + 1) ≤ (T k : Int) - (F k : Int) := fun k hk => by
        obtain ⟨j, j1, j2, _⟩ := js k hk
        have h1 := Int.emod_nonneg (ot.getD k 0) (show (T k : Int) - (F k : Int) + 1 ≠ 0 by omega)
        have h2 := Int.emod_lt_of_pos (ot.getD k 0) (show 0 < (T k : Int) - (F k : Int) + 1 by omega)
        omega
      have zj : ∀ k, k < n → ∃ j, F k ≤ j ∧ j ≤ T k ∧ zs.getD k 0 = j * st := fun k hk => by
        have := md k hk
        obtain ⟨j, j1, j2, _⟩ := js k hk
        exact ⟨F k + (ot.getD k 0 % ((T k : Int) - (F k : Int) + 1)).toNat, by omega, by omega, by rw [zg k hk, hZ]⟩
      have z5 : zs.length = n ∧ ∀ k, k < n → zs.getD k 0 ≤ 255 := ⟨zl, fun k hk => by
        obtain ⟨j, j1, j2, j3⟩ := zj k hk
        have h1 := hx.top k hk
        rw [xst, ← hT] at h1
        have : j * st ≤ T k * st := Nat.mul_le_mul_right _ j2
        omega⟩
      have zc : (tsum n zs : Int) ≤ q.tot → sdst (boxOf p q n s) ys ≤ sdst (boxOf p q n s) zs := fun hz => le_of (ball zs ⟨zl, fun k hk => by
        obtain ⟨j, j1, j2, j3⟩ := zj k hk
        exact ⟨j, j1, j2, by rw [xst]; exact j3⟩, hz⟩)
      have f2 := forward_y p n s zs w hp ok z5
      have sq2 := square_c (pcol p n s zs 0) (pcol p n s zs 1) (pcol p n s zs 2) q.tl q.ta q.tb
      rw [if_pos ⟨pcol_ok ok z5, a.lab⟩, if_pos ⟨pcol_ok ok z5, a.lab⟩] at sq2
      have ed2 : far (pcol p n s zs 0) (pcol p n s zs 1) (pcol p n s zs 2) q.tl q.ta q.tb = sdst (boxOf p q n s) zs := rfl
      rw [ed2] at sq2
      have eZ : tab n (fun k => ((Z k : Nat) : Int)) = nz zs := by rw [hzs]; simp [nz, tab, List.map_map, Function.comp]
      have y6 : ∀ k, k < n → ys.getD k 0 ≤ 255 := fun k hk => y5.2 k hk
      clear ball
      generalize sdst (boxOf p q n s) ys = d at *
      generalize sdst (boxOf p q n s) zs = e at *
      repeat' (first
        | ((with_reducible refine TOps.any ?_); refine TOps.callV env (by rfl) (by rfl) (by rfl) (invWorks_c) ?_)
        | ((with_reducible refine TOps.any ?_); refine TOps.callV env (by rfl) (by rfl) (by rfl) (fy) ?_)
        | ((with_reducible refine TOps.any ?_); refine TOps.callV env (by rfl) (by rfl) (by rfl) (f1) ?_)
        | ((with_reducible refine TOps.any ?_); refine TOps.callV env (by rfl) (by rfl) (by rfl) (sq) ?_)
        | refine GZy_i_2i_L2iJ (And.intro yl (And.intro il (And.intro ll lh))) ?_ ?_ ?_ ?_ ?_ ?_ ?_ ?_
        | with_reducible first | exact BzZq.mk | refine Tw.ret ?_ | refine ImZq.i fun h => ?_ | refine IkZq.i fun hk => ?_)
      rw [yl, Int.toNat_natCast]
      rw [← show cut (nz zs) 0 n = nz zs from cut_all (by rw [nz_len, zl])] at f2
      have lz : (nz zs).length = n := by rw [nz_len, zl]
      have lz2 : 0 + n ≤ (nz zs).length := by omega
      have sy : ∀ i, i ≤ n → szN (fun k => ys.getD k 0) i ≤ 255 * i := fun i => by
        induction i with
        | zero => intro _; exact Nat.le_refl _
        | succ i ihi => intro hi; have := ihi (by omega); have := y6 i (by omega); simp only [szN]; omega
      have sz : ∀ i, i ≤ n → szN (fun k => zs.getD k 0) i ≤ 255 * i := fun i => by
        induction i with
        | zero => intro _; exact Nat.le_refl _
        | succ i ihi => intro hi; have := ihi (by omega); have := z5.2 i (by omega); simp only [szN]; omega
      refine Tw.loopK [2, 3, 4, 7, 8, 10, 14, 115, 116] (fun i : Nat => i ≤ n) (fun i => n - i) (fun i => [(117, .int .i64 i), (15, .int .i64 (szN (fun k => ys.getD k 0) i : Nat)), (16, .int .i64 (szN (fun k => zs.getD k 0) i : Nat))])
        (fun i => [some (.cells (encP p)), some (.cells (encA q)), some (.cells [.int .i64 (pcol p n s ys 0), .int .i64 (pcol p n s ys 1), .int .i64 (pcol p n s ys 2)]), some (.arr Ei (ptab n i fun k => ((Z k : Nat) : Int)))]) ⟨0, by omega, TWk.fcanon env [some 0, some 1, some 2, some 3] (by rfl) ?_⟩ (fun i hi => ?_)
      · repeat' (first
          | exact ptab_zero
          | with_reducible first | exact Conj.nil | refine Conj.cons rfl ?_ | refine Conj.same ?_ | refine Conj.ask ?_ ?_
          | ((with_reducible refine Due.mk ?_); (first | with_reducible rfl | omega | assumption | decide | ((try simp only [goS] at *) <;> (try intro h) <;> (try intro h') <;> (try simp only [goS] at *) <;> (try simp only [rdi, rd2i, rdL2iJ, Int.toNat_natCast, Nat.add_zero] at *) <;> (try simp only [rng]) <;> (first | assumption | omega)) | (exact due_app0 (by omega)) | (exact due_app (by omega)) | (intros; simp; done) | (intros; simp; omega)))
          | with_reducible refine Due.mk ?_
          | omega)
      have pl : (ptab n i fun k => ((Z k : Nat) : Int)).length = n := ptab_len
      rcases Nat.lt_or_ge i n with hi2 | hi2
      · obtain ⟨j, j1, j2, j3⟩ := js i hi2
        have b1 := bf.lb i hi2
        have b2 := bf.hb i hi2
        have b3 := bf.f i hi2
        have b4 := bf.t i hi2
        have b5 := y6 i hi2
        have b6 := z5.2 i hi2
        have b7 := md i hi2
        have s1 := sy i (by omega)
        have s2 := sz i (by omega)
        have yg : (nz ys).getD i 0 = ((ys.getD i 0 : Nat) : Int) := nz_get
        have v1 : (nz ys).getD i 0 = (j : Int) * q.st := by rw [yg, j3, est, Int.natCast_mul]
        have m0 : rem ((nz ys).getD i 0) q.st = 0 := by rw [v1, rem_nn (Int.mul_nonneg (by omega) (by omega))]; exact Int.mul_emod_left _ _
        have c1 : ¬ (nz ys).getD i 0 < q.lo.getD i 0 := by
          have h1 := b3.1
          rw [quo_nn (by omega)] at h1
          have h2 := Int.mul_ediv_add_emod (q.lo.getD i 0 + q.st - 1) q.st
          have h3 := Int.emod_lt_of_pos (q.lo.getD i 0 + q.st - 1) (show 0 < q.st by omega)
          rw [h1] at h2
          have h4 : q.st * (F i : Int) ≤ (j : Int) * q.st := by rw [Int.mul_comm q.st]; exact Int.mul_le_mul_of_nonneg_right (by omega) (by omega)
          rw [v1]
          omega
        have c2 : ¬ q.hi.getD i 0 < (nz ys).getD i 0 := by
          have h1 := b4.1
          rw [quo_nn (by omega)] at h1
          have h2 := Int.mul_ediv_add_emod (q.hi.getD i 0) q.st
          have h3 := Int.emod_nonneg (q.hi.getD i 0) (show q.st ≠ 0 by omega)
          rw [h1] at h2
          have h4 : (j : Int) * q.st ≤ q.st * (T i : Int) := by rw [Int.mul_comm q.st]; exact Int.mul_le_mul_of_nonneg_right (by omega) (by omega)
          rw [v1]
          omega
        have q1 : rng .i64 (quo (q.lo.getD i 0 + q.st - 1) q.st) := by rw [b3.1]; simp only [rng]; omega
        have q2 : rng .i64 (quo (q.hi.getD i 0) q.st) := by rw [b4.1]; simp only [rng]; omega
        have q3 : -9223372036854775808 ≤ quo (q.hi.getD i 0) q.st - quo (q.lo.getD i 0 + q.st - 1) q.st ∧ quo (q.hi.getD i 0) q.st - quo (q.lo.getD i 0 + q.st - 1) q.st ≤ 9223372036854775807 := by rw [b3.1, b4.1]; omega
        have q4 : -9223372036854775808 ≤ quo (q.hi.getD i 0) q.st - quo (q.lo.getD i 0 + q.st - 1) q.st + 1 ∧ quo (q.hi.getD i 0) q.st - quo (q.lo.getD i 0 + q.st - 1) q.st + 1 ≤ 9223372036854775807 := by rw [b3.1, b4.1]; omega
        have wi : rng .i64 (ot.getD i 0) := wo.2 _ (getD_mem (d := 0) (by omega))
        simp only [rng] at wi
        have m1 := rMod_c (ot.getD i 0) (quo (q.hi.getD i 0) q.st - quo (q.lo.getD i 0 + q.st - 1) q.st + 1) (by rw [b3.1, b4.1]; unfold Due; omega)
        have zi : (F i : Int) + ot.getD i 0 % ((T i : Int) - (F i : Int) + 1) = ((F i + (ot.getD i 0 % ((T i : Int) - (F i : Int) + 1)).toNat : Nat) : Int) := by omega
        have zv : ((Z i : Nat) : Int) = (quo (q.lo.getD i 0 + q.st - 1) q.st + ot.getD i 0 % (quo (q.hi.getD i 0) q.st - quo (q.lo.getD i 0 + q.st - 1) q.st + 1)) * q.st := by
          rw [b3.1, b4.1, zi, est, hZ]
          exact Int.natCast_mul _ _
        have q5 : -9223372036854775808 ≤ quo (q.lo.getD i 0 + q.st - 1) q.st + ot.getD i 0 % (quo (q.hi.getD i 0) q.st - quo (q.lo.getD i 0 + q.st - 1) q.st + 1) ∧ quo (q.lo.getD i 0 + q.st - 1) q.st + ot.getD i 0 % (quo (q.hi.getD i 0) q.st - quo (q.lo.getD i 0 + q.st - 1) q.st + 1) ≤ 9223372036854775807 := by rw [b3.1, b4.1]; omega
        have zi2 := zg i hi2
        have q6 : -9223372036854775808 ≤ (quo (q.lo.getD i 0 + q.st - 1) q.st + ot.getD i 0 % (quo (q.hi.getD i 0) q.st - quo (q.lo.getD i 0 + q.st - 1) q.st + 1)) * q.st ∧ (quo (q.lo.getD i 0 + q.st - 1) q.st + ot.getD i 0 % (quo (q.hi.getD i 0) q.st - quo (q.lo.getD i 0 + q.st - 1) q.st + 1)) * q.st ≤ 9223372036854775807 := by rw [← zv]; omega
        have ps : (ptab n i fun k => ((Z k : Nat) : Int)).set i ((quo (q.lo.getD i 0 + q.st - 1) q.st + ot.getD i 0 % (quo (q.hi.getD i 0) q.st - quo (q.lo.getD i 0 + q.st - 1) q.st + 1)) * q.st) = ptab n (i + 1) fun k => ((Z k : Nat) : Int) := by rw [← zv]; exact ptab_set (f := fun k => ((Z k : Nat) : Int))
        have pg : (ptab n (i + 1) fun k => ((Z k : Nat) : Int)).getD i 0 = ((Z i : Nat) : Int) := ptab_get (Nat.lt_succ_self i) hi2
        have e1 : ((szN (fun k => ys.getD k 0) (i + 1) : Nat) : Int) = ((szN (fun k => ys.getD k 0) i : Nat) : Int) + (nz ys).getD i 0 := by rw [yg]; simp only [szN]; omega
        have e2 : ((szN (fun k => zs.getD k 0) (i + 1) : Nat) : Int) = ((szN (fun k => zs.getD k 0) i : Nat) : Int) + ((Z i : Nat) : Int) := by simp only [szN]; omega
        have e3 : ((szN (fun k => zs.getD k 0) (i + 1) : Nat) : Int) = ((szN (fun k => zs.getD k 0) i : Nat) : Int) + ((ptab n i fun k => ((Z k : Nat) : Int)).set i ((quo (q.lo.getD i 0 + q.st - 1) q.st + ot.getD i 0 % (quo (q.hi.getD i 0) q.st - quo (q.lo.getD i 0 + q.st - 1) q.st + 1)) * q.st)).getD i 0 := by rw [ps, pg]; exact e2
        have q7 : -9223372036854775808 ≤ ((szN (fun k => zs.getD k 0) i : Nat) : Int) + ((ptab n i fun k => ((Z k : Nat) : Int)).set i ((quo (q.lo.getD i 0 + q.st - 1) q.st + ot.getD i 0 % (quo (q.hi.getD i 0) q.st - quo (q.lo.getD i 0 + q.st - 1) q.st + 1)) * q.st)).getD i 0 ∧ ((szN (fun k => zs.getD k 0) i : Nat) : Int) + ((ptab n i fun k => ((Z k : Nat) : Int)).set i ((quo (q.lo.getD i 0 + q.st - 1) q.st + ot.getD i 0 % (quo (q.hi.getD i 0) q.st - quo (q.lo.getD i 0 + q.st - 1) q.st + 1)) * q.st)).getD i 0 ≤ 9223372036854775807 := by rw [ps, pg]; omega
        repeat' (first
          | ((with_reducible refine TDr.any ?_); refine TDr.callE env (by first | rfl | assumption) (by rfl) (by rfl) ?_ (m1) (by rfl) (by rfl) ?_)
          | exact q1
          | exact q2
          | exact q3
          | exact q4
          | exact q5
          | exact q6
          | exact q7
          | refine GZy_i_2i_L2iJ (And.intro yl (And.intro ll (And.intro lh (And.intro pl m0)))) ?_ ?_ ?_ ?_ ?_ ?_ ?_ ?_
          | with_reducible first | exact BzZq.mk | refine Tw.ret ?_ | refine ImZq.i fun h => ?_ | refine IkZq.i fun hk => ?_)
        refine ⟨i + 1, by omega, by omega, TWk.fcanon env [some 0, some 1, some 2, some 3] (by rfl) ?_⟩
        repeat' (first
          | exact e1
          | exact e3
          | exact ps.symm
          | with_reducible first | exact Conj.nil | refine Conj.cons rfl ?_ | refine Conj.same ?_ | refine Conj.ask ?_ ?_
          | ((with_reducible refine Due.mk ?_); (first | with_reducible rfl | omega | assumption | decide | ((try simp only [goS] at *) <;> (try intro h) <;> (try intro h') <;> (try simp only [goS] at *) <;> (try simp only [rdi, rd2i, rdL2iJ, Int.toNat_natCast, Nat.add_zero] at *) <;> (try simp only [rng]) <;> (first | assumption | omega)) | (exact due_app0 (by omega)) | (exact due_app (by omega)) | (intros; simp; done) | (intros; simp; omega)))
          | with_reducible refine Due.mk ?_
          | omega)
      obtain rfl : i = n := by omega
      rw [ptab_all, eZ]
      have fin : (decide (q.tot < ((szN (fun k => zs.getD k 0) i : Nat) : Int)) || decide (d ≤ e)) = true := by
        by_cases hz : q.tot < ((szN (fun k => zs.getD k 0) i : Nat) : Int)
        · rw [decide_eq_true hz]; rfl
        · have := zc (show (tsum i zs : Int) ≤ q.tot from Int.not_lt.1 hz)
          rw [decide_eq_true this, Bool.or_true]
      have hsum2 : ((szN (fun k => ys.getD k 0) i : Nat) : Int) ≤ q.tot := hsum
      repeat' (first
        | ((with_reducible refine TOps.any ?_); refine TOps.callE env (by rfl) (by rfl) (by rfl) ?_ (f2) (by rfl) ?_)
        | ((with_reducible refine TOps.any ?_); refine TOps.callV env (by rfl) (by rfl) (by rfl) (sq2) ?_)
        | refine GZp_i_2i_L2iJ ?_ ?_ ?_ ?_ ?_ ?_ ?_ ?_
        | with_reducible first | exact BzZq.mk | refine Tw.ret ?_ | refine ImZq.i fun h => ?_ | refine IkZq.i fun hk => ?_)
      all_goals first | exact ⟨rfl, congrArg TV.bool (by rw [fin]; rfl), rfl⟩ | (intro _ hq; rw [hq]; rfl)
  · have fn := find_n p q w hl hh h0
    repeat' (first
      | ((with_reducible refine TOps.any ?_); refine TOps.callV env (by rfl) (by rfl) (by rfl) (invWorks_c) ?_)
      | ((with_reducible refine TOps.any ?_); refine TOps.callV env (by rfl) (by rfl) (by rfl) (fn) ?_)
      | refine GZp_i_2i_L2iJ ?_ ?_ ?_ ?_ ?_ ?_ ?_ ?_
      | with_reducible first | exact BzZq.mk | refine Tw.ret ?_ | refine ImZq.i fun h => ?_ | refine IkZq.i fun hk => ?_)
    exact ⟨rfl, congrArg TV.bool (by simp), rfl⟩
theorem InverseBest_law (n1 : ByteArray) (i1 : List ByteArray) (c1 : List (List (Int × Int))) (a1 b1 s1 : Int) (v1 : List Int) (tl ta tb st tot : Int) (lo hi ot : List Int)
    (w1 : n1.size ≤ 9223372036854775807) (w2 : i1.length ≤ 9223372036854775807 ∧ ∀ y ∈ i1, Ws y) (w3 : c1.length ≤ 9223372036854775807 ∧ ∀ y ∈ c1, WL2iJ y) (_ : rng .i64 a1) (_ : rng .i64 b1) (_ : rng .i64 s1) (w4 : v1.length ≤ 9223372036854775807 ∧ ∀ y ∈ v1, Wi y)
    (_ : rng .i64 tl) (_ : rng .i64 ta) (_ : rng .i64 tb) (_ : rng .i64 st) (_ : rng .i64 tot) (w5 : lo.length ≤ 9223372036854775807 ∧ ∀ y ∈ lo, Wi y) (w6 : hi.length ≤ 9223372036854775807 ∧ ∀ y ∈ hi, Wi y) (w7 : ot.length ≤ 9223372036854775807 ∧ ∀ y ∈ ot, Wi y) :
    TC R Try.prog K2_InverseBest_f [.agg [.str n1, .lst Es i1, .lst EL2iJ c1, .int .i64 a1, .int .i64 b1, .int .i64 s1, .lst Ei v1], .agg [.int .i64 tl, .int .i64 ta, .int .i64 tb, .int .i64 st, .int .i64 tot, .lst Ei lo, .lst Ei hi], .lst Ei ot] [] (fun v X => v = .bool true ∧ X = []) :=
  InverseBest_main ⟨n1, i1, c1, a1, b1, s1, v1⟩ ⟨tl, ta, tb, st, tot, lo, hi⟩ ot ⟨w1, w2.1, w2.2, w3.1, w4.1⟩ w5.1 w6.1 w7
end Go.Proofs.Ytkapjajlkpepmaa
