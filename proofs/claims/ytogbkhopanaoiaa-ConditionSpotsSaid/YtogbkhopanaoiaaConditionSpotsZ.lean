/- The law ConditionSpots. -/
import Derived.Test.YtogbkhopanaoiaaCnd8
import Derived.Test.YtogbkhopanaoiaaCndV
import Derived.Test.YtogbkhopanaoiaaRMod
import Derived.Test.YtogbkhopanaoiaaXConditionSpots1
import Derived.Test.YtogbkhopanaoiaaGo
namespace Go.Proofs.Ytogbkhopanaoiaa
open Go Go.Lite
set_option linter.unusedVariables false
set_option linter.unusedSimpArgs false
set_option maxRecDepth 100000
set_option maxHeartbeats 4000000
-- @simp rdi rd2i rdy

theorem spProcess_y (s : Sp) (x : Int) (h : spEs s = 0) (hx : 0 ≤ x ∧ x ≤ 255) (w : Ws6iL2iJLiJ s) :
    TC R Try.prog spot_Process_f [.agg (enc3 s), .int .i64 x] [] (fun v X => v = .tup [.lst Ei (quickS s x), .int .i64 0] ∧ X = []) := by
  have o1 := oneS_c s w
  rw [h] at o1
  have qc := spQuick_r s x h hx
  obtain ⟨q, hq⟩ : ∃ q, q = quickS s x := ⟨_, rfl⟩
  rw [← hq] at qc ⊢
  refine tc0 env spot_Process_s (by rfl) ?_
  dsimp only [spot_Process_c]
  repeat' (first
    | ((with_reducible refine TOps.any ?_); refine TOps.callE env (by rfl) (by rfl) (by rfl) ?_ (o1) (by rfl) ?_)
    | ((with_reducible refine TOps.any ?_); refine TOps.callE env (by rfl) (by rfl) (by rfl) ?_ (qc) (by rfl) ?_)
    | ((with_reducible refine Tw.retI ?_); refine Tw.frz env 1 (by rfl) (by rfl) (by rfl) ?_ ?_ (Tw.ret ?_))
    | refine GZp_i_2i_y ?_ ?_ ?_ ?_ ?_ ?_ ?_ ?_
    | with_reducible first | exact BzZq.mk | refine Tw.ret ?_ | refine ImZq.i fun h => ?_ | refine IkZq.i fun hk => ?_)
  rw [cut_full]
  exact ⟨rfl, rfl, rfl⟩
theorem ConditionSpots_law (i0 : List ByteArray) (i1 i2 : List Int) (a b cc : Int) (gv : List Int) (ra rb rc : Int) (rv : List Int) (sp : List Sp) (tot k0 v : Int)
    (w0 : i0.length ≤ 9223372036854775807 ∧ ∀ y ∈ i0, Ws y) (w1 : i1.length ≤ 9223372036854775807 ∧ ∀ y ∈ i1, Wi y) (w2 : i2.length ≤ 9223372036854775807 ∧ ∀ y ∈ i2, Wi y) (_ : rng .i64 a) (_ : rng .i64 b) (_ : rng .i64 cc) (w3 : gv.length ≤ 9223372036854775807 ∧ ∀ y ∈ gv, Wi y)
    (_ : rng .i64 ra) (_ : rng .i64 rb) (_ : rng .i64 rc) (w4 : rv.length ≤ 9223372036854775807 ∧ ∀ y ∈ rv, Wi y) (w5 : sp.length ≤ 9223372036854775807 ∧ ∀ y ∈ sp, Ws6iL2iJLiJ y) (_ : rng .i64 tot) (wk : rng .i64 k0) (wv : rng .u8 v) :
    TC R Try.prog K2_ConditionSpots_f [.agg [.lst Es i0, .lst Ei i1, .lst Ei i2, .int .i64 a, .int .i64 b, .int .i64 cc, .lst Ei gv, .int .i64 ra, .int .i64 rb, .int .i64 rc, .lst Ei rv, .lst Es6iL2iJLiJ sp, .int .i64 tot], .int .i64 k0, .int .u8 v] [] (fun v X => v = .bool true ∧ X = []) := by
  obtain ⟨c, hc⟩ : ∃ c : Cnd, c = ⟨i0, i1, i2, a, b, cc, gv, ra, rb, rc, rv, sp, tot⟩ := ⟨_, rfl⟩
  have w : CndW c := by subst hc; exact ⟨w0.1, w0.2, w1.1, w2.1, w3.1, w4.1, w5.1, w5.2⟩
  have main : TC R Try.prog K2_ConditionSpots_f [.agg (encC c), .int .i64 k0, .int .u8 v] [] (fun v X => v = .bool true ∧ X = []) := by
    clear hc
    simp only [rng] at wk
    have wv' : 0 ≤ v ∧ v ≤ 255 := wv
    obtain ⟨x, rfl⟩ : ∃ x : Nat, v = x := ⟨v.toNat, by omega⟩
    have k := condCheck_c c w
    refine tc0 env K2_ConditionSpots_s (by rfl) ?_
    dsimp only [K2_ConditionSpots_c, encC]
    by_cases h0 : cndE c = 0
    · have ok := cndE_ok h0
      have hn := ok.n
      have wl := w.sp
      rw [h0] at k
      by_cases hz : c.sp.length = 0
      · repeat' (first
          | ((with_reducible refine TOps.any ?_); refine TOps.callV env (by rfl) (by rfl) (by rfl) (condWorks_c) ?_)
          | ((with_reducible refine TOps.any ?_); refine TOps.callV env (by rfl) (by rfl) (by rfl) (k) ?_)
          | refine GZp_i_2i_y ?_ ?_ ?_ ?_ ?_ ?_ ?_ ?_
          | with_reducible first | exact BzZq.mk | refine Tw.ret ?_ | refine ImZq.i fun h => ?_ | refine IkZq.i fun hk => ?_)
        exact ⟨rfl, rfl, rfl⟩
      have m1 := rMod_c k0 c.sp.length (by unfold Due; omega)
      obtain ⟨n, hn2⟩ : ∃ n : Nat, k0 % (c.sp.length : Int) = n := ⟨(k0 % (c.sp.length : Int)).toNat, by
        have := Int.emod_nonneg k0 (show (c.sp.length : Int) ≠ 0 by omega)
        omega⟩
      have hn3 : n < c.sp.length := by
        have := Int.emod_lt_of_pos k0 (show (0 : Int) < (c.sp.length : Int) by omega)
        omega
      rw [hn2] at m1
      have s4 := ok.sp4 n hn3
      have s0 := (ok.sp.2 n hn3).1
      obtain ⟨s, hs⟩ : ∃ s, s = c.sp.getD n dS := ⟨_, rfl⟩
      have ws : Ws6iL2iJLiJ s := by rw [hs]; exact w.sp' _ (getD_mem hn3)
      rw [← hs] at s4 s0
      have e1 : c.sp.getD n (R.d Es6iL2iJLiJ) = s := hs.symm
      obtain ⟨nm, hnm⟩ : ∃ nm, nm = s.1 := ⟨_, rfl⟩
      have e2 : c.sp.getD ((n : Nat) : Int).toNat (R.d Es6iL2iJLiJ) = s := e1
      have sd := (ok.sp.2 n hn3).2
      rw [← hs, ← hnm] at sd
      obtain ⟨q, hq⟩ : ∃ q, q = quickS s x := ⟨_, rfl⟩
      have lq : q.length = 4 := by rw [hq]; unfold quickS; rw [List.length_map]; exact s4.1
      have qb : ∀ o, 0 ≤ q.getD o 0 ∧ q.getD o 0 ≤ 255 := fun o => by rw [hq]; exact quick_255 s0 (by omega) o
      have pp := spProcess_y s x s0 (by omega) ws
      rw [← hq] at pp
      have yk : ∀ o, ∃ y : Nat, q.getD o 0 = y ∧ y ≤ 255 := fun o => ⟨(q.getD o 0).toNat, by have := qb o; omega, by have := qb o; omega⟩
      obtain ⟨y0, f0, g0⟩ := yk 0
      obtain ⟨y1, f1, g1⟩ := yk 1
      obtain ⟨y2, f2, g2⟩ := yk 2
      obtain ⟨y3, f3, g3⟩ := yk 3
      have eq : [(y0 : Int), y1, y2, y3] = q := ext_getD 0 (by rw [lq]; rfl) fun i hi => by
        match i, hi with
        | 0, _ => exact f0.symm
        | 1, _ => exact f1.symm
        | 2, _ => exact f2.symm
        | 3, _ => exact f3.symm
      have pe0 := process_y c y0 y1 y2 y3 w ok h0 s4.2 ⟨g0, g1, g2, g3⟩
      rw [eq] at pe0
      obtain ⟨Z, hZ⟩ : ∃ Z, Z = quickL (plcN c q 4) (blk c) c.tot := ⟨_, rfl⟩
      rw [← hZ] at pe0
      have pe : TC R Try.prog condition_Process_f [.agg (encC c), .agg [.int .u8 (q.getD (Int.toNat 0) (R.d Ei) % 256), .int .u8 (q.getD (Int.toNat 1) (R.d Ei) % 256), .int .u8 (q.getD (Int.toNat 2) (R.d Ei) % 256), .int .u8 (q.getD (Int.toNat 3) (R.d Ei) % 256)]] [] (fun v X => v = .tup [.agg (inkA Z), .int .i64 0] ∧ X = []) := by
        rw [show q.getD (Int.toNat 0) (R.d Ei) = (y0 : Int) from f0, show q.getD (Int.toNat 1) (R.d Ei) = (y1 : Int) from f1, show q.getD (Int.toNat 2) (R.d Ei) = (y2 : Int) from f2, show q.getD (Int.toNat 3) (R.d Ei) = (y3 : Int) from f3,
          Int.emod_eq_of_lt (a := (y0 : Int)) (by omega) (by omega), Int.emod_eq_of_lt (a := (y1 : Int)) (by omega) (by omega), Int.emod_eq_of_lt (a := (y2 : Int)) (by omega) (by omega), Int.emod_eq_of_lt (a := (y3 : Int)) (by omega) (by omega)]
        exact pe0
      have qi : ∀ o, -9223372036854775808 ≤ q.getD o (R.d Ei) ∧ q.getD o (R.d Ei) ≤ 9223372036854775807 := fun o => by
        have h9 : 0 ≤ q.getD o (R.d Ei) ∧ q.getD o (R.d Ei) ≤ 255 := qb o
        omega
      repeat' (first
        | ((with_reducible refine TOps.any ?_); refine TOps.callV env (by rfl) (by rfl) (by rfl) (condWorks_c) ?_)
        | ((with_reducible refine TOps.any ?_); refine TOps.callV env (by rfl) (by rfl) (by rfl) (k) ?_)
        | ((with_reducible refine TDr.any ?_); refine TDr.callE env (by first | rfl | assumption) (by rfl) (by rfl) ?_ (m1) (by rfl) (by rfl) ?_)
        | ((with_reducible refine TOps.any ?_); refine TOps.callV env (by rfl) (by rfl) (by rfl) (m1) ?_)
        | refine GZp_i_2i_y ?_ ?_ ?_ ?_ ?_ ?_ ?_ ?_
        | with_reducible first | exact BzZq.mk | refine Tw.ret ?_ | refine ImZq.i fun h => ?_ | refine IkZq.i fun hk => ?_)
      rw [e2]
      refine Tw.loopK [2, 3, 7, 37, 38] (fun i : Nat => i ≤ c.inks.length ∧ ∀ j, j < i → c.inks.getD j dB ≠ nm) (fun i => c.inks.length - i) (fun i => [(39, .int .i64 i)])
        (fun _ => [some (.cells [.lst Es c.inks, .lst Ei c.pr, .lst Ei c.li, .int .i64 c.ga, .int .i64 c.gb, .int .i64 c.gc, .lst Ei c.gv, .int .i64 c.ra, .int .i64 c.rb, .int .i64 c.rc, .lst Ei c.rv, .lst Es6iL2iJLiJ c.sp, .int .i64 c.tot]), some (.cells (enc3 s))]) ⟨0, ⟨by omega, fun j hj => by omega⟩, TWk.fcanon env [some 0, some 1] (by rfl) ?_⟩ (fun i hi => ?_)
      · repeat' (first
          | with_reducible first | exact Conj.nil | refine Conj.cons rfl ?_ | refine Conj.same ?_ | refine Conj.ask ?_ ?_
          | ((with_reducible refine Due.mk ?_); (first | with_reducible rfl | omega | assumption | decide | ((try simp only [goS] at *) <;> (try intro h) <;> (try intro h') <;> (try simp only [goS] at *) <;> (try simp only [rdi, rd2i, rdy, Int.toNat_natCast, Nat.add_zero] at *) <;> (try simp only [rng]) <;> (first | assumption | omega)) | (exact due_app0 (by omega)) | (exact due_app (by omega)) | (intros; simp; done) | (intros; simp; omega)))
          | with_reducible refine Due.mk ?_
          | omega)
      obtain ⟨hi, hp⟩ := hi
      rcases Nat.lt_or_ge i c.inks.length with hi2 | hi2
      · by_cases he : c.inks.getD i (R.d Es) = s.1
        · repeat' (first
            | refine GZp_i_2i_y ?_ ?_ ?_ ?_ ?_ ?_ ?_ ?_
            | with_reducible first | exact BzZq.mk | refine Tw.ret ?_ | refine ImZq.i fun h => ?_ | refine IkZq.i fun hk => ?_)
          exact ⟨rfl, rfl, rfl⟩
        · repeat' (first
            | refine GZp_i_2i_y ?_ ?_ ?_ ?_ ?_ ?_ ?_ ?_
            | with_reducible first | exact BzZq.mk | refine Tw.ret ?_ | refine ImZq.i fun h => ?_ | refine IkZq.i fun hk => ?_)
          refine ⟨i + 1, ⟨by omega, fun j hj => ?_⟩, by omega, TWk.fcanon env [some 0, some 1] (by rfl) ?_⟩
          · by_cases e : j = i
            · subst e; rw [hnm]; exact he
            · exact hp j (by omega)
          · repeat' (first
              | refine GZ_i_2i_y ?_ ?_ ?_ ?_ ?_ ?_ ?_ ?_
              | with_reducible first | exact BzZq.mk | refine Tw.ret ?_ | refine ImZq.i fun h => ?_ | refine IkZq.i fun hk => ?_)
      obtain rfl : i = c.inks.length := by omega
      have a0 : ¬ at0 c.inks nm < c.inks.length := fun hlt => hp _ hlt (at0_at hlt)
      have a1 : at1 c.sp nm = n := at1_is sd (by omega) (.inr (by rw [← hs]; exact hnm.symm))
      have sT : spotT c nm x = some (plcN c q 4) := by unfold spotT; rw [if_neg a0, if_pos (by omega), a1, ← hs, ← hq]
      have sy := spot_y c nm x w ok h0 (by omega)
      rw [show spotR c nm x = Z by unfold spotR; rw [sT, hZ], show spotE c nm x = 0 by unfold spotE; rw [sT], hnm] at sy
      repeat' (first
        | ((with_reducible refine TOps.any ?_); refine TOps.callV env (by rfl) (by rfl) (by rfl) (sy) ?_)
        | ((with_reducible refine TOps.any ?_); refine TOps.callV env (by rfl) (by rfl) (by rfl) (pp) ?_)
        | ((with_reducible refine TDr.any ?_); refine TDr.callE env (by first | rfl | assumption) (by rfl) (by rfl) ?_ (pe) (by rfl) (by rfl) ?_)
        | refine GZy_i_2i_y lq ?_ ?_ ?_ ?_ ?_ ?_ ?_ ?_
        | with_reducible first | exact BzZq.mk | refine Tw.ret ?_ | refine ImZq.i fun h => ?_ | refine IkZq.i fun hk => ?_)
      exact ⟨rfl, congrArg TV.bool (by simp), rfl⟩
    · repeat' (first
        | ((with_reducible refine TOps.any ?_); refine TOps.callV env (by rfl) (by rfl) (by rfl) (condWorks_c) ?_)
        | ((with_reducible refine TOps.any ?_); refine TOps.callV env (by rfl) (by rfl) (by rfl) (k) ?_)
        | refine GZp_i_2i_y ?_ ?_ ?_ ?_ ?_ ?_ ?_ ?_
        | with_reducible first | exact BzZq.mk | refine Tw.ret ?_ | refine ImZq.i fun h => ?_ | refine IkZq.i fun hk => ?_)
      all_goals exact ⟨rfl, rfl, rfl⟩
  subst hc
  exact main
end Go.Proofs.Ytogbkhopanaoiaa
