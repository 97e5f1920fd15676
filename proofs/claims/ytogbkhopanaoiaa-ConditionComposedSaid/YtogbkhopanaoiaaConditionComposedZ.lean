/- The law ConditionComposed. -/
import Derived.Test.YtogbkhopanaoiaaCnd6
import Derived.Test.YtogbkhopanaoiaaCndV
import Derived.Test.YtogbkhopanaoiaaXConditionComposed1
import Derived.Test.YtogbkhopanaoiaaGo
namespace Go.Proofs.Ytogbkhopanaoiaa
open Go Go.Lite
set_option linter.unusedVariables false
set_option linter.unusedSimpArgs false
set_option maxRecDepth 100000
set_option maxHeartbeats 4000000
-- @simp rdi rd2i rdy

theorem ink8 {l : List Int} (h : l.length ≤ 8) : ptab 8 l.length (fun i => l.getD i 0) = tab 8 fun i => l.getD i 0 := tab_congr fun i _ => by
  by_cases h1 : i < l.length
  · rw [if_pos h1]
  · rw [if_neg h1, List.getD_eq_getElem?_getD, List.getElem?_eq_none (by omega)]; rfl
theorem ConditionComposed_law (i0 : List ByteArray) (i1 i2 : List Int) (a b cc : Int) (gv : List Int) (ra rb rc : Int) (rv : List Int) (sp : List Sp) (tot v : Int)
    (w0 : i0.length ≤ 9223372036854775807 ∧ ∀ y ∈ i0, Ws y) (w1 : i1.length ≤ 9223372036854775807 ∧ ∀ y ∈ i1, Wi y) (w2 : i2.length ≤ 9223372036854775807 ∧ ∀ y ∈ i2, Wi y) (_ : rng .i64 a) (_ : rng .i64 b) (_ : rng .i64 cc) (w3 : gv.length ≤ 9223372036854775807 ∧ ∀ y ∈ gv, Wi y)
    (_ : rng .i64 ra) (_ : rng .i64 rb) (_ : rng .i64 rc) (w4 : rv.length ≤ 9223372036854775807 ∧ ∀ y ∈ rv, Wi y) (w5 : sp.length ≤ 9223372036854775807 ∧ ∀ y ∈ sp, Ws6iL2iJLiJ y) (_ : rng .i64 tot) (wv : rng .u8 v) :
    TC R Try.prog K2_ConditionComposed_f [.agg [.lst Es i0, .lst Ei i1, .lst Ei i2, .int .i64 a, .int .i64 b, .int .i64 cc, .lst Ei gv, .int .i64 ra, .int .i64 rb, .int .i64 rc, .lst Ei rv, .lst Es6iL2iJLiJ sp, .int .i64 tot], .int .u8 v] [] (fun v X => v = .bool true ∧ X = []) := by
  obtain ⟨c, hc⟩ : ∃ c : Cnd, c = ⟨i0, i1, i2, a, b, cc, gv, ra, rb, rc, rv, sp, tot⟩ := ⟨_, rfl⟩
  have w : CndW c := by subst hc; exact ⟨w0.1, w0.2, w1.1, w2.1, w3.1, w4.1, w5.1, w5.2⟩
  have main : TC R Try.prog K2_ConditionComposed_f [.agg (encC c), .int .u8 v] [] (fun v X => v = .bool true ∧ X = []) := by
    clear hc
    have wv' : 0 ≤ v ∧ v ≤ 255 := wv
    obtain ⟨x, rfl⟩ : ∃ x : Nat, v = x := ⟨v.toNat, by omega⟩
    refine tc0 env K2_ConditionComposed_s (by rfl) ?_
    dsimp only [K2_ConditionComposed_c, encC]
    by_cases h0 : cndE c = 0
    · have h := cndE_ok h0
      obtain ⟨s, inn, out, ea, eb, es, e1, e2, g, hv⟩ := tb_ok h.gt
      obtain rfl : inn = 1 := by omega
      obtain rfl : out = c.inks.length := by omega
      have gc := gray_y c s x w h h0 es g hv ea eb (by omega)
      have tg := h.gt
      have d0 : dlE c.ga c.gb c.gc c.gv = 0 := by
        unfold tbE at tg
        split at tg
        · rename_i hh; exact absurd tg hh
        · rename_i hh; simpa using hh
      rw [ea, eb, es] at d0
      have cv := convert_y 1 c.inks.length s c.gv [x] g hv d0 w.gv ⟨rfl, fun i hi => by
        obtain rfl : i = 0 := by omega
        exact (show x ≤ 255 by omega)⟩
      rw [← ea, ← eb, ← es] at cv
      have gs := g.step
      have hn := h.n
      have bb := blk_bd h
      have tn : inTone (dlQ c.gv c.inks.length s [x]) := dlQ_bd hv (by omega)
      have lq : (dlQ c.gv c.inks.length s [x]).length = c.inks.length := dlQ_len
      obtain ⟨q, hq⟩ : ∃ q, q = dlQ c.gv c.inks.length s [x] := ⟨_, rfl⟩
      rw [← hq] at gc cv tn lq
      have ok : InkOk q (blk c) c.tot := ⟨tn, by omega, h.tot⟩
      have ly := limit_y q (blk c) c.tot ok (inkE_ok.2 ⟨by omega, tn⟩)
      obtain ⟨l, hL⟩ : ∃ l, l = quickL q (blk c) c.tot := ⟨_, rfl⟩
      have ll : l.length = c.inks.length := by rw [hL, quickL_len]; exact lq
      have lb : ∀ i, i < l.length → 0 ≤ l.getD i 0 ∧ l.getD i 0 ≤ 255 := fun i hi => by
        rw [hL] at hi ⊢
        exact quickL_tone ok i hi
      rw [← hL] at ly gc
      have pr := h.pr
      obtain ⟨bk, hb⟩ : ∃ bk, bk = blk c := ⟨_, rfl⟩
      rw [← hb] at ly
      by_cases h4 : c.pr.length = 4
      · have e3 : c.pr.getD 3 0 = bk := by rw [hb]; unfold blk; rw [if_pos h4]
        have e3b : c.pr.getD (Int.toNat 3) (R.d Ei) = bk := e3
        repeat' (first
          | ((with_reducible refine TOps.any ?_); refine TOps.callV env (by rfl) (by rfl) (by rfl) (condWorks_c) ?_)
          | ((with_reducible refine TOps.any ?_); refine TOps.callV env (by rfl) (by rfl) (by rfl) (gc) ?_)
          | refine GZp_i_2i_y ?_ ?_ ?_ ?_ ?_ ?_ ?_ ?_
          | with_reducible first | exact BzZq.mk | refine Tw.ret ?_ | refine ImZq.i fun h => ?_ | refine IkZq.i fun hk => ?_)
        refine TOps.frz env 2 (by rfl) (by rfl) (by rfl) ?_ ?_ ?_
        · repeat' (first
            | with_reducible first | exact Conj.nil | refine Conj.cons rfl ?_ | refine Conj.same ?_ | refine Conj.ask ?_ ?_
            | ((with_reducible refine Due.mk ?_); (first | with_reducible rfl | omega | assumption | decide | ((try simp only [goS] at *) <;> (try intro h) <;> (try intro h') <;> (try simp only [goS] at *) <;> (try simp only [rdi, rd2i, rdy, Int.toNat_natCast, Nat.add_zero] at *) <;> (try simp only [rng]) <;> (first | assumption | omega)) | (exact due_app0 (by omega)) | (exact due_app (by omega)) | (intros; simp; done) | (intros; simp; omega)))
            | with_reducible refine Due.mk ?_
            | omega)
        · repeat' (first
            | with_reducible first | exact Conj.nil | refine Conj.cons rfl ?_ | refine Conj.same ?_ | refine Conj.ask ?_ ?_
            | ((with_reducible refine Due.mk ?_); (first | with_reducible rfl | omega | assumption | decide | ((try simp only [goS] at *) <;> (try intro h) <;> (try intro h') <;> (try simp only [goS] at *) <;> (try simp only [rdi, rd2i, rdy, Int.toNat_natCast, Nat.add_zero] at *) <;> (try simp only [rng]) <;> (first | assumption | omega)) | (exact due_app0 (by omega)) | (exact due_app (by omega)) | (intros; simp; done) | (intros; simp; omega)))
            | with_reducible refine Due.mk ?_
            | omega)
        repeat' (first
          | ((with_reducible refine TOps.any ?_); refine TOps.callV env (by rfl) (by rfl) (by rfl) (cv) ?_)
          | refine GZp_i_2i_y ?_ ?_ ?_ ?_ ?_ ?_ ?_ ?_
          | with_reducible first | exact BzZq.mk | refine Tw.ret ?_ | refine ImZq.i fun h => ?_ | refine IkZq.i fun hk => ?_)
        rw [e3b]
        repeat' (first
          | ((with_reducible refine TOps.any ?_); refine TOps.callV env (by rfl) (by rfl) (by rfl) (ly) ?_)
          | refine GZp_i_2i_y ?_ ?_ ?_ ?_ ?_ ?_ ?_ ?_
          | with_reducible first | exact BzZq.mk | refine Tw.ret ?_ | refine ImZq.i fun h => ?_ | refine IkZq.i fun hk => ?_)
        refine Tw.weaken (TWk.re (H' := [some (.cells [.lst Es c.inks, .lst Ei c.pr, .lst Ei c.li, .int .i64 c.ga, .int .i64 c.gb, .int .i64 c.gc, .lst Ei c.gv, .int .i64 c.ra, .int .i64 c.rb, .int .i64 c.rc, .lst Ei c.rv, .lst Es6iL2iJLiJ c.sp, .int .i64 c.tot]), some (.cells (inkA l)), none, some (.arr Ey (ptab 8 0 fun i => l.getD i 0))]) (by rfl)) ?_
        refine Tw.loopK [72, 73] (fun i : Nat => i ≤ l.length) (fun i => l.length - i) (fun i => [(74, .int .i64 i), (5, .ptr 0 0), (12, .ptr 1 0)]) (fun i => [some (.cells (inkA l)), some (.arr Ey (ptab 8 i fun i => l.getD i 0))]) ⟨0, by omega, TWk.fcanon env [some 1, some 3] (by rfl) ?_⟩ (fun i hi => ?_)
        · repeat' (first
            | with_reducible first | exact Conj.nil | refine Conj.cons rfl ?_ | refine Conj.same ?_ | refine Conj.ask ?_ ?_
            | ((with_reducible refine Due.mk ?_); (first | with_reducible rfl | omega | assumption | decide | ((try simp only [goS] at *) <;> (try intro h) <;> (try intro h') <;> (try simp only [goS] at *) <;> (try simp only [rdi, rd2i, rdy, Int.toNat_natCast, Nat.add_zero] at *) <;> (try simp only [rng]) <;> (first | assumption | omega)) | (exact due_app0 (by omega)) | (exact due_app (by omega)) | (intros; simp; done) | (intros; simp; omega)))
            | with_reducible refine Due.mk ?_
            | omega)
        have pl : (ptab 8 i fun i => l.getD i 0).length = 8 := ptab_len
        rcases Nat.lt_or_ge i l.length with hi2 | hi2
        · have vb := lb i hi2
          have em : l.getD i 0 % 256 = l.getD i 0 := Int.emod_eq_of_lt vb.1 (by omega)
          have ps : (ptab 8 i fun i => l.getD i 0).set i (l.getD i 0 % 256) = ptab 8 (i + 1) fun i => l.getD i 0 := by rw [em]; exact ptab_set (f := fun i => l.getD i 0)
          repeat' (first
            | refine GZy_i_2i_y pl ?_ ?_ ?_ ?_ ?_ ?_ ?_ ?_
            | with_reducible first | exact BzZq.mk | refine Tw.ret ?_ | refine ImZq.i fun h => ?_ | refine IkZq.i fun hk => ?_)
          refine ⟨i + 1, by omega, by omega, TWk.fcanon env [some 0, some 1] (by rfl) ?_⟩
          repeat' (first
            | exact ps.symm
            | with_reducible first | exact Conj.nil | refine Conj.cons rfl ?_ | refine Conj.same ?_ | refine Conj.ask ?_ ?_
            | ((with_reducible refine Due.mk ?_); (first | with_reducible rfl | omega | assumption | decide | ((try simp only [goS] at *) <;> (try intro h) <;> (try intro h') <;> (try simp only [goS] at *) <;> (try simp only [rdi, rd2i, rdy, Int.toNat_natCast, Nat.add_zero] at *) <;> (try simp only [rng]) <;> (first | assumption | omega)) | (exact due_app0 (by omega)) | (exact due_app (by omega)) | (intros; simp; done) | (intros; simp; omega)))
            | with_reducible refine Due.mk ?_
            | omega)
        obtain rfl : i = l.length := by omega
        rw [ink8 (by omega)]
        refine Tw.weaken (TWk.re (H' := [some (.cells (inkA l)), some (.cells (inkA l))]) (by rfl)) ?_
        repeat' (first
          | refine GZp_i_2i_y ?_ ?_ ?_ ?_ ?_ ?_ ?_ ?_
          | with_reducible first | exact BzZq.mk | refine Tw.ret ?_ | refine ImZq.i fun h => ?_ | refine IkZq.i fun hk => ?_)
        exact ⟨rfl, congrArg TV.bool (by simp), rfl⟩
      · have e3 : (-1 : Int) = bk := by rw [hb]; unfold blk; rw [if_neg h4]
        repeat' (first
          | ((with_reducible refine TOps.any ?_); refine TOps.callV env (by rfl) (by rfl) (by rfl) (condWorks_c) ?_)
          | ((with_reducible refine TOps.any ?_); refine TOps.callV env (by rfl) (by rfl) (by rfl) (gc) ?_)
          | refine GZp_i_2i_y ?_ ?_ ?_ ?_ ?_ ?_ ?_ ?_
          | with_reducible first | exact BzZq.mk | refine Tw.ret ?_ | refine ImZq.i fun h => ?_ | refine IkZq.i fun hk => ?_)
        refine TOps.frz env 2 (by rfl) (by rfl) (by rfl) ?_ ?_ ?_
        · repeat' (first
            | with_reducible first | exact Conj.nil | refine Conj.cons rfl ?_ | refine Conj.same ?_ | refine Conj.ask ?_ ?_
            | ((with_reducible refine Due.mk ?_); (first | with_reducible rfl | omega | assumption | decide | ((try simp only [goS] at *) <;> (try intro h) <;> (try intro h') <;> (try simp only [goS] at *) <;> (try simp only [rdi, rd2i, rdy, Int.toNat_natCast, Nat.add_zero] at *) <;> (try simp only [rng]) <;> (first | assumption | omega)) | (exact due_app0 (by omega)) | (exact due_app (by omega)) | (intros; simp; done) | (intros; simp; omega)))
            | with_reducible refine Due.mk ?_
            | omega)
        · repeat' (first
            | with_reducible first | exact Conj.nil | refine Conj.cons rfl ?_ | refine Conj.same ?_ | refine Conj.ask ?_ ?_
            | ((with_reducible refine Due.mk ?_); (first | with_reducible rfl | omega | assumption | decide | ((try simp only [goS] at *) <;> (try intro h) <;> (try intro h') <;> (try simp only [goS] at *) <;> (try simp only [rdi, rd2i, rdy, Int.toNat_natCast, Nat.add_zero] at *) <;> (try simp only [rng]) <;> (first | assumption | omega)) | (exact due_app0 (by omega)) | (exact due_app (by omega)) | (intros; simp; done) | (intros; simp; omega)))
            | with_reducible refine Due.mk ?_
            | omega)
        repeat' (first
          | ((with_reducible refine TOps.any ?_); refine TOps.callV env (by rfl) (by rfl) (by rfl) (cv) ?_)
          | refine GZp_i_2i_y ?_ ?_ ?_ ?_ ?_ ?_ ?_ ?_
          | with_reducible first | exact BzZq.mk | refine Tw.ret ?_ | refine ImZq.i fun h => ?_ | refine IkZq.i fun hk => ?_)
        rw [e3]
        repeat' (first
          | ((with_reducible refine TOps.any ?_); refine TOps.callV env (by rfl) (by rfl) (by rfl) (ly) ?_)
          | refine GZp_i_2i_y ?_ ?_ ?_ ?_ ?_ ?_ ?_ ?_
          | with_reducible first | exact BzZq.mk | refine Tw.ret ?_ | refine ImZq.i fun h => ?_ | refine IkZq.i fun hk => ?_)
        refine Tw.weaken (TWk.re (H' := [some (.cells [.lst Es c.inks, .lst Ei c.pr, .lst Ei c.li, .int .i64 c.ga, .int .i64 c.gb, .int .i64 c.gc, .lst Ei c.gv, .int .i64 c.ra, .int .i64 c.rb, .int .i64 c.rc, .lst Ei c.rv, .lst Es6iL2iJLiJ c.sp, .int .i64 c.tot]), some (.cells (inkA l)), none, some (.arr Ey (ptab 8 0 fun i => l.getD i 0))]) (by rfl)) ?_
        refine Tw.loopK [72, 73] (fun i : Nat => i ≤ l.length) (fun i => l.length - i) (fun i => [(74, .int .i64 i), (5, .ptr 0 0), (12, .ptr 1 0)]) (fun i => [some (.cells (inkA l)), some (.arr Ey (ptab 8 i fun i => l.getD i 0))]) ⟨0, by omega, TWk.fcanon env [some 1, some 3] (by rfl) ?_⟩ (fun i hi => ?_)
        · repeat' (first
            | with_reducible first | exact Conj.nil | refine Conj.cons rfl ?_ | refine Conj.same ?_ | refine Conj.ask ?_ ?_
            | ((with_reducible refine Due.mk ?_); (first | with_reducible rfl | omega | assumption | decide | ((try simp only [goS] at *) <;> (try intro h) <;> (try intro h') <;> (try simp only [goS] at *) <;> (try simp only [rdi, rd2i, rdy, Int.toNat_natCast, Nat.add_zero] at *) <;> (try simp only [rng]) <;> (first | assumption | omega)) | (exact due_app0 (by omega)) | (exact due_app (by omega)) | (intros; simp; done) | (intros; simp; omega)))
            | with_reducible refine Due.mk ?_
            | omega)
        have pl : (ptab 8 i fun i => l.getD i 0).length = 8 := ptab_len
        rcases Nat.lt_or_ge i l.length with hi2 | hi2
        · have vb := lb i hi2
          have em : l.getD i 0 % 256 = l.getD i 0 := Int.emod_eq_of_lt vb.1 (by omega)
          have ps : (ptab 8 i fun i => l.getD i 0).set i (l.getD i 0 % 256) = ptab 8 (i + 1) fun i => l.getD i 0 := by rw [em]; exact ptab_set (f := fun i => l.getD i 0)
          repeat' (first
            | refine GZy_i_2i_y pl ?_ ?_ ?_ ?_ ?_ ?_ ?_ ?_
            | with_reducible first | exact BzZq.mk | refine Tw.ret ?_ | refine ImZq.i fun h => ?_ | refine IkZq.i fun hk => ?_)
          refine ⟨i + 1, by omega, by omega, TWk.fcanon env [some 0, some 1] (by rfl) ?_⟩
          repeat' (first
            | exact ps.symm
            | with_reducible first | exact Conj.nil | refine Conj.cons rfl ?_ | refine Conj.same ?_ | refine Conj.ask ?_ ?_
            | ((with_reducible refine Due.mk ?_); (first | with_reducible rfl | omega | assumption | decide | ((try simp only [goS] at *) <;> (try intro h) <;> (try intro h') <;> (try simp only [goS] at *) <;> (try simp only [rdi, rd2i, rdy, Int.toNat_natCast, Nat.add_zero] at *) <;> (try simp only [rng]) <;> (first | assumption | omega)) | (exact due_app0 (by omega)) | (exact due_app (by omega)) | (intros; simp; done) | (intros; simp; omega)))
            | with_reducible refine Due.mk ?_
            | omega)
        obtain rfl : i = l.length := by omega
        rw [ink8 (by omega)]
        refine Tw.weaken (TWk.re (H' := [some (.cells (inkA l)), some (.cells (inkA l))]) (by rfl)) ?_
        repeat' (first
          | refine GZp_i_2i_y ?_ ?_ ?_ ?_ ?_ ?_ ?_ ?_
          | with_reducible first | exact BzZq.mk | refine Tw.ret ?_ | refine ImZq.i fun h => ?_ | refine IkZq.i fun hk => ?_)
        exact ⟨rfl, congrArg TV.bool (by simp), rfl⟩
    · have gc := gray_n c x w h0
      repeat' (first
        | ((with_reducible refine TOps.any ?_); refine TOps.callV env (by rfl) (by rfl) (by rfl) (condWorks_c) ?_)
        | ((with_reducible refine TOps.any ?_); refine TOps.callV env (by rfl) (by rfl) (by rfl) (gc) ?_)
        | refine GZp_i_2i_y ?_ ?_ ?_ ?_ ?_ ?_ ?_ ?_
        | with_reducible first | exact BzZq.mk | refine Tw.ret ?_ | refine ImZq.i fun h => ?_ | refine IkZq.i fun hk => ?_)
      exact ⟨rfl, congrArg TV.bool (by simp), rfl⟩
  subst hc
  exact main
end Go.Proofs.Ytogbkhopanaoiaa
