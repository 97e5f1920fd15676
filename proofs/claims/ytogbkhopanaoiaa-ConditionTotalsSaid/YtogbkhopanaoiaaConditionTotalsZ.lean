/- The law ConditionTotals. -/
import Derived.Test.YtogbkhopanaoiaaCnd8
import Derived.Test.YtogbkhopanaoiaaCndV
import Derived.Test.YtogbkhopanaoiaaXConditionTotals0
import Derived.Test.YtogbkhopanaoiaaGo
namespace Go.Proofs.Ytogbkhopanaoiaa
open Go Go.Lite
set_option linter.unusedVariables false
set_option linter.unusedSimpArgs false
set_option maxRecDepth 100000
set_option maxHeartbeats 4000000
-- @simp rdi rd2i rdy

theorem spot_n (c : Cnd) (nm : ByteArray) (x : Int) (w : CndW c) (h0 : cndE c ≠ 0) :
    TC R Try.prog condition_Spot_f [.agg (encC c), .str nm, .int .u8 x] [] (fun v X => v = .tup [.agg (inkA []), .int .i64 (cndE c)] ∧ X = []) := by
  have cc := condCheck_c c w
  refine tc0 env condition_Spot_s (by rfl) ?_
  dsimp only [condition_Spot_c, encC]
  repeat' (first
    | ((with_reducible refine TOps.any ?_); refine TOps.callV env (by rfl) (by rfl) (by rfl) (cc) ?_)
    | refine GZp_i_2i_y ?_ ?_ ?_ ?_ ?_ ?_ ?_ ?_
    | with_reducible first | exact BzZq.mk | refine Tw.ret ?_ | refine ImZq.i fun h => ?_ | refine IkZq.i fun hk => ?_)
  exact ⟨rfl, rfl, rfl⟩
/-- A vector of inks within the total. -/
structure VOk (c : Cnd) (q : List Int) : Prop where
  bd : ∀ i, 0 ≤ q.getD i 0 ∧ q.getD i 0 ≤ 255
  out : ∀ i, c.inks.length ≤ i → q.getD i 0 = 0
  sum : sumN (fun i => q.getD i 0) 8 ≤ c.tot
theorem vok_nil {c : Cnd} (h : CndOk c) : VOk c [] := ⟨fun i => by simp, fun i _ => by simp, by
  have := h.tot
  rw [sumN_zero fun i _ => by simp]; omega⟩
theorem vok_quick {c : Cnd} {t : List Int} (h : CndOk c) (ht : inTone t) (hl : t.length = c.inks.length) : VOk c (quickL t (blk c) c.tot) := by
  have hn := h.n
  have bb := blk_bd h
  have ok : InkOk t (blk c) c.tot := ⟨ht, by omega, h.tot⟩
  have ll : (quickL t (blk c) c.tot).length = c.inks.length := by rw [quickL_len]; exact hl
  have out : ∀ i, c.inks.length ≤ i → (quickL t (blk c) c.tot).getD i 0 = 0 := fun i hi => by
    rw [List.getD_eq_getElem?_getD, List.getElem?_eq_none (by omega)]; rfl
  refine ⟨fun i => ?_, out, ?_⟩
  · rcases Nat.lt_or_ge i (quickL t (blk c) c.tot).length with h1 | h1
    · exact quickL_tone ok i h1
    · rw [out i (by omega)]; omega
  · have hs := quickL_sum ok
    have e : sumN (fun i => (quickL t (blk c) c.tot).getD i 0) 8 = sumL (quickL t (blk c) c.tot) := by
      unfold sumL
      rw [ll, show 8 = c.inks.length + (8 - c.inks.length) by omega, sumN_add, sumN_zero (n := 8 - c.inks.length) fun i _ => out _ (by omega)]
      omega
    rw [e]; exact hs
theorem ConditionTotals_law (i0 : List ByteArray) (i1 i2 : List Int) (a b cc : Int) (gv : List Int) (ra rb rc : Int) (rv : List Int) (sp : List Sp) (tot v0 v1 v2 v3 : Int) (nm : ByteArray)
    (w0 : i0.length ≤ 9223372036854775807 ∧ ∀ y ∈ i0, Ws y) (w1 : i1.length ≤ 9223372036854775807 ∧ ∀ y ∈ i1, Wi y) (w2 : i2.length ≤ 9223372036854775807 ∧ ∀ y ∈ i2, Wi y) (_ : rng .i64 a) (_ : rng .i64 b) (_ : rng .i64 cc) (w3 : gv.length ≤ 9223372036854775807 ∧ ∀ y ∈ gv, Wi y)
    (_ : rng .i64 ra) (_ : rng .i64 rb) (_ : rng .i64 rc) (w4 : rv.length ≤ 9223372036854775807 ∧ ∀ y ∈ rv, Wi y) (w5 : sp.length ≤ 9223372036854775807 ∧ ∀ y ∈ sp, Ws6iL2iJLiJ y) (_ : rng .i64 tot) (wv0 : rng .u8 v0) (wv1 : rng .u8 v1) (wv2 : rng .u8 v2) (wv3 : rng .u8 v3) (_ : nm.size ≤ 9223372036854775807) :
    TC R Try.prog K2_ConditionTotals_f [.agg [.lst Es i0, .lst Ei i1, .lst Ei i2, .int .i64 a, .int .i64 b, .int .i64 cc, .lst Ei gv, .int .i64 ra, .int .i64 rb, .int .i64 rc, .lst Ei rv, .lst Es6iL2iJLiJ sp, .int .i64 tot], .agg [.int .u8 v0, .int .u8 v1, .int .u8 v2, .int .u8 v3], .str nm] [] (fun v X => v = .bool true ∧ X = []) := by
  obtain ⟨c, hc⟩ : ∃ c : Cnd, c = ⟨i0, i1, i2, a, b, cc, gv, ra, rb, rc, rv, sp, tot⟩ := ⟨_, rfl⟩
  have w : CndW c := by subst hc; exact ⟨w0.1, w0.2, w1.1, w2.1, w3.1, w4.1, w5.1, w5.2⟩
  have main : TC R Try.prog K2_ConditionTotals_f [.agg (encC c), .agg [.int .u8 v0, .int .u8 v1, .int .u8 v2, .int .u8 v3], .str nm] [] (fun v X => v = .bool true ∧ X = []) := by
    clear hc
    have b0 : 0 ≤ v0 ∧ v0 ≤ 255 := wv0
    have b1 : 0 ≤ v1 ∧ v1 ≤ 255 := wv1
    have b2 : 0 ≤ v2 ∧ v2 ≤ 255 := wv2
    have b3 : 0 ≤ v3 ∧ v3 ≤ 255 := wv3
    obtain ⟨x0, rfl⟩ : ∃ x : Nat, v0 = x := ⟨v0.toNat, by omega⟩
    obtain ⟨x1, rfl⟩ : ∃ x : Nat, v1 = x := ⟨v1.toNat, by omega⟩
    obtain ⟨x2, rfl⟩ : ∃ x : Nat, v2 = x := ⟨v2.toNat, by omega⟩
    obtain ⟨x3, rfl⟩ : ∃ x : Nat, v3 = x := ⟨v3.toNat, by omega⟩
    have k := condCheck_c c w
    refine tc0 env K2_ConditionTotals_s (by rfl) ?_
    dsimp only [K2_ConditionTotals_c, encC]
    by_cases h0 : cndE c = 0
    · have ok := cndE_ok h0
      have hn := ok.n
      obtain ⟨s, inn, out, ea, eb, es, e1, e2, g, hv⟩ := tb_ok ok.gt
      obtain rfl : inn = 1 := by omega
      obtain rfl : out = c.inks.length := by omega
      obtain ⟨s2, inn, out, ea2, eb2, es2, e12, e22, g2, hv2⟩ := tb_ok ok.rt
      obtain rfl : inn = 3 := by omega
      obtain rfl : out = c.inks.length := by omega
      have gs := g.step
      have gs2 := g2.step
      have gc := gray_y c s x0 w ok h0 es g hv ea eb (by omega)
      have rc := rgb_y c s2 x0 x1 x2 w ok h0 es2 g2 hv2 ea2 eb2 (by omega) (by omega) (by omega)
      have sc := spot_y c nm x3 w ok h0 (by omega)
      have vg := vok_quick ok (t := dlQ c.gv c.inks.length s [x0]) (dlQ_bd hv (by omega)) dlQ_len
      have vr := vok_quick ok (t := dlQ c.rv c.inks.length s2 [x0, x1, x2]) (dlQ_bd hv2 (by omega)) dlQ_len
      have vs : VOk c (spotR c nm x3) ∧ (spotE c nm x3 = 0 ∨ spotE c nm x3 = 6) := by
        unfold spotR spotE
        cases hT : spotT c nm x3 with
        | none => exact ⟨vok_nil ok, .inr rfl⟩
        | some t =>
          refine ⟨?_, .inl rfl⟩
          unfold spotT at hT
          split at hT
          · obtain rfl := Option.some.inj hT
            exact vok_quick ok (oneTo_ok (by omega)) (by simp [oneTo])
          · split at hT
            · rename_i hh
              obtain rfl := Option.some.inj hT
              exact vok_quick ok (plcN_tone fun o => quick_255 (ok.sp.2 _ hh).1 (by omega) o) plcN_len
            · cases hT
      obtain ⟨vs, ve⟩ := vs
      obtain ⟨P, eP, hPc, vp, hP8⟩ : ∃ P eP, TC R Try.prog condition_Process_f [.agg (encC c), .agg [.int .u8 x0, .int .u8 x1, .int .u8 x2, .int .u8 x3]] [] (fun v X => v = .tup [.agg (inkA P), .int .i64 eP] ∧ X = []) ∧ VOk c P ∧ (eP = 0 ∨ c.pr.length = 0) := by
        rcases ok.pr with h4 | h4
        · exact ⟨[], 8, process_0 c x0 x1 x2 x3 w h0 h4, vok_nil ok, .inr h4⟩
        · exact ⟨_, 0, process_y c x0 x1 x2 x3 w ok h0 h4 ⟨by omega, by omega, by omega, by omega⟩, vok_quick ok (plcN_tone fun i => by
            match i with
            | 0 => exact (show 0 ≤ (x0 : Int) ∧ (x0 : Int) ≤ 255 by omega)
            | 1 => exact (show 0 ≤ (x1 : Int) ∧ (x1 : Int) ≤ 255 by omega)
            | 2 => exact (show 0 ≤ (x2 : Int) ∧ (x2 : Int) ≤ 255 by omega)
            | 3 => exact (show 0 ≤ (x3 : Int) ∧ (x3 : Int) ≤ 255 by omega)
            | i + 4 => exact (show 0 ≤ (0 : Int) ∧ (0 : Int) ≤ 255 by omega)) plcN_len, .inl rfl⟩
      obtain ⟨S', hS'⟩ : ∃ q, q = spotR c nm x3 := ⟨_, rfl⟩
      obtain ⟨eS, heS⟩ : ∃ q, q = spotE c nm x3 := ⟨_, rfl⟩
      obtain ⟨Gq, hGq⟩ : ∃ q, q = quickL (dlQ c.gv c.inks.length s [x0]) (blk c) c.tot := ⟨_, rfl⟩
      obtain ⟨Rq, hRq⟩ : ∃ q, q = quickL (dlQ c.rv c.inks.length s2 [x0, x1, x2]) (blk c) c.tot := ⟨_, rfl⟩
      rw [← hS', ← heS] at sc
      rw [← hS'] at vs
      rw [← heS] at ve
      rw [← hGq] at gc vg
      rw [← hRq] at rc vr
      rw [h0] at k
      clear hS' heS hGq hRq g g2 hv hv2 ea eb es ea2 eb2 es2 e1 e2 e12 e22 gs gs2
      have d1 : (!(!decide ((0 : Int) = 0) || !decide ((0 : Int) = 0))) = true → (!decide (eP = 0)) = true → (!(!decide ((0 : Int) = 0) || !decide ((0 : Int) = 0)) && !decide (eP = 0)) = true := fun h1 h2 => by rw [h1, h2]; rfl
      have d2 : (!(!decide ((0 : Int) = 0) || !decide ((0 : Int) = 0) || !decide (eP = 0) && decide (0 < (c.pr.length : Int)))) = true → (!decide (eS = 0)) = true → (!(!decide ((0 : Int) = 0) || !decide ((0 : Int) = 0) || !decide (eP = 0) && decide (0 < (c.pr.length : Int))) && !decide (eS = 0)) = true := fun h1 h2 => by rw [h1, h2]; rfl
      repeat' (first
        | ((with_reducible refine TOps.any ?_); refine TOps.callV env (by rfl) (by rfl) (by rfl) (condWorks_c) ?_)
        | ((with_reducible refine TOps.any ?_); refine TOps.callV env (by rfl) (by rfl) (by rfl) (gc) ?_)
        | ((with_reducible refine TOps.any ?_); refine TOps.callV env (by rfl) (by rfl) (by rfl) (rc) ?_)
        | ((with_reducible refine TOps.any ?_); refine TOps.callV env (by rfl) (by rfl) (by rfl) (hPc) ?_)
        | ((with_reducible refine TOps.any ?_); refine TOps.callV env (by rfl) (by rfl) (by rfl) (sc) ?_)
        | ((with_reducible refine TOps.any ?_); refine TOps.callV env (by rfl) (by rfl) (by rfl) (k) ?_)
        | exact d1
        | exact d2
        | refine GZp_i_2i_y ?_ ?_ ?_ ?_ ?_ ?_ ?_ ?_
        | with_reducible first | exact BzZq.mk | refine Tw.ret ?_ | refine ImZq.i fun h => ?_ | refine IkZq.i fun hk => ?_)
      refine Tw.loopK [3, 99] (fun k : Nat => k ≤ 4) (fun k => 4 - k) (fun k => [(100, .int .i64 k)])
        (fun _ => [some (.cells [.lst Es c.inks, .lst Ei c.pr, .lst Ei c.li, .int .i64 c.ga, .int .i64 c.gb, .int .i64 c.gc, .lst Ei c.gv, .int .i64 c.ra, .int .i64 c.rb, .int .i64 c.rc, .lst Ei c.rv, .lst Es6iL2iJLiJ c.sp, .int .i64 c.tot])]) ⟨0, by omega, TWk.fcanon env [some 0] (by rfl) ?_⟩ (fun n hn2 => ?_)
      · repeat' (first
          | with_reducible first | exact Conj.nil | refine Conj.cons rfl ?_ | refine Conj.same ?_ | refine Conj.ask ?_ ?_
          | ((with_reducible refine Due.mk ?_); (first | with_reducible rfl | omega | assumption | decide | ((try simp only [goS] at *) <;> (try intro h) <;> (try intro h') <;> (try simp only [goS] at *) <;> (try simp only [rdi, rd2i, rdy, Int.toNat_natCast, Nat.add_zero] at *) <;> (try simp only [rng]) <;> (first | assumption | omega)) | (exact due_app0 (by omega)) | (exact due_app (by omega)) | (intros; simp; done) | (intros; simp; omega)))
          | with_reducible refine Due.mk ?_
          | omega)
      rcases (show n = 0 ∨ n = 1 ∨ n = 2 ∨ n = 3 ∨ n = 4 by omega) with rfl | rfl | rfl | rfl | rfl
      · repeat' (first
          | refine GZp_i_2i_y ?_ ?_ ?_ ?_ ?_ ?_ ?_ ?_
          | with_reducible first | exact BzZq.mk | refine Tw.ret ?_ | refine ImZq.i fun h => ?_ | refine IkZq.i fun hk => ?_)
        refine Tw.loopK [3, 99, 100, 103] (fun j : Nat => j ≤ 8) (fun j => 8 - j) (fun j => [(104, .int .i64 j), (17, .int .i64 (sumN (fun i => Gq.getD i 0) j))])
          (fun _ => [some (.cells [.lst Es c.inks, .lst Ei c.pr, .lst Ei c.li, .int .i64 c.ga, .int .i64 c.gb, .int .i64 c.gc, .lst Ei c.gv, .int .i64 c.ra, .int .i64 c.rb, .int .i64 c.rc, .lst Ei c.rv, .lst Es6iL2iJLiJ c.sp, .int .i64 c.tot])]) ⟨0, by omega, TWk.fcanon env [some 0] (by rfl) ?_⟩ (fun j hj => ?_)
        · repeat' (first
            | with_reducible first | exact Conj.nil | refine Conj.cons rfl ?_ | refine Conj.same ?_ | refine Conj.ask ?_ ?_
            | ((with_reducible refine Due.mk ?_); (first | with_reducible rfl | omega | assumption | decide | ((try simp only [goS] at *) <;> (try intro h) <;> (try intro h') <;> (try simp only [goS] at *) <;> (try simp only [rdi, rd2i, rdy, Int.toNat_natCast, Nat.add_zero] at *) <;> (try simp only [rng]) <;> (first | assumption | omega)) | (exact due_app0 (by omega)) | (exact due_app (by omega)) | (intros; simp; done) | (intros; simp; omega)))
            | with_reducible refine Due.mk ?_
            | omega)
        have sb := sumN_bd (f := fun i => Gq.getD i 0) (k := 255) (n := j) fun i _ => vg.bd i
        have sn : sumN (fun i => Gq.getD i 0) (j + 1) = sumN (fun i => Gq.getD i 0) j + Gq.getD j 0 := rfl
        have vb := vg.bd j
        have vo := vg.out j
        have vs := vg.sum
        obtain ⟨S, hS⟩ : ∃ S, S = sumN (fun i => Gq.getD i 0) j := ⟨_, rfl⟩
        rw [← hS] at sb sn ⊢
        rcases (show j = 0 ∨ j = 1 ∨ j = 2 ∨ j = 3 ∨ j = 4 ∨ j = 5 ∨ j = 6 ∨ j = 7 ∨ j = 8 by omega) with rfl | rfl | rfl | rfl | rfl | rfl | rfl | rfl | rfl
        · have vo2 : (c.inks.length : Int) ≤ 0 → Gq.getD 0 0 = 0 := fun hh => vo (by omega)
          repeat' (first
            | refine GZp_i_2i_y ?_ ?_ ?_ ?_ ?_ ?_ ?_ ?_
            | with_reducible first | exact BzZq.mk | refine Tw.ret ?_ | refine ImZq.i fun h => ?_ | refine IkZq.i fun hk => ?_)
          all_goals refine ⟨1, by omega, by omega, TWk.fcanon env [some 0] (by rfl) ?_⟩
          repeat' (first
            | exact sn
            | with_reducible first | exact Conj.nil | refine Conj.cons rfl ?_ | refine Conj.same ?_ | refine Conj.ask ?_ ?_
            | ((with_reducible refine Due.mk ?_); (first | with_reducible rfl | omega | assumption | decide | ((try simp only [goS] at *) <;> (try intro h) <;> (try intro h') <;> (try simp only [goS] at *) <;> (try simp only [rdi, rd2i, rdy, Int.toNat_natCast, Nat.add_zero] at *) <;> (try simp only [rng]) <;> (first | assumption | omega)) | (exact due_app0 (by omega)) | (exact due_app (by omega)) | (intros; simp; done) | (intros; simp; omega)))
            | with_reducible refine Due.mk ?_
            | omega)
        · have vo2 : (c.inks.length : Int) ≤ 1 → Gq.getD 1 0 = 0 := fun hh => vo (by omega)
          repeat' (first
            | refine GZp_i_2i_y ?_ ?_ ?_ ?_ ?_ ?_ ?_ ?_
            | with_reducible first | exact BzZq.mk | refine Tw.ret ?_ | refine ImZq.i fun h => ?_ | refine IkZq.i fun hk => ?_)
          all_goals refine ⟨2, by omega, by omega, TWk.fcanon env [some 0] (by rfl) ?_⟩
          repeat' (first
            | exact sn
            | with_reducible first | exact Conj.nil | refine Conj.cons rfl ?_ | refine Conj.same ?_ | refine Conj.ask ?_ ?_
            | ((with_reducible refine Due.mk ?_); (first | with_reducible rfl | omega | assumption | decide | ((try simp only [goS] at *) <;> (try intro h) <;> (try intro h') <;> (try simp only [goS] at *) <;> (try simp only [rdi, rd2i, rdy, Int.toNat_natCast, Nat.add_zero] at *) <;> (try simp only [rng]) <;> (first | assumption | omega)) | (exact due_app0 (by omega)) | (exact due_app (by omega)) | (intros; simp; done) | (intros; simp; omega)))
            | with_reducible refine Due.mk ?_
            | omega)
        · have vo2 : (c.inks.length : Int) ≤ 2 → Gq.getD 2 0 = 0 := fun hh => vo (by omega)
          repeat' (first
            | refine GZp_i_2i_y ?_ ?_ ?_ ?_ ?_ ?_ ?_ ?_
            | with_reducible first | exact BzZq.mk | refine Tw.ret ?_ | refine ImZq.i fun h => ?_ | refine IkZq.i fun hk => ?_)
          all_goals refine ⟨3, by omega, by omega, TWk.fcanon env [some 0] (by rfl) ?_⟩
          repeat' (first
            | exact sn
            | with_reducible first | exact Conj.nil | refine Conj.cons rfl ?_ | refine Conj.same ?_ | refine Conj.ask ?_ ?_
            | ((with_reducible refine Due.mk ?_); (first | with_reducible rfl | omega | assumption | decide | ((try simp only [goS] at *) <;> (try intro h) <;> (try intro h') <;> (try simp only [goS] at *) <;> (try simp only [rdi, rd2i, rdy, Int.toNat_natCast, Nat.add_zero] at *) <;> (try simp only [rng]) <;> (first | assumption | omega)) | (exact due_app0 (by omega)) | (exact due_app (by omega)) | (intros; simp; done) | (intros; simp; omega)))
            | with_reducible refine Due.mk ?_
            | omega)
        · have vo2 : (c.inks.length : Int) ≤ 3 → Gq.getD 3 0 = 0 := fun hh => vo (by omega)
          repeat' (first
            | refine GZp_i_2i_y ?_ ?_ ?_ ?_ ?_ ?_ ?_ ?_
            | with_reducible first | exact BzZq.mk | refine Tw.ret ?_ | refine ImZq.i fun h => ?_ | refine IkZq.i fun hk => ?_)
          all_goals refine ⟨4, by omega, by omega, TWk.fcanon env [some 0] (by rfl) ?_⟩
          repeat' (first
            | exact sn
            | with_reducible first | exact Conj.nil | refine Conj.cons rfl ?_ | refine Conj.same ?_ | refine Conj.ask ?_ ?_
            | ((with_reducible refine Due.mk ?_); (first | with_reducible rfl | omega | assumption | decide | ((try simp only [goS] at *) <;> (try intro h) <;> (try intro h') <;> (try simp only [goS] at *) <;> (try simp only [rdi, rd2i, rdy, Int.toNat_natCast, Nat.add_zero] at *) <;> (try simp only [rng]) <;> (first | assumption | omega)) | (exact due_app0 (by omega)) | (exact due_app (by omega)) | (intros; simp; done) | (intros; simp; omega)))
            | with_reducible refine Due.mk ?_
            | omega)
        · have vo2 : (c.inks.length : Int) ≤ 4 → Gq.getD 4 0 = 0 := fun hh => vo (by omega)
          repeat' (first
            | refine GZp_i_2i_y ?_ ?_ ?_ ?_ ?_ ?_ ?_ ?_
            | with_reducible first | exact BzZq.mk | refine Tw.ret ?_ | refine ImZq.i fun h => ?_ | refine IkZq.i fun hk => ?_)
          all_goals refine ⟨5, by omega, by omega, TWk.fcanon env [some 0] (by rfl) ?_⟩
          repeat' (first
            | exact sn
            | with_reducible first | exact Conj.nil | refine Conj.cons rfl ?_ | refine Conj.same ?_ | refine Conj.ask ?_ ?_
            | ((with_reducible refine Due.mk ?_); (first | with_reducible rfl | omega | assumption | decide | ((try simp only [goS] at *) <;> (try intro h) <;> (try intro h') <;> (try simp only [goS] at *) <;> (try simp only [rdi, rd2i, rdy, Int.toNat_natCast, Nat.add_zero] at *) <;> (try simp only [rng]) <;> (first | assumption | omega)) | (exact due_app0 (by omega)) | (exact due_app (by omega)) | (intros; simp; done) | (intros; simp; omega)))
            | with_reducible refine Due.mk ?_
            | omega)
        · have vo2 : (c.inks.length : Int) ≤ 5 → Gq.getD 5 0 = 0 := fun hh => vo (by omega)
          repeat' (first
            | refine GZp_i_2i_y ?_ ?_ ?_ ?_ ?_ ?_ ?_ ?_
            | with_reducible first | exact BzZq.mk | refine Tw.ret ?_ | refine ImZq.i fun h => ?_ | refine IkZq.i fun hk => ?_)
          all_goals refine ⟨6, by omega, by omega, TWk.fcanon env [some 0] (by rfl) ?_⟩
          repeat' (first
            | exact sn
            | with_reducible first | exact Conj.nil | refine Conj.cons rfl ?_ | refine Conj.same ?_ | refine Conj.ask ?_ ?_
            | ((with_reducible refine Due.mk ?_); (first | with_reducible rfl | omega | assumption | decide | ((try simp only [goS] at *) <;> (try intro h) <;> (try intro h') <;> (try simp only [goS] at *) <;> (try simp only [rdi, rd2i, rdy, Int.toNat_natCast, Nat.add_zero] at *) <;> (try simp only [rng]) <;> (first | assumption | omega)) | (exact due_app0 (by omega)) | (exact due_app (by omega)) | (intros; simp; done) | (intros; simp; omega)))
            | with_reducible refine Due.mk ?_
            | omega)
        · have vo2 : (c.inks.length : Int) ≤ 6 → Gq.getD 6 0 = 0 := fun hh => vo (by omega)
          repeat' (first
            | refine GZp_i_2i_y ?_ ?_ ?_ ?_ ?_ ?_ ?_ ?_
            | with_reducible first | exact BzZq.mk | refine Tw.ret ?_ | refine ImZq.i fun h => ?_ | refine IkZq.i fun hk => ?_)
          all_goals refine ⟨7, by omega, by omega, TWk.fcanon env [some 0] (by rfl) ?_⟩
          repeat' (first
            | exact sn
            | with_reducible first | exact Conj.nil | refine Conj.cons rfl ?_ | refine Conj.same ?_ | refine Conj.ask ?_ ?_
            | ((with_reducible refine Due.mk ?_); (first | with_reducible rfl | omega | assumption | decide | ((try simp only [goS] at *) <;> (try intro h) <;> (try intro h') <;> (try simp only [goS] at *) <;> (try simp only [rdi, rd2i, rdy, Int.toNat_natCast, Nat.add_zero] at *) <;> (try simp only [rng]) <;> (first | assumption | omega)) | (exact due_app0 (by omega)) | (exact due_app (by omega)) | (intros; simp; done) | (intros; simp; omega)))
            | with_reducible refine Due.mk ?_
            | omega)
        · have vo2 : (c.inks.length : Int) ≤ 7 → Gq.getD 7 0 = 0 := fun hh => vo (by omega)
          repeat' (first
            | refine GZp_i_2i_y ?_ ?_ ?_ ?_ ?_ ?_ ?_ ?_
            | with_reducible first | exact BzZq.mk | refine Tw.ret ?_ | refine ImZq.i fun h => ?_ | refine IkZq.i fun hk => ?_)
          all_goals refine ⟨8, by omega, by omega, TWk.fcanon env [some 0] (by rfl) ?_⟩
          repeat' (first
            | exact sn
            | with_reducible first | exact Conj.nil | refine Conj.cons rfl ?_ | refine Conj.same ?_ | refine Conj.ask ?_ ?_
            | ((with_reducible refine Due.mk ?_); (first | with_reducible rfl | omega | assumption | decide | ((try simp only [goS] at *) <;> (try intro h) <;> (try intro h') <;> (try simp only [goS] at *) <;> (try simp only [rdi, rd2i, rdy, Int.toNat_natCast, Nat.add_zero] at *) <;> (try simp only [rng]) <;> (first | assumption | omega)) | (exact due_app0 (by omega)) | (exact due_app (by omega)) | (intros; simp; done) | (intros; simp; omega)))
            | with_reducible refine Due.mk ?_
            | omega)
        rw [← hS] at vs
        repeat' (first
          | refine GZp_i_2i_y ?_ ?_ ?_ ?_ ?_ ?_ ?_ ?_
          | with_reducible first | exact BzZq.mk | refine Tw.ret ?_ | refine ImZq.i fun h => ?_ | refine IkZq.i fun hk => ?_)
        refine ⟨1, by omega, by omega, TWk.fcanon env [some 0] (by rfl) ?_⟩
        repeat' (first
          | with_reducible first | exact Conj.nil | refine Conj.cons rfl ?_ | refine Conj.same ?_ | refine Conj.ask ?_ ?_
          | ((with_reducible refine Due.mk ?_); (first | with_reducible rfl | omega | assumption | decide | ((try simp only [goS] at *) <;> (try intro h) <;> (try intro h') <;> (try simp only [goS] at *) <;> (try simp only [rdi, rd2i, rdy, Int.toNat_natCast, Nat.add_zero] at *) <;> (try simp only [rng]) <;> (first | assumption | omega)) | (exact due_app0 (by omega)) | (exact due_app (by omega)) | (intros; simp; done) | (intros; simp; omega)))
          | with_reducible refine Due.mk ?_
          | omega)
      · repeat' (first
          | refine GZp_i_2i_y ?_ ?_ ?_ ?_ ?_ ?_ ?_ ?_
          | with_reducible first | exact BzZq.mk | refine Tw.ret ?_ | refine ImZq.i fun h => ?_ | refine IkZq.i fun hk => ?_)
        refine Tw.loopK [3, 99, 100, 103] (fun j : Nat => j ≤ 8) (fun j => 8 - j) (fun j => [(104, .int .i64 j), (17, .int .i64 (sumN (fun i => Rq.getD i 0) j))])
          (fun _ => [some (.cells [.lst Es c.inks, .lst Ei c.pr, .lst Ei c.li, .int .i64 c.ga, .int .i64 c.gb, .int .i64 c.gc, .lst Ei c.gv, .int .i64 c.ra, .int .i64 c.rb, .int .i64 c.rc, .lst Ei c.rv, .lst Es6iL2iJLiJ c.sp, .int .i64 c.tot])]) ⟨0, by omega, TWk.fcanon env [some 0] (by rfl) ?_⟩ (fun j hj => ?_)
        · repeat' (first
            | with_reducible first | exact Conj.nil | refine Conj.cons rfl ?_ | refine Conj.same ?_ | refine Conj.ask ?_ ?_
            | ((with_reducible refine Due.mk ?_); (first | with_reducible rfl | omega | assumption | decide | ((try simp only [goS] at *) <;> (try intro h) <;> (try intro h') <;> (try simp only [goS] at *) <;> (try simp only [rdi, rd2i, rdy, Int.toNat_natCast, Nat.add_zero] at *) <;> (try simp only [rng]) <;> (first | assumption | omega)) | (exact due_app0 (by omega)) | (exact due_app (by omega)) | (intros; simp; done) | (intros; simp; omega)))
            | with_reducible refine Due.mk ?_
            | omega)
        have sb := sumN_bd (f := fun i => Rq.getD i 0) (k := 255) (n := j) fun i _ => vr.bd i
        have sn : sumN (fun i => Rq.getD i 0) (j + 1) = sumN (fun i => Rq.getD i 0) j + Rq.getD j 0 := rfl
        have vb := vr.bd j
        have vo := vr.out j
        have vs := vr.sum
        obtain ⟨S, hS⟩ : ∃ S, S = sumN (fun i => Rq.getD i 0) j := ⟨_, rfl⟩
        rw [← hS] at sb sn ⊢
        rcases (show j = 0 ∨ j = 1 ∨ j = 2 ∨ j = 3 ∨ j = 4 ∨ j = 5 ∨ j = 6 ∨ j = 7 ∨ j = 8 by omega) with rfl | rfl | rfl | rfl | rfl | rfl | rfl | rfl | rfl
        · have vo2 : (c.inks.length : Int) ≤ 0 → Rq.getD 0 0 = 0 := fun hh => vo (by omega)
          repeat' (first
            | refine GZp_i_2i_y ?_ ?_ ?_ ?_ ?_ ?_ ?_ ?_
            | with_reducible first | exact BzZq.mk | refine Tw.ret ?_ | refine ImZq.i fun h => ?_ | refine IkZq.i fun hk => ?_)
          all_goals refine ⟨1, by omega, by omega, TWk.fcanon env [some 0] (by rfl) ?_⟩
          repeat' (first
            | exact sn
            | with_reducible first | exact Conj.nil | refine Conj.cons rfl ?_ | refine Conj.same ?_ | refine Conj.ask ?_ ?_
            | ((with_reducible refine Due.mk ?_); (first | with_reducible rfl | omega | assumption | decide | ((try simp only [goS] at *) <;> (try intro h) <;> (try intro h') <;> (try simp only [goS] at *) <;> (try simp only [rdi, rd2i, rdy, Int.toNat_natCast, Nat.add_zero] at *) <;> (try simp only [rng]) <;> (first | assumption | omega)) | (exact due_app0 (by omega)) | (exact due_app (by omega)) | (intros; simp; done) | (intros; simp; omega)))
            | with_reducible refine Due.mk ?_
            | omega)
        · have vo2 : (c.inks.length : Int) ≤ 1 → Rq.getD 1 0 = 0 := fun hh => vo (by omega)
          repeat' (first
            | refine GZp_i_2i_y ?_ ?_ ?_ ?_ ?_ ?_ ?_ ?_
            | with_reducible first | exact BzZq.mk | refine Tw.ret ?_ | refine ImZq.i fun h => ?_ | refine IkZq.i fun hk => ?_)
          all_goals refine ⟨2, by omega, by omega, TWk.fcanon env [some 0] (by rfl) ?_⟩
          repeat' (first
            | exact sn
            | with_reducible first | exact Conj.nil | refine Conj.cons rfl ?_ | refine Conj.same ?_ | refine Conj.ask ?_ ?_
            | ((with_reducible refine Due.mk ?_); (first | with_reducible rfl | omega | assumption | decide | ((try simp only [goS] at *) <;> (try intro h) <;> (try intro h') <;> (try simp only [goS] at *) <;> (try simp only [rdi, rd2i, rdy, Int.toNat_natCast, Nat.add_zero] at *) <;> (try simp only [rng]) <;> (first | assumption | omega)) | (exact due_app0 (by omega)) | (exact due_app (by omega)) | (intros; simp; done) | (intros; simp; omega)))
            | with_reducible refine Due.mk ?_
            | omega)
        · have vo2 : (c.inks.length : Int) ≤ 2 → Rq.getD 2 0 = 0 := fun hh => vo (by omega)
          repeat' (first
            | refine GZp_i_2i_y ?_ ?_ ?_ ?_ ?_ ?_ ?_ ?_
            | with_reducible first | exact BzZq.mk | refine Tw.ret ?_ | refine ImZq.i fun h => ?_ | refine IkZq.i fun hk => ?_)
          all_goals refine ⟨3, by omega, by omega, TWk.fcanon env [some 0] (by rfl) ?_⟩
          repeat' (first
            | exact sn
            | with_reducible first | exact Conj.nil | refine Conj.cons rfl ?_ | refine Conj.same ?_ | refine Conj.ask ?_ ?_
            | ((with_reducible refine Due.mk ?_); (first | with_reducible rfl | omega | assumption | decide | ((try simp only [goS] at *) <;> (try intro h) <;> (try intro h') <;> (try simp only [goS] at *) <;> (try simp only [rdi, rd2i, rdy, Int.toNat_natCast, Nat.add_zero] at *) <;> (try simp only [rng]) <;> (first | assumption | omega)) | (exact due_app0 (by omega)) | (exact due_app (by omega)) | (intros; simp; done) | (intros; simp; omega)))
            | with_reducible refine Due.mk ?_
            | omega)
        · have vo2 : (c.inks.length : Int) ≤ 3 → Rq.getD 3 0 = 0 := fun hh => vo (by omega)
          repeat' (first
            | refine GZp_i_2i_y ?_ ?_ ?_ ?_ ?_ ?_ ?_ ?_
            | with_reducible first | exact BzZq.mk | refine Tw.ret ?_ | refine ImZq.i fun h => ?_ | refine IkZq.i fun hk => ?_)
          all_goals refine ⟨4, by omega, by omega, TWk.fcanon env [some 0] (by rfl) ?_⟩
          repeat' (first
            | exact sn
            | with_reducible first | exact Conj.nil | refine Conj.cons rfl ?_ | refine Conj.same ?_ | refine Conj.ask ?_ ?_
            | ((with_reducible refine Due.mk ?_); (first | with_reducible rfl | omega | assumption | decide | ((try simp only [goS] at *) <;> (try intro h) <;> (try intro h') <;> (try simp only [goS] at *) <;> (try simp only [rdi, rd2i, rdy, Int.toNat_natCast, Nat.add_zero] at *) <;> (try simp only [rng]) <;> (first | assumption | omega)) | (exact due_app0 (by omega)) | (exact due_app (by omega)) | (intros; simp; done) | (intros; simp; omega)))
            | with_reducible refine Due.mk ?_
            | omega)
        · have vo2 : (c.inks.length : Int) ≤ 4 → Rq.getD 4 0 = 0 := fun hh => vo (by omega)
          repeat' (first
            | refine GZp_i_2i_y ?_ ?_ ?_ ?_ ?_ ?_ ?_ ?_
            | with_reducible first | exact BzZq.mk | refine Tw.ret ?_ | refine ImZq.i fun h => ?_ | refine IkZq.i fun hk => ?_)
          all_goals refine ⟨5, by omega, by omega, TWk.fcanon env [some 0] (by rfl) ?_⟩
          repeat' (first
            | exact sn
            | with_reducible first | exact Conj.nil | refine Conj.cons rfl ?_ | refine Conj.same ?_ | refine Conj.ask ?_ ?_
            | ((with_reducible refine Due.mk ?_); (first | with_reducible rfl | omega | assumption | decide | ((try simp only [goS] at *) <;> (try intro h) <;> (try intro h') <;> (try simp only [goS] at *) <;> (try simp only [rdi, rd2i, rdy, Int.toNat_natCast, Nat.add_zero] at *) <;> (try simp only [rng]) <;> (first | assumption | omega)) | (exact due_app0 (by omega)) | (exact due_app (by omega)) | (intros; simp; done) | (intros; simp; omega)))
            | with_reducible refine Due.mk ?_
            | omega)
        · have vo2 : (c.inks.length : Int) ≤ 5 → Rq.getD 5 0 = 0 := fun hh => vo (by omega)
          repeat' (first
            | refine GZp_i_2i_y ?_ ?_ ?_ ?_ ?_ ?_ ?_ ?_
            | with_reducible first | exact BzZq.mk | refine Tw.ret ?_ | refine ImZq.i fun h => ?_ | refine IkZq.i fun hk => ?_)
          all_goals refine ⟨6, by omega, by omega, TWk.fcanon env [some 0] (by rfl) ?_⟩
          repeat' (first
            | exact sn
            | with_reducible first | exact Conj.nil | refine Conj.cons rfl ?_ | refine Conj.same ?_ | refine Conj.ask ?_ ?_
            | ((with_reducible refine Due.mk ?_); (first | with_reducible rfl | omega | assumption | decide | ((try simp only [goS] at *) <;> (try intro h) <;> (try intro h') <;> (try simp only [goS] at *) <;> (try simp only [rdi, rd2i, rdy, Int.toNat_natCast, Nat.add_zero] at *) <;> (try simp only [rng]) <;> (first | assumption | omega)) | (exact due_app0 (by omega)) | (exact due_app (by omega)) | (intros; simp; done) | (intros; simp; omega)))
            | with_reducible refine Due.mk ?_
            | omega)
        · have vo2 : (c.inks.length : Int) ≤ 6 → Rq.getD 6 0 = 0 := fun hh => vo (by omega)
          repeat' (first
            | refine GZp_i_2i_y ?_ ?_ ?_ ?_ ?_ ?_ ?_ ?_
            | with_reducible first | exact BzZq.mk | refine Tw.ret ?_ | refine ImZq.i fun h => ?_ | refine IkZq.i fun hk => ?_)
          all_goals refine ⟨7, by omega, by omega, TWk.fcanon env [some 0] (by rfl) ?_⟩
          repeat' (first
            | exact sn
            | with_reducible first | exact Conj.nil | refine Conj.cons rfl ?_ | refine Conj.same ?_ | refine Conj.ask ?_ ?_
            | ((with_reducible refine Due.mk ?_); (first | with_reducible rfl | omega | assumption | decide | ((try simp only [goS] at *) <;> (try intro h) <;> (try intro h') <;> (try simp only [goS] at *) <;> (try simp only [rdi, rd2i, rdy, Int.toNat_natCast, Nat.add_zero] at *) <;> (try simp only [rng]) <;> (first | assumption | omega)) | (exact due_app0 (by omega)) | (exact due_app (by omega)) | (intros; simp; done) | (intros; simp; omega)))
            | with_reducible refine Due.mk ?_
            | omega)
        · have vo2 : (c.inks.length : Int) ≤ 7 → Rq.getD 7 0 = 0 := fun hh => vo (by omega)
          repeat' (first
            | refine GZp_i_2i_y ?_ ?_ ?_ ?_ ?_ ?_ ?_ ?_
            | with_reducible first | exact BzZq.mk | refine Tw.ret ?_ | refine ImZq.i fun h => ?_ | refine IkZq.i fun hk => ?_)
          all_goals refine ⟨8, by omega, by omega, TWk.fcanon env [some 0] (by rfl) ?_⟩
          repeat' (first
            | exact sn
            | with_reducible first | exact Conj.nil | refine Conj.cons rfl ?_ | refine Conj.same ?_ | refine Conj.ask ?_ ?_
            | ((with_reducible refine Due.mk ?_); (first | with_reducible rfl | omega | assumption | decide | ((try simp only [goS] at *) <;> (try intro h) <;> (try intro h') <;> (try simp only [goS] at *) <;> (try simp only [rdi, rd2i, rdy, Int.toNat_natCast, Nat.add_zero] at *) <;> (try simp only [rng]) <;> (first | assumption | omega)) | (exact due_app0 (by omega)) | (exact due_app (by omega)) | (intros; simp; done) | (intros; simp; omega)))
            | with_reducible refine Due.mk ?_
            | omega)
        rw [← hS] at vs
        repeat' (first
          | refine GZp_i_2i_y ?_ ?_ ?_ ?_ ?_ ?_ ?_ ?_
          | with_reducible first | exact BzZq.mk | refine Tw.ret ?_ | refine ImZq.i fun h => ?_ | refine IkZq.i fun hk => ?_)
        refine ⟨2, by omega, by omega, TWk.fcanon env [some 0] (by rfl) ?_⟩
        repeat' (first
          | with_reducible first | exact Conj.nil | refine Conj.cons rfl ?_ | refine Conj.same ?_ | refine Conj.ask ?_ ?_
          | ((with_reducible refine Due.mk ?_); (first | with_reducible rfl | omega | assumption | decide | ((try simp only [goS] at *) <;> (try intro h) <;> (try intro h') <;> (try simp only [goS] at *) <;> (try simp only [rdi, rd2i, rdy, Int.toNat_natCast, Nat.add_zero] at *) <;> (try simp only [rng]) <;> (first | assumption | omega)) | (exact due_app0 (by omega)) | (exact due_app (by omega)) | (intros; simp; done) | (intros; simp; omega)))
          | with_reducible refine Due.mk ?_
          | omega)
      · repeat' (first
          | refine GZp_i_2i_y ?_ ?_ ?_ ?_ ?_ ?_ ?_ ?_
          | with_reducible first | exact BzZq.mk | refine Tw.ret ?_ | refine ImZq.i fun h => ?_ | refine IkZq.i fun hk => ?_)
        refine Tw.loopK [3, 99, 100, 103] (fun j : Nat => j ≤ 8) (fun j => 8 - j) (fun j => [(104, .int .i64 j), (17, .int .i64 (sumN (fun i => P.getD i 0) j))])
          (fun _ => [some (.cells [.lst Es c.inks, .lst Ei c.pr, .lst Ei c.li, .int .i64 c.ga, .int .i64 c.gb, .int .i64 c.gc, .lst Ei c.gv, .int .i64 c.ra, .int .i64 c.rb, .int .i64 c.rc, .lst Ei c.rv, .lst Es6iL2iJLiJ c.sp, .int .i64 c.tot])]) ⟨0, by omega, TWk.fcanon env [some 0] (by rfl) ?_⟩ (fun j hj => ?_)
        · repeat' (first
            | with_reducible first | exact Conj.nil | refine Conj.cons rfl ?_ | refine Conj.same ?_ | refine Conj.ask ?_ ?_
            | ((with_reducible refine Due.mk ?_); (first | with_reducible rfl | omega | assumption | decide | ((try simp only [goS] at *) <;> (try intro h) <;> (try intro h') <;> (try simp only [goS] at *) <;> (try simp only [rdi, rd2i, rdy, Int.toNat_natCast, Nat.add_zero] at *) <;> (try simp only [rng]) <;> (first | assumption | omega)) | (exact due_app0 (by omega)) | (exact due_app (by omega)) | (intros; simp; done) | (intros; simp; omega)))
            | with_reducible refine Due.mk ?_
            | omega)
        have sb := sumN_bd (f := fun i => P.getD i 0) (k := 255) (n := j) fun i _ => vp.bd i
        have sn : sumN (fun i => P.getD i 0) (j + 1) = sumN (fun i => P.getD i 0) j + P.getD j 0 := rfl
        have vb := vp.bd j
        have vo := vp.out j
        have vs := vp.sum
        obtain ⟨S, hS⟩ : ∃ S, S = sumN (fun i => P.getD i 0) j := ⟨_, rfl⟩
        rw [← hS] at sb sn ⊢
        rcases (show j = 0 ∨ j = 1 ∨ j = 2 ∨ j = 3 ∨ j = 4 ∨ j = 5 ∨ j = 6 ∨ j = 7 ∨ j = 8 by omega) with rfl | rfl | rfl | rfl | rfl | rfl | rfl | rfl | rfl
        · have vo2 : (c.inks.length : Int) ≤ 0 → P.getD 0 0 = 0 := fun hh => vo (by omega)
          repeat' (first
            | refine GZp_i_2i_y ?_ ?_ ?_ ?_ ?_ ?_ ?_ ?_
            | with_reducible first | exact BzZq.mk | refine Tw.ret ?_ | refine ImZq.i fun h => ?_ | refine IkZq.i fun hk => ?_)
          all_goals refine ⟨1, by omega, by omega, TWk.fcanon env [some 0] (by rfl) ?_⟩
          repeat' (first
            | exact sn
            | with_reducible first | exact Conj.nil | refine Conj.cons rfl ?_ | refine Conj.same ?_ | refine Conj.ask ?_ ?_
            | ((with_reducible refine Due.mk ?_); (first | with_reducible rfl | omega | assumption | decide | ((try simp only [goS] at *) <;> (try intro h) <;> (try intro h') <;> (try simp only [goS] at *) <;> (try simp only [rdi, rd2i, rdy, Int.toNat_natCast, Nat.add_zero] at *) <;> (try simp only [rng]) <;> (first | assumption | omega)) | (exact due_app0 (by omega)) | (exact due_app (by omega)) | (intros; simp; done) | (intros; simp; omega)))
            | with_reducible refine Due.mk ?_
            | omega)
        · have vo2 : (c.inks.length : Int) ≤ 1 → P.getD 1 0 = 0 := fun hh => vo (by omega)
          repeat' (first
            | refine GZp_i_2i_y ?_ ?_ ?_ ?_ ?_ ?_ ?_ ?_
            | with_reducible first | exact BzZq.mk | refine Tw.ret ?_ | refine ImZq.i fun h => ?_ | refine IkZq.i fun hk => ?_)
          all_goals refine ⟨2, by omega, by omega, TWk.fcanon env [some 0] (by rfl) ?_⟩
          repeat' (first
            | exact sn
            | with_reducible first | exact Conj.nil | refine Conj.cons rfl ?_ | refine Conj.same ?_ | refine Conj.ask ?_ ?_
            | ((with_reducible refine Due.mk ?_); (first | with_reducible rfl | omega | assumption | decide | ((try simp only [goS] at *) <;> (try intro h) <;> (try intro h') <;> (try simp only [goS] at *) <;> (try simp only [rdi, rd2i, rdy, Int.toNat_natCast, Nat.add_zero] at *) <;> (try simp only [rng]) <;> (first | assumption | omega)) | (exact due_app0 (by omega)) | (exact due_app (by omega)) | (intros; simp; done) | (intros; simp; omega)))
            | with_reducible refine Due.mk ?_
            | omega)
        · have vo2 : (c.inks.length : Int) ≤ 2 → P.getD 2 0 = 0 := fun hh => vo (by omega)
          repeat' (first
            | refine GZp_i_2i_y ?_ ?_ ?_ ?_ ?_ ?_ ?_ ?_
            | with_reducible first | exact BzZq.mk | refine Tw.ret ?_ | refine ImZq.i fun h => ?_ | refine IkZq.i fun hk => ?_)
          all_goals refine ⟨3, by omega, by omega, TWk.fcanon env [some 0] (by rfl) ?_⟩
          repeat' (first
            | exact sn
            | with_reducible first | exact Conj.nil | refine Conj.cons rfl ?_ | refine Conj.same ?_ | refine Conj.ask ?_ ?_
            | ((with_reducible refine Due.mk ?_); (first | with_reducible rfl | omega | assumption | decide | ((try simp only [goS] at *) <;> (try intro h) <;> (try intro h') <;> (try simp only [goS] at *) <;> (try simp only [rdi, rd2i, rdy, Int.toNat_natCast, Nat.add_zero] at *) <;> (try simp only [rng]) <;> (first | assumption | omega)) | (exact due_app0 (by omega)) | (exact due_app (by omega)) | (intros; simp; done) | (intros; simp; omega)))
            | with_reducible refine Due.mk ?_
            | omega)
        · have vo2 : (c.inks.length : Int) ≤ 3 → P.getD 3 0 = 0 := fun hh => vo (by omega)
          repeat' (first
            | refine GZp_i_2i_y ?_ ?_ ?_ ?_ ?_ ?_ ?_ ?_
            | with_reducible first | exact BzZq.mk | refine Tw.ret ?_ | refine ImZq.i fun h => ?_ | refine IkZq.i fun hk => ?_)
          all_goals refine ⟨4, by omega, by omega, TWk.fcanon env [some 0] (by rfl) ?_⟩
          repeat' (first
            | exact sn
            | with_reducible first | exact Conj.nil | refine Conj.cons rfl ?_ | refine Conj.same ?_ | refine Conj.ask ?_ ?_
            | ((with_reducible refine Due.mk ?_); (first | with_reducible rfl | omega | assumption | decide | ((try simp only [goS] at *) <;> (try intro h) <;> (try intro h') <;> (try simp only [goS] at *) <;> (try simp only [rdi, rd2i, rdy, Int.toNat_natCast, Nat.add_zero] at *) <;> (try simp only [rng]) <;> (first | assumption | omega)) | (exact due_app0 (by omega)) | (exact due_app (by omega)) | (intros; simp; done) | (intros; simp; omega)))
            | with_reducible refine Due.mk ?_
            | omega)
        · have vo2 : (c.inks.length : Int) ≤ 4 → P.getD 4 0 = 0 := fun hh => vo (by omega)
          repeat' (first
            | refine GZp_i_2i_y ?_ ?_ ?_ ?_ ?_ ?_ ?_ ?_
            | with_reducible first | exact BzZq.mk | refine Tw.ret ?_ | refine ImZq.i fun h => ?_ | refine IkZq.i fun hk => ?_)
          all_goals refine ⟨5, by omega, by omega, TWk.fcanon env [some 0] (by rfl) ?_⟩
          repeat' (first
            | exact sn
            | with_reducible first | exact Conj.nil | refine Conj.cons rfl ?_ | refine Conj.same ?_ | refine Conj.ask ?_ ?_
            | ((with_reducible refine Due.mk ?_); (first | with_reducible rfl | omega | assumption | decide | ((try simp only [goS] at *) <;> (try intro h) <;> (try intro h') <;> (try simp only [goS] at *) <;> (try simp only [rdi, rd2i, rdy, Int.toNat_natCast, Nat.add_zero] at *) <;> (try simp only [rng]) <;> (first | assumption | omega)) | (exact due_app0 (by omega)) | (exact due_app (by omega)) | (intros; simp; done) | (intros; simp; omega)))
            | with_reducible refine Due.mk ?_
            | omega)
        · have vo2 : (c.inks.length : Int) ≤ 5 → P.getD 5 0 = 0 := fun hh => vo (by omega)
          repeat' (first
            | refine GZp_i_2i_y ?_ ?_ ?_ ?_ ?_ ?_ ?_ ?_
            | with_reducible first | exact BzZq.mk | refine Tw.ret ?_ | refine ImZq.i fun h => ?_ | refine IkZq.i fun hk => ?_)
          all_goals refine ⟨6, by omega, by omega, TWk.fcanon env [some 0] (by rfl) ?_⟩
          repeat' (first
            | exact sn
            | with_reducible first | exact Conj.nil | refine Conj.cons rfl ?_ | refine Conj.same ?_ | refine Conj.ask ?_ ?_
            | ((with_reducible refine Due.mk ?_); (first | with_reducible rfl | omega | assumption | decide | ((try simp only [goS] at *) <;> (try intro h) <;> (try intro h') <;> (try simp only [goS] at *) <;> (try simp only [rdi, rd2i, rdy, Int.toNat_natCast, Nat.add_zero] at *) <;> (try simp only [rng]) <;> (first | assumption | omega)) | (exact due_app0 (by omega)) | (exact due_app (by omega)) | (intros; simp; done) | (intros; simp; omega)))
            | with_reducible refine Due.mk ?_
            | omega)
        · have vo2 : (c.inks.length : Int) ≤ 6 → P.getD 6 0 = 0 := fun hh => vo (by omega)
          repeat' (first
            | refine GZp_i_2i_y ?_ ?_ ?_ ?_ ?_ ?_ ?_ ?_
            | with_reducible first | exact BzZq.mk | refine Tw.ret ?_ | refine ImZq.i fun h => ?_ | refine IkZq.i fun hk => ?_)
          all_goals refine ⟨7, by omega, by omega, TWk.fcanon env [some 0] (by rfl) ?_⟩
          repeat' (first
            | exact sn
            | with_reducible first | exact Conj.nil | refine Conj.cons rfl ?_ | refine Conj.same ?_ | refine Conj.ask ?_ ?_
            | ((with_reducible refine Due.mk ?_); (first | with_reducible rfl | omega | assumption | decide | ((try simp only [goS] at *) <;> (try intro h) <;> (try intro h') <;> (try simp only [goS] at *) <;> (try simp only [rdi, rd2i, rdy, Int.toNat_natCast, Nat.add_zero] at *) <;> (try simp only [rng]) <;> (first | assumption | omega)) | (exact due_app0 (by omega)) | (exact due_app (by omega)) | (intros; simp; done) | (intros; simp; omega)))
            | with_reducible refine Due.mk ?_
            | omega)
        · have vo2 : (c.inks.length : Int) ≤ 7 → P.getD 7 0 = 0 := fun hh => vo (by omega)
          repeat' (first
            | refine GZp_i_2i_y ?_ ?_ ?_ ?_ ?_ ?_ ?_ ?_
            | with_reducible first | exact BzZq.mk | refine Tw.ret ?_ | refine ImZq.i fun h => ?_ | refine IkZq.i fun hk => ?_)
          all_goals refine ⟨8, by omega, by omega, TWk.fcanon env [some 0] (by rfl) ?_⟩
          repeat' (first
            | exact sn
            | with_reducible first | exact Conj.nil | refine Conj.cons rfl ?_ | refine Conj.same ?_ | refine Conj.ask ?_ ?_
            | ((with_reducible refine Due.mk ?_); (first | with_reducible rfl | omega | assumption | decide | ((try simp only [goS] at *) <;> (try intro h) <;> (try intro h') <;> (try simp only [goS] at *) <;> (try simp only [rdi, rd2i, rdy, Int.toNat_natCast, Nat.add_zero] at *) <;> (try simp only [rng]) <;> (first | assumption | omega)) | (exact due_app0 (by omega)) | (exact due_app (by omega)) | (intros; simp; done) | (intros; simp; omega)))
            | with_reducible refine Due.mk ?_
            | omega)
        rw [← hS] at vs
        repeat' (first
          | refine GZp_i_2i_y ?_ ?_ ?_ ?_ ?_ ?_ ?_ ?_
          | with_reducible first | exact BzZq.mk | refine Tw.ret ?_ | refine ImZq.i fun h => ?_ | refine IkZq.i fun hk => ?_)
        refine ⟨3, by omega, by omega, TWk.fcanon env [some 0] (by rfl) ?_⟩
        repeat' (first
          | with_reducible first | exact Conj.nil | refine Conj.cons rfl ?_ | refine Conj.same ?_ | refine Conj.ask ?_ ?_
          | ((with_reducible refine Due.mk ?_); (first | with_reducible rfl | omega | assumption | decide | ((try simp only [goS] at *) <;> (try intro h) <;> (try intro h') <;> (try simp only [goS] at *) <;> (try simp only [rdi, rd2i, rdy, Int.toNat_natCast, Nat.add_zero] at *) <;> (try simp only [rng]) <;> (first | assumption | omega)) | (exact due_app0 (by omega)) | (exact due_app (by omega)) | (intros; simp; done) | (intros; simp; omega)))
          | with_reducible refine Due.mk ?_
          | omega)
      · repeat' (first
          | refine GZp_i_2i_y ?_ ?_ ?_ ?_ ?_ ?_ ?_ ?_
          | with_reducible first | exact BzZq.mk | refine Tw.ret ?_ | refine ImZq.i fun h => ?_ | refine IkZq.i fun hk => ?_)
        refine Tw.loopK [3, 99, 100, 103] (fun j : Nat => j ≤ 8) (fun j => 8 - j) (fun j => [(104, .int .i64 j), (17, .int .i64 (sumN (fun i => S'.getD i 0) j))])
          (fun _ => [some (.cells [.lst Es c.inks, .lst Ei c.pr, .lst Ei c.li, .int .i64 c.ga, .int .i64 c.gb, .int .i64 c.gc, .lst Ei c.gv, .int .i64 c.ra, .int .i64 c.rb, .int .i64 c.rc, .lst Ei c.rv, .lst Es6iL2iJLiJ c.sp, .int .i64 c.tot])]) ⟨0, by omega, TWk.fcanon env [some 0] (by rfl) ?_⟩ (fun j hj => ?_)
        · repeat' (first
            | with_reducible first | exact Conj.nil | refine Conj.cons rfl ?_ | refine Conj.same ?_ | refine Conj.ask ?_ ?_
            | ((with_reducible refine Due.mk ?_); (first | with_reducible rfl | omega | assumption | decide | ((try simp only [goS] at *) <;> (try intro h) <;> (try intro h') <;> (try simp only [goS] at *) <;> (try simp only [rdi, rd2i, rdy, Int.toNat_natCast, Nat.add_zero] at *) <;> (try simp only [rng]) <;> (first | assumption | omega)) | (exact due_app0 (by omega)) | (exact due_app (by omega)) | (intros; simp; done) | (intros; simp; omega)))
            | with_reducible refine Due.mk ?_
            | omega)
        have sb := sumN_bd (f := fun i => S'.getD i 0) (k := 255) (n := j) fun i _ => vs.bd i
        have sn : sumN (fun i => S'.getD i 0) (j + 1) = sumN (fun i => S'.getD i 0) j + S'.getD j 0 := rfl
        have vb := vs.bd j
        have vo := vs.out j
        have vs := vs.sum
        obtain ⟨S, hS⟩ : ∃ S, S = sumN (fun i => S'.getD i 0) j := ⟨_, rfl⟩
        rw [← hS] at sb sn ⊢
        rcases (show j = 0 ∨ j = 1 ∨ j = 2 ∨ j = 3 ∨ j = 4 ∨ j = 5 ∨ j = 6 ∨ j = 7 ∨ j = 8 by omega) with rfl | rfl | rfl | rfl | rfl | rfl | rfl | rfl | rfl
        · have vo2 : (c.inks.length : Int) ≤ 0 → S'.getD 0 0 = 0 := fun hh => vo (by omega)
          repeat' (first
            | refine GZp_i_2i_y ?_ ?_ ?_ ?_ ?_ ?_ ?_ ?_
            | with_reducible first | exact BzZq.mk | refine Tw.ret ?_ | refine ImZq.i fun h => ?_ | refine IkZq.i fun hk => ?_)
          all_goals refine ⟨1, by omega, by omega, TWk.fcanon env [some 0] (by rfl) ?_⟩
          repeat' (first
            | exact sn
            | with_reducible first | exact Conj.nil | refine Conj.cons rfl ?_ | refine Conj.same ?_ | refine Conj.ask ?_ ?_
            | ((with_reducible refine Due.mk ?_); (first | with_reducible rfl | omega | assumption | decide | ((try simp only [goS] at *) <;> (try intro h) <;> (try intro h') <;> (try simp only [goS] at *) <;> (try simp only [rdi, rd2i, rdy, Int.toNat_natCast, Nat.add_zero] at *) <;> (try simp only [rng]) <;> (first | assumption | omega)) | (exact due_app0 (by omega)) | (exact due_app (by omega)) | (intros; simp; done) | (intros; simp; omega)))
            | with_reducible refine Due.mk ?_
            | omega)
        · have vo2 : (c.inks.length : Int) ≤ 1 → S'.getD 1 0 = 0 := fun hh => vo (by omega)
          repeat' (first
            | refine GZp_i_2i_y ?_ ?_ ?_ ?_ ?_ ?_ ?_ ?_
            | with_reducible first | exact BzZq.mk | refine Tw.ret ?_ | refine ImZq.i fun h => ?_ | refine IkZq.i fun hk => ?_)
          all_goals refine ⟨2, by omega, by omega, TWk.fcanon env [some 0] (by rfl) ?_⟩
          repeat' (first
            | exact sn
            | with_reducible first | exact Conj.nil | refine Conj.cons rfl ?_ | refine Conj.same ?_ | refine Conj.ask ?_ ?_
            | ((with_reducible refine Due.mk ?_); (first | with_reducible rfl | omega | assumption | decide | ((try simp only [goS] at *) <;> (try intro h) <;> (try intro h') <;> (try simp only [goS] at *) <;> (try simp only [rdi, rd2i, rdy, Int.toNat_natCast, Nat.add_zero] at *) <;> (try simp only [rng]) <;> (first | assumption | omega)) | (exact due_app0 (by omega)) | (exact due_app (by omega)) | (intros; simp; done) | (intros; simp; omega)))
            | with_reducible refine Due.mk ?_
            | omega)
        · have vo2 : (c.inks.length : Int) ≤ 2 → S'.getD 2 0 = 0 := fun hh => vo (by omega)
          repeat' (first
            | refine GZp_i_2i_y ?_ ?_ ?_ ?_ ?_ ?_ ?_ ?_
            | with_reducible first | exact BzZq.mk | refine Tw.ret ?_ | refine ImZq.i fun h => ?_ | refine IkZq.i fun hk => ?_)
          all_goals refine ⟨3, by omega, by omega, TWk.fcanon env [some 0] (by rfl) ?_⟩
          repeat' (first
            | exact sn
            | with_reducible first | exact Conj.nil | refine Conj.cons rfl ?_ | refine Conj.same ?_ | refine Conj.ask ?_ ?_
            | ((with_reducible refine Due.mk ?_); (first | with_reducible rfl | omega | assumption | decide | ((try simp only [goS] at *) <;> (try intro h) <;> (try intro h') <;> (try simp only [goS] at *) <;> (try simp only [rdi, rd2i, rdy, Int.toNat_natCast, Nat.add_zero] at *) <;> (try simp only [rng]) <;> (first | assumption | omega)) | (exact due_app0 (by omega)) | (exact due_app (by omega)) | (intros; simp; done) | (intros; simp; omega)))
            | with_reducible refine Due.mk ?_
            | omega)
        · have vo2 : (c.inks.length : Int) ≤ 3 → S'.getD 3 0 = 0 := fun hh => vo (by omega)
          repeat' (first
            | refine GZp_i_2i_y ?_ ?_ ?_ ?_ ?_ ?_ ?_ ?_
            | with_reducible first | exact BzZq.mk | refine Tw.ret ?_ | refine ImZq.i fun h => ?_ | refine IkZq.i fun hk => ?_)
          all_goals refine ⟨4, by omega, by omega, TWk.fcanon env [some 0] (by rfl) ?_⟩
          repeat' (first
            | exact sn
            | with_reducible first | exact Conj.nil | refine Conj.cons rfl ?_ | refine Conj.same ?_ | refine Conj.ask ?_ ?_
            | ((with_reducible refine Due.mk ?_); (first | with_reducible rfl | omega | assumption | decide | ((try simp only [goS] at *) <;> (try intro h) <;> (try intro h') <;> (try simp only [goS] at *) <;> (try simp only [rdi, rd2i, rdy, Int.toNat_natCast, Nat.add_zero] at *) <;> (try simp only [rng]) <;> (first | assumption | omega)) | (exact due_app0 (by omega)) | (exact due_app (by omega)) | (intros; simp; done) | (intros; simp; omega)))
            | with_reducible refine Due.mk ?_
            | omega)
        · have vo2 : (c.inks.length : Int) ≤ 4 → S'.getD 4 0 = 0 := fun hh => vo (by omega)
          repeat' (first
            | refine GZp_i_2i_y ?_ ?_ ?_ ?_ ?_ ?_ ?_ ?_
            | with_reducible first | exact BzZq.mk | refine Tw.ret ?_ | refine ImZq.i fun h => ?_ | refine IkZq.i fun hk => ?_)
          all_goals refine ⟨5, by omega, by omega, TWk.fcanon env [some 0] (by rfl) ?_⟩
          repeat' (first
            | exact sn
            | with_reducible first | exact Conj.nil | refine Conj.cons rfl ?_ | refine Conj.same ?_ | refine Conj.ask ?_ ?_
            | ((with_reducible refine Due.mk ?_); (first | with_reducible rfl | omega | assumption | decide | ((try simp only [goS] at *) <;> (try intro h) <;> (try intro h') <;> (try simp only [goS] at *) <;> (try simp only [rdi, rd2i, rdy, Int.toNat_natCast, Nat.add_zero] at *) <;> (try simp only [rng]) <;> (first | assumption | omega)) | (exact due_app0 (by omega)) | (exact due_app (by omega)) | (intros; simp; done) | (intros; simp; omega)))
            | with_reducible refine Due.mk ?_
            | omega)
        · have vo2 : (c.inks.length : Int) ≤ 5 → S'.getD 5 0 = 0 := fun hh => vo (by omega)
          repeat' (first
            | refine GZp_i_2i_y ?_ ?_ ?_ ?_ ?_ ?_ ?_ ?_
            | with_reducible first | exact BzZq.mk | refine Tw.ret ?_ | refine ImZq.i fun h => ?_ | refine IkZq.i fun hk => ?_)
          all_goals refine ⟨6, by omega, by omega, TWk.fcanon env [some 0] (by rfl) ?_⟩
          repeat' (first
            | exact sn
            | with_reducible first | exact Conj.nil | refine Conj.cons rfl ?_ | refine Conj.same ?_ | refine Conj.ask ?_ ?_
            | ((with_reducible refine Due.mk ?_); (first | with_reducible rfl | omega | assumption | decide | ((try simp only [goS] at *) <;> (try intro h) <;> (try intro h') <;> (try simp only [goS] at *) <;> (try simp only [rdi, rd2i, rdy, Int.toNat_natCast, Nat.add_zero] at *) <;> (try simp only [rng]) <;> (first | assumption | omega)) | (exact due_app0 (by omega)) | (exact due_app (by omega)) | (intros; simp; done) | (intros; simp; omega)))
            | with_reducible refine Due.mk ?_
            | omega)
        · have vo2 : (c.inks.length : Int) ≤ 6 → S'.getD 6 0 = 0 := fun hh => vo (by omega)
          repeat' (first
            | refine GZp_i_2i_y ?_ ?_ ?_ ?_ ?_ ?_ ?_ ?_
            | with_reducible first | exact BzZq.mk | refine Tw.ret ?_ | refine ImZq.i fun h => ?_ | refine IkZq.i fun hk => ?_)
          all_goals refine ⟨7, by omega, by omega, TWk.fcanon env [some 0] (by rfl) ?_⟩
          repeat' (first
            | exact sn
            | with_reducible first | exact Conj.nil | refine Conj.cons rfl ?_ | refine Conj.same ?_ | refine Conj.ask ?_ ?_
            | ((with_reducible refine Due.mk ?_); (first | with_reducible rfl | omega | assumption | decide | ((try simp only [goS] at *) <;> (try intro h) <;> (try intro h') <;> (try simp only [goS] at *) <;> (try simp only [rdi, rd2i, rdy, Int.toNat_natCast, Nat.add_zero] at *) <;> (try simp only [rng]) <;> (first | assumption | omega)) | (exact due_app0 (by omega)) | (exact due_app (by omega)) | (intros; simp; done) | (intros; simp; omega)))
            | with_reducible refine Due.mk ?_
            | omega)
        · have vo2 : (c.inks.length : Int) ≤ 7 → S'.getD 7 0 = 0 := fun hh => vo (by omega)
          repeat' (first
            | refine GZp_i_2i_y ?_ ?_ ?_ ?_ ?_ ?_ ?_ ?_
            | with_reducible first | exact BzZq.mk | refine Tw.ret ?_ | refine ImZq.i fun h => ?_ | refine IkZq.i fun hk => ?_)
          all_goals refine ⟨8, by omega, by omega, TWk.fcanon env [some 0] (by rfl) ?_⟩
          repeat' (first
            | exact sn
            | with_reducible first | exact Conj.nil | refine Conj.cons rfl ?_ | refine Conj.same ?_ | refine Conj.ask ?_ ?_
            | ((with_reducible refine Due.mk ?_); (first | with_reducible rfl | omega | assumption | decide | ((try simp only [goS] at *) <;> (try intro h) <;> (try intro h') <;> (try simp only [goS] at *) <;> (try simp only [rdi, rd2i, rdy, Int.toNat_natCast, Nat.add_zero] at *) <;> (try simp only [rng]) <;> (first | assumption | omega)) | (exact due_app0 (by omega)) | (exact due_app (by omega)) | (intros; simp; done) | (intros; simp; omega)))
            | with_reducible refine Due.mk ?_
            | omega)
        rw [← hS] at vs
        repeat' (first
          | refine GZp_i_2i_y ?_ ?_ ?_ ?_ ?_ ?_ ?_ ?_
          | with_reducible first | exact BzZq.mk | refine Tw.ret ?_ | refine ImZq.i fun h => ?_ | refine IkZq.i fun hk => ?_)
        refine ⟨4, by omega, by omega, TWk.fcanon env [some 0] (by rfl) ?_⟩
        repeat' (first
          | with_reducible first | exact Conj.nil | refine Conj.cons rfl ?_ | refine Conj.same ?_ | refine Conj.ask ?_ ?_
          | ((with_reducible refine Due.mk ?_); (first | with_reducible rfl | omega | assumption | decide | ((try simp only [goS] at *) <;> (try intro h) <;> (try intro h') <;> (try simp only [goS] at *) <;> (try simp only [rdi, rd2i, rdy, Int.toNat_natCast, Nat.add_zero] at *) <;> (try simp only [rng]) <;> (first | assumption | omega)) | (exact due_app0 (by omega)) | (exact due_app (by omega)) | (intros; simp; done) | (intros; simp; omega)))
          | with_reducible refine Due.mk ?_
          | omega)
      · repeat' (first
          | refine GZp_i_2i_y ?_ ?_ ?_ ?_ ?_ ?_ ?_ ?_
          | with_reducible first | exact BzZq.mk | refine Tw.ret ?_ | refine ImZq.i fun h => ?_ | refine IkZq.i fun hk => ?_)
        exact ⟨rfl, rfl, rfl⟩
    · have gc := gray_n c x0 w h0
      have rc := rgb_n c x0 x1 x2 w h0
      have pc := process_n c x0 x1 x2 x3 w h0
      have sc := spot_n c nm x3 w h0
      repeat' (first
        | ((with_reducible refine TOps.any ?_); refine TOps.callV env (by rfl) (by rfl) (by rfl) (condWorks_c) ?_)
        | ((with_reducible refine TOps.any ?_); refine TOps.callV env (by rfl) (by rfl) (by rfl) (gc) ?_)
        | ((with_reducible refine TOps.any ?_); refine TOps.callV env (by rfl) (by rfl) (by rfl) (rc) ?_)
        | ((with_reducible refine TOps.any ?_); refine TOps.callV env (by rfl) (by rfl) (by rfl) (pc) ?_)
        | ((with_reducible refine TOps.any ?_); refine TOps.callV env (by rfl) (by rfl) (by rfl) (sc) ?_)
        | ((with_reducible refine TOps.any ?_); refine TOps.callV env (by rfl) (by rfl) (by rfl) (k) ?_)
        | refine GZp_i_2i_y ?_ ?_ ?_ ?_ ?_ ?_ ?_ ?_
        | with_reducible first | exact BzZq.mk | refine Tw.ret ?_ | refine ImZq.i fun h => ?_ | refine IkZq.i fun hk => ?_)
      all_goals exact ⟨rfl, congrArg TV.bool (by simp [h0]), rfl⟩
  subst hc
  exact main
end Go.Proofs.Ytogbkhopanaoiaa
