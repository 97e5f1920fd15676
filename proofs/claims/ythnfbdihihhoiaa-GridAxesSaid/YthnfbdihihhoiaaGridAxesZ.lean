/- The law GridAxes: exchanging the first two axes of a grid and of the inputs changes nothing. -/
import Derived.Test.YthnfbdihihhoiaaGrid5
import Derived.Test.YthnfbdihihhoiaaGridW
import Derived.Test.YthnfbdihihhoiaaRInts
import Derived.Test.YthnfbdihihhoiaaXGridAxes0
namespace Go.Proofs.Ythnfbdihihhoiaa
open Go Go.Lite
set_option linter.unusedVariables false
set_option linter.unusedSimpArgs false
set_option maxRecDepth 100000
set_option maxHeartbeats 4000000
-- @simp rdi

/-- The first two exchanged. -/
def sw {α : Type} (y : Nat → α) (i : Nat) : α := if i = 0 then y 1 else if i = 1 then y 0 else y i
theorem sw_sw {α : Type} (y : Nat → α) (i : Nat) : sw (sw y) i = y i := by
  unfold sw
  by_cases h0 : i = 0
  · subst h0; simp
  · by_cases h1 : i = 1
    · subst h1; simp
    · simp [h0, h1]
theorem sw_lt {s inn : Nat} {y : Nat → Nat} (h2 : 2 ≤ inn) (h : ∀ i, i < inn → y i < s) : ∀ i, i < inn → sw y i < s := fun i hi => by
  unfold sw
  split
  · exact h 1 (by omega)
  · split
    · exact h 0 (by omega)
    · exact h i hi
/-- Where the values of node n go. -/
def swn (s inn n : Nat) : Nat := ndx s 0 (tab inn (sw (dg s inn n)))
theorem swn_lt {s inn n : Nat} (hs : 0 < s) (h2 : 2 ≤ inn) : swn s inn n < s ^ inn := ndx_in (sw_lt h2 fun _ _ => dg_lt hs)
theorem swn_inj {s inn m n : Nat} (hs : 0 < s) (h2 : 2 ≤ inn) (hm : m < s ^ inn) (hn : n < s ^ inn) (h : swn s inn m = swn s inn n) : m = n := by
  have e : ∀ i, i < inn → dg s inn m i = dg s inn n i := fun i hi => by
    have a := dg_ndx (inn := inn) (y := sw (dg s inn m)) hs (sw_lt h2 fun _ _ => dg_lt hs)
    have b := dg_ndx (inn := inn) (y := sw (dg s inn n)) hs (sw_lt h2 fun _ _ => dg_lt hs)
    have key : ∀ i, i < inn → sw (dg s inn m) i = sw (dg s inn n) i := fun i hi => by
      rw [← a i hi, ← b i hi]
      unfold swn at h
      rw [h]
    have k0 := key 0 (by omega)
    have k1 := key 1 (by omega)
    have ki := key i hi
    unfold sw at k0 k1 ki
    simp at k0 k1
    by_cases h0 : i = 0
    · subst h0; exact k1
    · by_cases h1 : i = 1
      · subst h1; exact k0
      · simpa [h0, h1] using ki
  rw [← ndx_dg hs hm, ← ndx_dg hs hn, tab_congr e]
theorem swn_ndx {s inn : Nat} {y : Nat → Nat} (hs : 0 < s) (h2 : 2 ≤ inn) (h : ∀ i, i < inn → y i < s) : swn s inn (ndx s 0 (tab inn y)) = ndx s 0 (tab inn (sw y)) := by
  unfold swn
  congr 1
  refine tab_congr fun i hi => ?_
  have e := dg_ndx hs h
  unfold sw
  split
  · exact e 1 (by omega)
  · split
    · exact e 0 (by omega)
    · exact e i hi
/-- The values of the first n nodes have been copied. -/
structure Cpd (vals : List Int) (inn out s n : Nat) (H : List Int) : Prop where
  len : H.length = vals.length
  bd : ∀ v ∈ H, -32768 ≤ v ∧ v ≤ 65535
  at_ : ∀ m, m < n → ∀ o, o < out → H.getD (swn s inn m * out + o) 0 = vals.getD (m * out + o) 0
theorem cpd_graw {vals : List Int} {inn out s : Nat} {H : List Int} (g : GOk inn out s vals) (h2 : 2 ≤ inn) (h : Cpd vals inn out s (s ^ inn) H) {x : Nat → Nat} (hx : ∀ i, i < inn → x i ≤ 65280) {o : Nat} (ho : o < out) :
    graw H out s (gstep s) o (tab inn (sw x)) = graw vals out s (gstep s) o (tab inn x) := by
  obtain ⟨st1, st2, st3⟩ := g.step
  have hs : 2 ≤ s := by have := g.s1; omega
  unfold graw
  refine sumN_congr fun t ht => ?_
  have e : ∀ x : Nat → Nat, (tab inn x).map (fun x => (x + t) / gstep s) = tab inn fun i => (x i + t) / gstep s := fun x => by simp [tab, List.map_map, Function.comp]
  rw [e, e]
  have e2 : (tab inn fun i => (sw x i + t) / gstep s) = tab inn (sw fun i => (x i + t) / gstep s) := tab_congr fun i _ => by
    unfold sw; split
    · rfl
    · split <;> rfl
  rw [e2]
  have hy : ∀ i, i < inn → (x i + t) / gstep s < s := fun i hi => by
    have := hx i hi
    refine Nat.lt_of_le_of_lt (Nat.div_le_div_right (c := gstep s) (show x i + t ≤ (s - 1) * gstep s + (gstep s - 1) by omega)) ?_
    rw [Nat.mul_comm, Nat.mul_add_div (by omega), Nat.div_eq_of_lt (show gstep s - 1 < gstep s by omega)]
    omega
  have := h.at_ (ndx s 0 (tab inn fun i => (x i + t) / gstep s)) (ndx_in hy) o ho
  rw [swn_ndx (by omega) h2 hy] at this
  exact this

theorem GridAxes_law (a b c : Int) (vals l : List Int) (_ : rng .i64 a) (_ : rng .i64 b) (_ : rng .i64 c) (wv : vals.length ≤ 9223372036854775807 ∧ ∀ y ∈ vals, Wi y) (wl : l.length ≤ 9223372036854775807 ∧ ∀ y ∈ l, Wi y) :
    TC R Try.prog K2_GridAxes_f [.agg [.int .i64 a, .int .i64 b, .int .i64 c, .lst Ei vals], .lst Ei l] [] (fun v X => v = .bool true ∧ X = []) := by
  refine tc0 env K2_GridAxes_s (by rfl) ?_
  dsimp only [K2_GridAxes_c]
  by_cases hc : chkE a b c vals = 0 ∧ inpE a l = 0
  · obtain ⟨hc, hi⟩ := hc
    obtain ⟨inn, out, s, rfl, rfl, rfl, g⟩ := chk_ok hc
    obtain ⟨xs, rfl, hx1, hx2⟩ := inp_nat hi
    have hx1 : xs.length = inn := by omega
    have sc := gscaled_ok inn out s vals xs g ⟨hx1, fun i hi => hx2 i (by omega)⟩
    by_cases h2 : 2 ≤ inn
    · have gi := g.i1
      have go := g.o1
      have gs : 2 ≤ s ∧ s ≤ 9 := by have := g.s1; omega
      have glen := g.len
      have gbig := g.big
      have q1 : quo (vals.length : Int) (out : Int) = ((s ^ inn : Nat) : Int) := by
        rw [quo_nn (by omega), glen]
        simp only [Int.natCast_mul]
        exact Int.mul_ediv_cancel _ (by omega)
      have q2 : s ^ inn ≤ 32768 := Nat.le_trans (Nat.le_mul_of_pos_right _ (by omega)) gbig
      have q3 : rng .i64 (quo (vals.length : Int) (out : Int)) := by rw [q1]; simp only [rng]; omega
      repeat' (first
        | ((with_reducible refine TOps.any ?_); refine TOps.callV env (by rfl) (by rfl) (by rfl) (gridWorks_c) ?_)
        | ((with_reducible refine TOps.any ?_); refine TOps.callV env (by rfl) (by rfl) (by rfl) (sc) ?_)
        | exact q3
        | with_reducible first | refine Tw.seq ?_ | refine Tw.reg ?_ | refine Tw.block ?_ | refine Tw.scope ?_ | refine Tw.skip ?_ | refine Tw.exit ?_ | refine Tw.ret ?_ | refine seqN ?_ | refine seqR ?_ | refine seqE ?_ | refine blkN ?_ | refine blkR ?_ | refine blkE1 ?_ | refine blkE0 (by kernel_rfl) ?_ | refine scpN ?_ | refine scpR ?_ | refine scpE ?_ | refine TOps.nil ?_ | exact Conj.nil | refine Conj.cons rfl ?_ | refine Conj.same ?_ | refine Conj.ask ?_ ?_ | refine Tw.regd env ?_ | refine TDr.nil ⟨by kernel_rfl, ?_⟩
        | ((with_reducible refine TOps.any ?_); first | refine TOps.frunP env (by rfl) (by rfl) ?_ ?_ | (refine TOps.known (by rfl) ?_; refine TOps.strip env (by rfl) (by rfl) ?_ ?_))
        | ((with_reducible refine TDr.any ?_); refine TDr.frunP env (by rfl) (by rfl) ?_ ?_)
        | ((with_reducible refine Tw.any ?_); first | refine Tw.condT (by rfl) ?_ | refine Tw.condF (by rfl) ?_)
        | ((first | ((with_reducible refine TOps.any ?_); (fail_if_success refine TOps.known (by rfl) ?_); refine TOps.ask (by rfl) (fun h => ?_) (fun h => ?_)) | ((with_reducible refine TDr.any ?_); (fail_if_success refine TDr.known (by first | rfl | assumption) ?_); refine TDr.ask (by rfl) (fun h hk => ?_) (fun h => ?_)) | ((with_reducible refine Tw.any ?_); refine Tw.cond (by rfl) (fun h => ?_) (fun h => ?_))) <;> (try simp only [goS] at h) <;> (try simp only [rdi, Int.toNat_natCast, Nat.add_zero] at h) <;> (try (exfalso; (try simp only [goP, reduceCtorEq] at h) <;> (first | assumption | omega | contradiction | (rcases h with ⟨_, _⟩ <;> first | contradiction | omega) | (rcases h with h | h <;> first | contradiction | omega)))))
        | ((with_reducible refine tret.any ?_); first | refine tret.ok (by rfl) ?_ | refine tret.okN (by rfl) ?_)
        | ((with_reducible refine Due.mk ?_); (first | with_reducible rfl | omega | assumption | decide | ((try simp only [goS] at *) <;> (try intro h) <;> (try intro h') <;> (try simp only [goS] at *) <;> (try simp only [rdi, Int.toNat_natCast, Nat.add_zero] at *) <;> (try simp only [rng]) <;> (first | assumption | omega)) | (exact due_app0 (by omega)) | (exact due_app (by omega)) | (intros; simp; done) | (intros; simp; omega)))
        | with_reducible refine Due.mk ?_
        | omega)
      rw [q1, Int.toNat_natCast]
      have c0 : Cpd vals inn out s 0 (List.replicate vals.length 0) := ⟨by simp, fun v hv => by rw [List.mem_replicate] at hv; omega, fun m hm => by omega⟩
      refine Tw.loopK [1, 2, 5, 7, 49] (fun q : Nat × List Int => q.1 ≤ s ^ inn ∧ Cpd vals inn out s q.1 q.2) (fun q => s ^ inn - q.1) (fun q => [(50, .int .i64 q.1)])
        (fun q => [some (.cells [.int .i64 inn, .int .i64 out, .int .i64 s, .lst Ei vals]), some (.cells [.int .i64 inn, .int .i64 out, .int .i64 s, .sla 1 2 0 vals.length]), some (.arr Ei q.2)])
        ⟨(0, List.replicate vals.length 0), ⟨by dsimp only; omega, c0⟩, TWk.fcanon env [some 0, some 1, some 2] (by rfl) ?_⟩ (fun q hq => ?_)
      · repeat' (first
          | with_reducible first | refine Tw.seq ?_ | refine Tw.reg ?_ | refine Tw.block ?_ | refine Tw.scope ?_ | refine Tw.skip ?_ | refine Tw.exit ?_ | refine Tw.ret ?_ | refine seqN ?_ | refine seqR ?_ | refine seqE ?_ | refine blkN ?_ | refine blkR ?_ | refine blkE1 ?_ | refine blkE0 (by kernel_rfl) ?_ | refine scpN ?_ | refine scpR ?_ | refine scpE ?_ | refine TOps.nil ?_ | exact Conj.nil | refine Conj.cons rfl ?_ | refine Conj.same ?_ | refine Conj.ask ?_ ?_ | refine Tw.regd env ?_ | refine TDr.nil ⟨by kernel_rfl, ?_⟩
          | ((with_reducible refine TOps.any ?_); first | refine TOps.frunP env (by rfl) (by rfl) ?_ ?_ | (refine TOps.known (by rfl) ?_; refine TOps.strip env (by rfl) (by rfl) ?_ ?_))
          | ((with_reducible refine TDr.any ?_); refine TDr.frunP env (by rfl) (by rfl) ?_ ?_)
          | ((with_reducible refine Tw.any ?_); first | refine Tw.condT (by rfl) ?_ | refine Tw.condF (by rfl) ?_)
          | ((first | ((with_reducible refine TOps.any ?_); (fail_if_success refine TOps.known (by rfl) ?_); refine TOps.ask (by rfl) (fun h => ?_) (fun h => ?_)) | ((with_reducible refine TDr.any ?_); (fail_if_success refine TDr.known (by first | rfl | assumption) ?_); refine TDr.ask (by rfl) (fun h hk => ?_) (fun h => ?_)) | ((with_reducible refine Tw.any ?_); refine Tw.cond (by rfl) (fun h => ?_) (fun h => ?_))) <;> (try simp only [goS] at h) <;> (try simp only [rdi, Int.toNat_natCast, Nat.add_zero] at h))
          | ((with_reducible refine tret.any ?_); first | refine tret.ok (by rfl) ?_ | refine tret.okN (by rfl) ?_)
          | ((with_reducible refine Due.mk ?_); (first | with_reducible rfl | omega | assumption | decide | ((try simp only [goS] at *) <;> (try intro h) <;> (try intro h') <;> (try simp only [goS] at *) <;> (try simp only [rdi, Int.toNat_natCast, Nat.add_zero] at *) <;> (try simp only [rng]) <;> (first | assumption | omega)) | (exact due_app0 (by omega)) | (exact due_app (by omega)) | (intros; simp; done) | (intros; simp; omega)))
          | with_reducible refine Due.mk ?_
          | omega)
      obtain ⟨n, H⟩ := q
      dsimp only at hq ⊢
      obtain ⟨hn, hC⟩ := hq
      rcases Nat.lt_or_ge n (s ^ inn) with hn | hn
      · have ri := rIndex_r inn out s vals n (by unfold Due; omega) (by unfold Due; omega)
        have hy : ∀ i, i < inn → sw (dg s inn n) i < s := sw_lt h2 fun _ _ => dg_lt (by omega)
        have hN := swn_lt (s := s) (inn := inn) (n := n) (by omega) h2
        have yl : (tab inn fun i => ((dg s inn n i : Nat) : Int)).length = inn := tab_len
        have y0 : (tab inn fun i => ((dg s inn n i : Nat) : Int)).getD 0 0 = ((dg s inn n 0 : Nat) : Int) := tab_get (by omega)
        have y1 : (tab inn fun i => ((dg s inn n i : Nat) : Int)).getD 1 0 = ((dg s inn n 1 : Nat) : Int) := tab_get (by omega)
        have ys : ((tab inn fun i => ((dg s inn n i : Nat) : Int)).set 0 ((tab inn fun i => ((dg s inn n i : Nat) : Int)).getD 1 0)).set 1 ((tab inn fun i => ((dg s inn n i : Nat) : Int)).getD 0 0) = tab inn fun i => ((sw (dg s inn n) i : Nat) : Int) := by
          rw [y0, y1, tab_set, tab_set]
          refine tab_congr fun i _ => ?_
          unfold sw
          by_cases h0 : i = 0
          · subst h0; simp
          · by_cases h1 : i = 1
            · subst h1; simp
            · simp [h0, h1]
        repeat' (first
          | ((with_reducible refine TOps.any ?_); refine TOps.callV env (by rfl) (by rfl) (by rfl) (ri) ?_)
          | with_reducible first | refine Tw.seq ?_ | refine Tw.reg ?_ | refine Tw.block ?_ | refine Tw.scope ?_ | refine Tw.skip ?_ | refine Tw.exit ?_ | refine Tw.ret ?_ | refine seqN ?_ | refine seqR ?_ | refine seqE ?_ | refine blkN ?_ | refine blkR ?_ | refine blkE1 ?_ | refine blkE0 (by kernel_rfl) ?_ | refine scpN ?_ | refine scpR ?_ | refine scpE ?_ | refine TOps.nil ?_ | exact Conj.nil | refine Conj.cons rfl ?_ | refine Conj.same ?_ | refine Conj.ask ?_ ?_ | refine Tw.regd env ?_ | refine TDr.nil ⟨by kernel_rfl, ?_⟩
          | ((with_reducible refine TOps.any ?_); first | refine TOps.frunP env (by rfl) (by rfl) ?_ ?_ | (refine TOps.known (by rfl) ?_; refine TOps.strip env (by rfl) (by rfl) ?_ ?_))
          | ((with_reducible refine TDr.any ?_); refine TDr.frunP env (by rfl) (by rfl) ?_ ?_)
          | ((with_reducible refine Tw.any ?_); first | refine Tw.condT (by rfl) ?_ | refine Tw.condF (by rfl) ?_)
          | ((first | ((with_reducible refine TOps.any ?_); (fail_if_success refine TOps.known (by rfl) ?_); refine TOps.ask (by rfl) (fun h => ?_) (fun h => ?_)) | ((with_reducible refine TDr.any ?_); (fail_if_success refine TDr.known (by first | rfl | assumption) ?_); refine TDr.ask (by rfl) (fun h hk => ?_) (fun h => ?_)) | ((with_reducible refine Tw.any ?_); refine Tw.cond (by rfl) (fun h => ?_) (fun h => ?_))) <;> (try simp only [goS] at h) <;> (try simp only [rdi, yl, List.length_set, Int.toNat_natCast, Nat.add_zero] at h) <;> (try (exfalso; (try simp only [goP, reduceCtorEq] at h) <;> (first | assumption | omega | contradiction | (rcases h with ⟨_, _⟩ <;> first | contradiction | omega) | (rcases h with h | h <;> first | contradiction | omega)))))
          | ((with_reducible refine tret.any ?_); first | refine tret.ok (by rfl) ?_ | refine tret.okN (by rfl) ?_)
          | ((with_reducible refine Due.mk ?_); (first | with_reducible rfl | omega | assumption | decide | ((try simp only [goS] at *) <;> (try intro h) <;> (try intro h') <;> (try simp only [goS] at *) <;> (try simp only [rdi, yl, List.length_set, Int.toNat_natCast, Nat.add_zero] at *) <;> (try simp only [rng]) <;> (first | assumption | omega)) | (exact due_app0 (by omega)) | (exact due_app (by omega)) | (intros; simp; done) | (intros; simp; omega)))
          | with_reducible refine Due.mk ?_
          | omega)
        have sl : (tab inn fun i => ((sw (dg s inn n) i : Nat) : Int)).length = inn := tab_len
        have sg : ∀ i, i < inn → (tab inn fun i => ((sw (dg s inn n) i : Nat) : Int)).getD i 0 = ((sw (dg s inn n) i : Nat) : Int) := fun i hi => tab_get hi
        refine Tw.loopK [1, 2, 5, 7, 8, 49, 50, 66, 67] (fun i : Nat => i ≤ inn) (fun i => inn - i) (fun i => [(68, .int .i64 i), (10, .int .i64 ((ndx s 0 (tab i (sw (dg s inn n))) : Nat) : Int))])
          (fun _ => [some (.cells [.int .i64 inn, .int .i64 out, .int .i64 s, .lst Ei vals]), some (.cells [.int .i64 inn, .int .i64 out, .int .i64 s, .sla 1 2 0 vals.length]), some (.arr Ei H), some (.arr Ei (tab inn fun i => ((sw (dg s inn n) i : Nat) : Int)))])
          ⟨0, by omega, TWk.fcanon env [some 0, some 1, some 2, some 3] (by rfl) ?_⟩ (fun i hi => ?_)
        · repeat' (first
            | exact ys.symm
            | with_reducible first | refine Tw.seq ?_ | refine Tw.reg ?_ | refine Tw.block ?_ | refine Tw.scope ?_ | refine Tw.skip ?_ | refine Tw.exit ?_ | refine Tw.ret ?_ | refine seqN ?_ | refine seqR ?_ | refine seqE ?_ | refine blkN ?_ | refine blkR ?_ | refine blkE1 ?_ | refine blkE0 (by kernel_rfl) ?_ | refine scpN ?_ | refine scpR ?_ | refine scpE ?_ | refine TOps.nil ?_ | exact Conj.nil | refine Conj.cons rfl ?_ | refine Conj.same ?_ | refine Conj.ask ?_ ?_ | refine Tw.regd env ?_ | refine TDr.nil ⟨by kernel_rfl, ?_⟩
            | ((with_reducible refine TOps.any ?_); first | refine TOps.frunP env (by rfl) (by rfl) ?_ ?_ | (refine TOps.known (by rfl) ?_; refine TOps.strip env (by rfl) (by rfl) ?_ ?_))
            | ((with_reducible refine TDr.any ?_); refine TDr.frunP env (by rfl) (by rfl) ?_ ?_)
            | ((with_reducible refine Tw.any ?_); first | refine Tw.condT (by rfl) ?_ | refine Tw.condF (by rfl) ?_)
            | ((first | ((with_reducible refine TOps.any ?_); (fail_if_success refine TOps.known (by rfl) ?_); refine TOps.ask (by rfl) (fun h => ?_) (fun h => ?_)) | ((with_reducible refine TDr.any ?_); (fail_if_success refine TDr.known (by first | rfl | assumption) ?_); refine TDr.ask (by rfl) (fun h hk => ?_) (fun h => ?_)) | ((with_reducible refine Tw.any ?_); refine Tw.cond (by rfl) (fun h => ?_) (fun h => ?_))) <;> (try simp only [goS] at h) <;> (try simp only [rdi, Int.toNat_natCast, Nat.add_zero] at h))
            | ((with_reducible refine tret.any ?_); first | refine tret.ok (by rfl) ?_ | refine tret.okN (by rfl) ?_)
            | ((with_reducible refine Due.mk ?_); (first | with_reducible rfl | omega | assumption | decide | ((try simp only [goS] at *) <;> (try intro h) <;> (try intro h') <;> (try simp only [goS] at *) <;> (try simp only [rdi, Int.toNat_natCast, Nat.add_zero] at *) <;> (try simp only [rng]) <;> (first | assumption | omega)) | (exact due_app0 (by omega)) | (exact due_app (by omega)) | (intros; simp; done) | (intros; simp; omega)))
            | with_reducible refine Due.mk ?_
            | omega)
        have hb := ndx_le (s := s) (by omega) (l := tab i (sw (dg s inn n))) (n := 0) fun k hk => by
          obtain ⟨j, hj, rfl⟩ := mem_getD (d := 0) hk
          rw [tab_len] at hj
          rw [tab_get hj]
          have := hy j (by omega)
          omega
        rw [tab_len, Nat.zero_add, Nat.one_mul] at hb
        have hb2 : (10 : Nat) ^ i ≤ 10 ^ 4 := Nat.pow_le_pow_right (by omega) (by omega)
        rcases Nat.lt_or_ge i inn with hi | hi
        · have g0 := sg i hi
          have y2 := hy i hi
          have e1 : ndx s 0 (tab (i + 1) (sw (dg s inn n))) = ndx s 0 (tab i (sw (dg s inn n))) * s + sw (dg s inn n) i := by rw [tab_succ, ndx_snoc]
          have e2 : ((ndx s 0 (tab i (sw (dg s inn n))) : Nat) : Int) * (s : Int) = ((ndx s 0 (tab i (sw (dg s inn n))) * s : Nat) : Int) := by simp
          have e3 : ndx s 0 (tab i (sw (dg s inn n))) * s ≤ 10000 * 9 := Nat.mul_le_mul (by omega) (by omega)
          generalize ndx s 0 (tab i (sw (dg s inn n))) * s = z1 at *
          generalize ndx s 0 (tab i (sw (dg s inn n))) = z at *
          repeat' (first
            | with_reducible first | refine Tw.seq ?_ | refine Tw.reg ?_ | refine Tw.block ?_ | refine Tw.scope ?_ | refine Tw.skip ?_ | refine Tw.exit ?_ | refine Tw.ret ?_ | refine seqN ?_ | refine seqR ?_ | refine seqE ?_ | refine blkN ?_ | refine blkR ?_ | refine blkE1 ?_ | refine blkE0 (by kernel_rfl) ?_ | refine scpN ?_ | refine scpR ?_ | refine scpE ?_ | refine TOps.nil ?_ | exact Conj.nil | refine Conj.cons rfl ?_ | refine Conj.same ?_ | refine Conj.ask ?_ ?_ | refine Tw.regd env ?_ | refine TDr.nil ⟨by kernel_rfl, ?_⟩
            | ((with_reducible refine TOps.any ?_); first | refine TOps.frunP env (by rfl) (by rfl) ?_ ?_ | (refine TOps.known (by rfl) ?_; refine TOps.strip env (by rfl) (by rfl) ?_ ?_))
            | ((with_reducible refine TDr.any ?_); refine TDr.frunP env (by rfl) (by rfl) ?_ ?_)
            | ((with_reducible refine Tw.any ?_); first | refine Tw.condT (by rfl) ?_ | refine Tw.condF (by rfl) ?_)
            | ((first | ((with_reducible refine TOps.any ?_); (fail_if_success refine TOps.known (by rfl) ?_); refine TOps.ask (by rfl) (fun h => ?_) (fun h => ?_)) | ((with_reducible refine TDr.any ?_); (fail_if_success refine TDr.known (by first | rfl | assumption) ?_); refine TDr.ask (by rfl) (fun h hk => ?_) (fun h => ?_)) | ((with_reducible refine Tw.any ?_); refine Tw.cond (by rfl) (fun h => ?_) (fun h => ?_))) <;> (try simp only [goS] at h) <;> (try simp only [rdi, sl, g0, e2, Int.toNat_natCast, Nat.add_zero] at h) <;> (try (exfalso; (try simp only [goP, reduceCtorEq] at h) <;> (first | assumption | omega | contradiction | (rcases h with ⟨_, _⟩ <;> first | contradiction | omega) | (rcases h with h | h <;> first | contradiction | omega)))))
            | ((with_reducible refine tret.any ?_); first | refine tret.ok (by rfl) ?_ | refine tret.okN (by rfl) ?_)
            | ((with_reducible refine Due.mk ?_); (first | with_reducible rfl | omega | assumption | decide | ((try simp only [goS] at *) <;> (try intro h) <;> (try intro h') <;> (try simp only [goS] at *) <;> (try simp only [rdi, sl, g0, e2, Int.toNat_natCast, Nat.add_zero] at *) <;> (try simp only [rng]) <;> (first | assumption | omega)) | (exact due_app0 (by omega)) | (exact due_app (by omega)) | (intros; simp; done) | (intros; simp; omega)))
            | with_reducible refine Due.mk ?_
            | omega)
          refine ⟨i + 1, by omega, by omega, TWk.fcanon env [some 0, some 1, some 2, some 3] (by rfl) ?_⟩
          rw [e1]
          repeat' (first
            | with_reducible first | refine Tw.seq ?_ | refine Tw.reg ?_ | refine Tw.block ?_ | refine Tw.scope ?_ | refine Tw.skip ?_ | refine Tw.exit ?_ | refine Tw.ret ?_ | refine seqN ?_ | refine seqR ?_ | refine seqE ?_ | refine blkN ?_ | refine blkR ?_ | refine blkE1 ?_ | refine blkE0 (by kernel_rfl) ?_ | refine scpN ?_ | refine scpR ?_ | refine scpE ?_ | refine TOps.nil ?_ | exact Conj.nil | refine Conj.cons rfl ?_ | refine Conj.same ?_ | refine Conj.ask ?_ ?_ | refine Tw.regd env ?_ | refine TDr.nil ⟨by kernel_rfl, ?_⟩
            | ((with_reducible refine TOps.any ?_); first | refine TOps.frunP env (by rfl) (by rfl) ?_ ?_ | (refine TOps.known (by rfl) ?_; refine TOps.strip env (by rfl) (by rfl) ?_ ?_))
            | ((with_reducible refine TDr.any ?_); refine TDr.frunP env (by rfl) (by rfl) ?_ ?_)
            | ((with_reducible refine Tw.any ?_); first | refine Tw.condT (by rfl) ?_ | refine Tw.condF (by rfl) ?_)
            | ((first | ((with_reducible refine TOps.any ?_); (fail_if_success refine TOps.known (by rfl) ?_); refine TOps.ask (by rfl) (fun h => ?_) (fun h => ?_)) | ((with_reducible refine TDr.any ?_); (fail_if_success refine TDr.known (by first | rfl | assumption) ?_); refine TDr.ask (by rfl) (fun h hk => ?_) (fun h => ?_)) | ((with_reducible refine Tw.any ?_); refine Tw.cond (by rfl) (fun h => ?_) (fun h => ?_))) <;> (try simp only [goS] at h) <;> (try simp only [rdi, g0, e2, Int.toNat_natCast, Nat.add_zero] at h) <;> (try (exfalso; (try simp only [goP, reduceCtorEq] at h) <;> (first | assumption | omega | contradiction | (rcases h with ⟨_, _⟩ <;> first | contradiction | omega) | (rcases h with h | h <;> first | contradiction | omega)))))
            | ((with_reducible refine tret.any ?_); first | refine tret.ok (by rfl) ?_ | refine tret.okN (by rfl) ?_)
            | ((with_reducible refine Due.mk ?_); (first | with_reducible rfl | omega | assumption | decide | ((try simp only [goS] at *) <;> (try intro h) <;> (try intro h') <;> (try simp only [goS] at *) <;> (try simp only [rdi, g0, e2, Int.toNat_natCast, Nat.add_zero] at *) <;> (try simp only [rng]) <;> (first | assumption | omega)) | (exact due_app0 (by omega)) | (exact due_app (by omega)) | (intros; simp; done) | (intros; simp; omega)))
            | with_reducible refine Due.mk ?_
            | omega)
        · obtain rfl : inn = i := by omega
          have eN : ndx s 0 (tab inn (sw (dg s inn n))) = swn s inn n := rfl
          rw [eN]
          have hlen := hC.len
          have m1 : swn s inn n * out + out ≤ vals.length := by
            rw [glen]
            have := Nat.mul_le_mul_right out hN
            rwa [Nat.succ_mul] at this
          have m2 : n * out + out ≤ vals.length := by
            rw [glen]
            have := Nat.mul_le_mul_right out hn
            rwa [Nat.succ_mul] at this
          have c1 : ((swn s inn n : Nat) : Int) * (out : Int) = ((swn s inn n * out : Nat) : Int) := by simp
          have c2 : (n : Int) * (out : Int) = ((n * out : Nat) : Int) := by simp
          have c3 : ((n : Int) + 1) * (out : Int) = ((n * out + out : Nat) : Int) := by rw [Int.add_mul]; simp
          repeat' (first
            | with_reducible first | refine Tw.seq ?_ | refine Tw.reg ?_ | refine Tw.block ?_ | refine Tw.scope ?_ | refine Tw.skip ?_ | refine Tw.exit ?_ | refine Tw.ret ?_ | refine seqN ?_ | refine seqR ?_ | refine seqE ?_ | refine blkN ?_ | refine blkR ?_ | refine blkE1 ?_ | refine blkE0 (by kernel_rfl) ?_ | refine scpN ?_ | refine scpR ?_ | refine scpE ?_ | refine TOps.nil ?_ | exact Conj.nil | refine Conj.cons rfl ?_ | refine Conj.same ?_ | refine Conj.ask ?_ ?_ | refine Tw.regd env ?_ | refine TDr.nil ⟨by kernel_rfl, ?_⟩
            | ((with_reducible refine TOps.any ?_); first | refine TOps.frunP env (by rfl) (by rfl) ?_ ?_ | (refine TOps.known (by rfl) ?_; refine TOps.strip env (by rfl) (by rfl) ?_ ?_))
            | ((with_reducible refine TDr.any ?_); refine TDr.frunP env (by rfl) (by rfl) ?_ ?_)
            | ((with_reducible refine Tw.any ?_); first | refine Tw.condT (by rfl) ?_ | refine Tw.condF (by rfl) ?_)
            | ((first | ((with_reducible refine TOps.any ?_); (fail_if_success refine TOps.known (by rfl) ?_); refine TOps.ask (by rfl) (fun h => ?_) (fun h => ?_)) | ((with_reducible refine TDr.any ?_); (fail_if_success refine TDr.known (by first | rfl | assumption) ?_); refine TDr.ask (by rfl) (fun h hk => ?_) (fun h => ?_)) | ((with_reducible refine Tw.any ?_); refine Tw.cond (by rfl) (fun h => ?_) (fun h => ?_))) <;> (try simp only [goS] at h) <;> (try simp only [rdi, c1, c2, c3, Int.toNat_natCast, Nat.add_zero] at h) <;> (try (exfalso; (try simp only [goP, reduceCtorEq] at h) <;> (first | assumption | omega | contradiction | (rcases h with ⟨_, _⟩ <;> first | contradiction | omega) | (rcases h with h | h <;> first | contradiction | omega)))))
            | ((with_reducible refine tret.any ?_); first | refine tret.ok (by rfl) ?_ | refine tret.okN (by rfl) ?_)
            | ((with_reducible refine Due.mk ?_); (first | with_reducible rfl | omega | assumption | decide | ((try simp only [goS] at *) <;> (try intro h) <;> (try intro h') <;> (try simp only [goS] at *) <;> (try simp only [rdi, c1, c2, c3, Int.toNat_natCast, Nat.add_zero] at *) <;> (try simp only [rng]) <;> (first | assumption | omega)) | (exact due_app0 (by omega)) | (exact due_app (by omega)) | (intros; simp; done) | (intros; simp; omega)))
            | with_reducible refine Due.mk ?_
            | omega)
          have bl : ((vals.drop (n * out)).take out).length = out := by simp; omega
          have hsp : swn s inn n * out + ((vals.drop (n * out)).take out).length ≤ H.length := by omega
          have rowEq : spl H ((vals.drop (n * out)).take out) (swn s inn n * out) =
              H.take ((((swn s inn n : Nat) : Int) * (out : Int)).toNat + 0) ++ (((vals.drop ((n : Int) * out).toNat).take ((((n : Int) + 1) * out).toNat - ((n : Int) * out).toNat)).take (((vals.drop ((n : Int) * out).toNat).take ((((n : Int) + 1) * out).toNat - ((n : Int) * out).toNat)).length.min (vals.length - (((swn s inn n : Nat) : Int) * (out : Int)).toNat))) ++
              H.drop ((((swn s inn n : Nat) : Int) * (out : Int)).toNat + 0 + (((vals.drop ((n : Int) * out).toNat).take ((((n : Int) + 1) * out).toNat - ((n : Int) * out).toNat)).length.min (vals.length - (((swn s inn n : Nat) : Int) * (out : Int)).toNat))) := by
            rw [c1, c2, c3]
            simp only [Int.toNat_natCast, Nat.add_zero, Nat.add_sub_cancel_left, bl]
            have tt : ((vals.drop (n * out)).take out).take out = (vals.drop (n * out)).take out := List.take_of_length_le (by omega)
            rw [show out.min (vals.length - swn s inn n * out) = out from Nat.min_eq_left (by omega), tt]
            unfold spl
            rw [bl]
          refine ⟨(n + 1, spl H ((vals.drop (n * out)).take out) (swn s inn n * out)), ⟨by dsimp only; omega, ⟨by rw [spl_len hsp]; exact hlen, fun v hv => ?_, fun m hm o ho => ?_⟩⟩, by dsimp only; omega, TWk.fcanon env [some 0, some 1, some 2] (by rfl) ?_⟩
          · rcases spl_mem hv with hv | hv
            · exact hC.bd v hv
            · exact g.bd v (List.mem_of_mem_drop (List.mem_of_mem_take hv))
          · by_cases e : m = n
            · subst e
              rw [spl_in hsp (by rw [bl]; omega), getD_sub (by omega)]
              congr 1; omega
            · rw [spl_out hsp]
              · exact hC.at_ m (by omega) o ho
              · rw [bl]
                have hne : swn s inn m ≠ swn s inn n := fun h => e (swn_inj (by omega) h2 (by omega) hn h)
                rcases Nat.lt_or_gt_of_ne hne with h | h
                · have := Nat.mul_le_mul_right out h
                  rw [Nat.succ_mul] at this
                  omega
                · have := Nat.mul_le_mul_right out h
                  rw [Nat.succ_mul] at this
                  omega
          · repeat' (first
              | exact rowEq
              | with_reducible first | refine Tw.seq ?_ | refine Tw.reg ?_ | refine Tw.block ?_ | refine Tw.scope ?_ | refine Tw.skip ?_ | refine Tw.exit ?_ | refine Tw.ret ?_ | refine seqN ?_ | refine seqR ?_ | refine seqE ?_ | refine blkN ?_ | refine blkR ?_ | refine blkE1 ?_ | refine blkE0 (by kernel_rfl) ?_ | refine scpN ?_ | refine scpR ?_ | refine scpE ?_ | refine TOps.nil ?_ | exact Conj.nil | refine Conj.cons rfl ?_ | refine Conj.same ?_ | refine Conj.ask ?_ ?_ | refine Tw.regd env ?_ | refine TDr.nil ⟨by kernel_rfl, ?_⟩
              | ((with_reducible refine TOps.any ?_); first | refine TOps.frunP env (by rfl) (by rfl) ?_ ?_ | (refine TOps.known (by rfl) ?_; refine TOps.strip env (by rfl) (by rfl) ?_ ?_))
              | ((with_reducible refine TDr.any ?_); refine TDr.frunP env (by rfl) (by rfl) ?_ ?_)
              | ((with_reducible refine Tw.any ?_); first | refine Tw.condT (by rfl) ?_ | refine Tw.condF (by rfl) ?_)
              | ((first | ((with_reducible refine TOps.any ?_); (fail_if_success refine TOps.known (by rfl) ?_); refine TOps.ask (by rfl) (fun h => ?_) (fun h => ?_)) | ((with_reducible refine TDr.any ?_); (fail_if_success refine TDr.known (by first | rfl | assumption) ?_); refine TDr.ask (by rfl) (fun h hk => ?_) (fun h => ?_)) | ((with_reducible refine Tw.any ?_); refine Tw.cond (by rfl) (fun h => ?_) (fun h => ?_))) <;> (try simp only [goS] at h) <;> (try simp only [rdi, Int.toNat_natCast, Nat.add_zero] at h))
              | ((with_reducible refine tret.any ?_); first | refine tret.ok (by rfl) ?_ | refine tret.okN (by rfl) ?_)
              | ((with_reducible refine Due.mk ?_); (first | with_reducible rfl | omega | assumption | decide | ((try simp only [goS] at *) <;> (try intro h) <;> (try intro h') <;> (try simp only [goS] at *) <;> (try simp only [rdi, Int.toNat_natCast, Nat.add_zero] at *) <;> (try simp only [rng]) <;> (first | assumption | omega)) | (exact due_app0 (by omega)) | (exact due_app (by omega)) | (intros; simp; done) | (intros; simp; omega)))
              | with_reducible refine Due.mk ?_
              | omega)
      · obtain rfl : n = s ^ inn := by omega
        have ll := nz_len (l := xs)
        generalize hX : (fun i => xs.getD i 0) = x at *
        have xg : ∀ i, (nz xs).getD i 0 = ((x i : Nat) : Int) := fun i => by rw [nz_get, ← hX]
        have xe : tab inn x = xs := by
          refine (is_tab 0 hx1 fun i _ => ?_).symm
          rw [← hX]
        have xb : ∀ i, i < inn → x i ≤ 65280 := fun i hi => by rw [← hX]; exact hx2 i (by omega)
        have p0 : 0 < ([] ++ nz xs).length := by simp; omega
        have p1 : 1 < (([] ++ nz xs).set 0 ((nz xs).getD 1 0)).length := by simp; omega
        have b1 : (0 + (nz xs).length) * 8 ≤ 140737488355328 ∧ 0 + (nz xs).length ≤ 140737488355328 := by omega
        have b2 : (0 : Int) ≤ 1 ∧ 1 < ((nz xs).length : Int) := by omega
        have b3 : (0 : Int) ≤ 0 ∧ 0 < ((nz xs).length : Int) := by omega
        have b4 : (0 : Int) ≤ 0 ∧ 0 < ((0 + (nz xs).length : Nat) : Int) := by omega
        have b5 : (0 : Int) ≤ 1 ∧ 1 < ((0 + (nz xs).length : Nat) : Int) := by omega
        have hlen := hC.len
        have g2 : GOk inn out s H := ⟨g.i1, g.o1, g.s1, g.big, by rw [hlen, glen], hC.bd⟩
        have sx : ∀ i, i < inn → sw x i ≤ 65280 := fun i hi => by
          unfold sw
          split
          · exact xb 1 (by omega)
          · split
            · exact xb 0 (by omega)
            · exact xb i hi
        have sc2 := gscaled_ok inn out s H (tab inn (sw x)) g2 ⟨tab_len, fun i hi => by rw [tab_get hi]; exact sx i hi⟩
        have eArg : cut ((([] ++ nz xs).set 0 ((nz xs).getD 1 0)).set 1 ((nz xs).getD 0 0)) 0 (0 + (nz xs).length) = nz (tab inn (sw x)) := by
          rw [Nat.zero_add, List.nil_append, cut_all (by simp)]
          refine ext_getD 0 (by simp [nz_len, tab_len, hx1]) fun i hi => ?_
          simp only [List.length_set, nz_len] at hi
          rw [nz_get (l := tab inn (sw x)), tab_get (by omega)]
          by_cases h1 : i = 1
          · subst h1
            rw [getD_set_eq (by simp [nz_len]; omega), xg]; rfl
          · rw [getD_set_ne fun e => h1 e.symm]
            by_cases h0 : i = 0
            · subst h0
              rw [getD_set_eq (by rw [nz_len]; omega), xg]; rfl
            · rw [getD_set_ne fun e => h0 e.symm, xg]
              simp [sw, h0, h1]
        have eH : cut H 0 vals.length = H := cut_all hlen.symm
        have eq1 : (tab out fun o => graw H out s (gstep s) o (tab inn (sw x))) = tab out fun o => graw vals out s (gstep s) o xs := tab_congr fun o ho => by rw [cpd_graw g h2 hC xb ho, xe]
        rw [eq1, ← eArg] at sc2
        have hl1 : 0 + vals.length ≤ H.length := by omega
        have hl2 : 0 + (0 + (nz xs).length) ≤ ((([] ++ nz xs).set 0 ((nz xs).getD 1 0)).set 1 ((nz xs).getD 0 0)).length := by simp
        repeat' (first
          | exact b1
          | exact b2
          | exact b3
          | exact b4
          | exact b5
          | exact p0
          | exact p1
          | with_reducible first | refine Tw.seq ?_ | refine Tw.reg ?_ | refine Tw.block ?_ | refine Tw.scope ?_ | refine Tw.skip ?_ | refine Tw.exit ?_ | refine Tw.ret ?_ | refine seqN ?_ | refine seqR ?_ | refine seqE ?_ | refine blkN ?_ | refine blkR ?_ | refine blkE1 ?_ | refine blkE0 (by kernel_rfl) ?_ | refine scpN ?_ | refine scpR ?_ | refine scpE ?_ | refine TOps.nil ?_ | exact Conj.nil | refine Conj.cons rfl ?_ | refine Conj.same ?_ | refine Conj.ask ?_ ?_ | refine Tw.regd env ?_ | refine TDr.nil ⟨by kernel_rfl, ?_⟩
          | ((with_reducible refine TOps.any ?_); first | refine TOps.frunP env (by rfl) (by rfl) ?_ ?_ | (refine TOps.known (by rfl) ?_; refine TOps.strip env (by rfl) (by rfl) ?_ ?_))
          | ((with_reducible refine TDr.any ?_); refine TDr.frunP env (by rfl) (by rfl) ?_ ?_)
          | ((with_reducible refine Tw.any ?_); first | refine Tw.condT (by rfl) ?_ | refine Tw.condF (by rfl) ?_)
          | ((first | ((with_reducible refine TOps.any ?_); (fail_if_success refine TOps.known (by rfl) ?_); refine TOps.ask (by rfl) (fun h => ?_) (fun h => ?_)) | ((with_reducible refine TDr.any ?_); (fail_if_success refine TDr.known (by first | rfl | assumption) ?_); refine TDr.ask (by rfl) (fun h hk => ?_) (fun h => ?_)) | ((with_reducible refine Tw.any ?_); refine Tw.cond (by rfl) (fun h => ?_) (fun h => ?_))) <;> (try simp only [goS] at h) <;> (try simp only [rdi, Int.toNat_natCast, Nat.add_zero] at h) <;> (try (exfalso; (try simp only [goP, reduceCtorEq] at h) <;> (first | assumption | omega | contradiction | (rcases h with ⟨_, _⟩ <;> first | contradiction | omega) | (rcases h with h | h <;> first | contradiction | omega)))))
          | ((with_reducible refine tret.any ?_); first | refine tret.ok (by rfl) ?_ | refine tret.okN (by rfl) ?_)
          | ((with_reducible refine Due.mk ?_); (first | with_reducible rfl | omega | assumption | decide | ((try simp only [goS] at *) <;> (try intro h) <;> (try intro h') <;> (try simp only [goS] at *) <;> (try simp only [rdi, Int.toNat_natCast, Nat.add_zero] at *) <;> (try simp only [rng]) <;> (first | assumption | omega)) | (exact due_app0 (by omega)) | (exact due_app (by omega)) | (intros; simp; done) | (intros; simp; omega)))
          | with_reducible refine Due.mk ?_
          | omega)
        refine TOps.frz env 2 (by rfl) (by rfl) (by rfl) ?_ ?_ ?_
        · repeat' (first
            | exact hl1
            | with_reducible first | refine Tw.seq ?_ | refine Tw.reg ?_ | refine Tw.block ?_ | refine Tw.scope ?_ | refine Tw.skip ?_ | refine Tw.exit ?_ | refine Tw.ret ?_ | refine seqN ?_ | refine seqR ?_ | refine seqE ?_ | refine blkN ?_ | refine blkR ?_ | refine blkE1 ?_ | refine blkE0 (by kernel_rfl) ?_ | refine scpN ?_ | refine scpR ?_ | refine scpE ?_ | refine TOps.nil ?_ | exact Conj.nil | refine Conj.cons rfl ?_ | refine Conj.same ?_ | refine Conj.ask ?_ ?_ | refine Tw.regd env ?_ | refine TDr.nil ⟨by kernel_rfl, ?_⟩
            | ((with_reducible refine TOps.any ?_); first | refine TOps.frunP env (by rfl) (by rfl) ?_ ?_ | (refine TOps.known (by rfl) ?_; refine TOps.strip env (by rfl) (by rfl) ?_ ?_))
            | ((with_reducible refine TDr.any ?_); refine TDr.frunP env (by rfl) (by rfl) ?_ ?_)
            | ((with_reducible refine Tw.any ?_); first | refine Tw.condT (by rfl) ?_ | refine Tw.condF (by rfl) ?_)
            | ((first | ((with_reducible refine TOps.any ?_); (fail_if_success refine TOps.known (by rfl) ?_); refine TOps.ask (by rfl) (fun h => ?_) (fun h => ?_)) | ((with_reducible refine TDr.any ?_); (fail_if_success refine TDr.known (by first | rfl | assumption) ?_); refine TDr.ask (by rfl) (fun h hk => ?_) (fun h => ?_)) | ((with_reducible refine Tw.any ?_); refine Tw.cond (by rfl) (fun h => ?_) (fun h => ?_))) <;> (try simp only [goS] at h) <;> (try simp only [rdi, Int.toNat_natCast, Nat.add_zero] at h))
            | ((with_reducible refine tret.any ?_); first | refine tret.ok (by rfl) ?_ | refine tret.okN (by rfl) ?_)
            | ((with_reducible refine Due.mk ?_); (first | with_reducible rfl | omega | assumption | decide | ((try simp only [goS] at *) <;> (try intro h) <;> (try intro h') <;> (try simp only [goS] at *) <;> (try simp only [rdi, Int.toNat_natCast, Nat.add_zero] at *) <;> (try simp only [rng]) <;> (first | assumption | omega)) | (exact due_app0 (by omega)) | (exact due_app (by omega)) | (intros; simp; done) | (intros; simp; omega)))
            | with_reducible refine Due.mk ?_
            | omega)
        · repeat' (first
            | exact hl1
            | with_reducible first | refine Tw.seq ?_ | refine Tw.reg ?_ | refine Tw.block ?_ | refine Tw.scope ?_ | refine Tw.skip ?_ | refine Tw.exit ?_ | refine Tw.ret ?_ | refine seqN ?_ | refine seqR ?_ | refine seqE ?_ | refine blkN ?_ | refine blkR ?_ | refine blkE1 ?_ | refine blkE0 (by kernel_rfl) ?_ | refine scpN ?_ | refine scpR ?_ | refine scpE ?_ | refine TOps.nil ?_ | exact Conj.nil | refine Conj.cons rfl ?_ | refine Conj.same ?_ | refine Conj.ask ?_ ?_ | refine Tw.regd env ?_ | refine TDr.nil ⟨by kernel_rfl, ?_⟩
            | ((with_reducible refine TOps.any ?_); first | refine TOps.frunP env (by rfl) (by rfl) ?_ ?_ | (refine TOps.known (by rfl) ?_; refine TOps.strip env (by rfl) (by rfl) ?_ ?_))
            | ((with_reducible refine TDr.any ?_); refine TDr.frunP env (by rfl) (by rfl) ?_ ?_)
            | ((with_reducible refine Tw.any ?_); first | refine Tw.condT (by rfl) ?_ | refine Tw.condF (by rfl) ?_)
            | ((first | ((with_reducible refine TOps.any ?_); (fail_if_success refine TOps.known (by rfl) ?_); refine TOps.ask (by rfl) (fun h => ?_) (fun h => ?_)) | ((with_reducible refine TDr.any ?_); (fail_if_success refine TDr.known (by first | rfl | assumption) ?_); refine TDr.ask (by rfl) (fun h hk => ?_) (fun h => ?_)) | ((with_reducible refine Tw.any ?_); refine Tw.cond (by rfl) (fun h => ?_) (fun h => ?_))) <;> (try simp only [goS] at h) <;> (try simp only [rdi, Int.toNat_natCast, Nat.add_zero] at h))
            | ((with_reducible refine tret.any ?_); first | refine tret.ok (by rfl) ?_ | refine tret.okN (by rfl) ?_)
            | ((with_reducible refine Due.mk ?_); (first | with_reducible rfl | omega | assumption | decide | ((try simp only [goS] at *) <;> (try intro h) <;> (try intro h') <;> (try simp only [goS] at *) <;> (try simp only [rdi, Int.toNat_natCast, Nat.add_zero] at *) <;> (try simp only [rng]) <;> (first | assumption | omega)) | (exact due_app0 (by omega)) | (exact due_app (by omega)) | (intros; simp; done) | (intros; simp; omega)))
            | with_reducible refine Due.mk ?_
            | omega)
        refine TOps.frz env 4 (by rfl) (by rfl) (by rfl) ?_ ?_ ?_
        · repeat' (first
            | exact hl2
            | with_reducible first | refine Tw.seq ?_ | refine Tw.reg ?_ | refine Tw.block ?_ | refine Tw.scope ?_ | refine Tw.skip ?_ | refine Tw.exit ?_ | refine Tw.ret ?_ | refine seqN ?_ | refine seqR ?_ | refine seqE ?_ | refine blkN ?_ | refine blkR ?_ | refine blkE1 ?_ | refine blkE0 (by kernel_rfl) ?_ | refine scpN ?_ | refine scpR ?_ | refine scpE ?_ | refine TOps.nil ?_ | exact Conj.nil | refine Conj.cons rfl ?_ | refine Conj.same ?_ | refine Conj.ask ?_ ?_ | refine Tw.regd env ?_ | refine TDr.nil ⟨by kernel_rfl, ?_⟩
            | ((with_reducible refine TOps.any ?_); first | refine TOps.frunP env (by rfl) (by rfl) ?_ ?_ | (refine TOps.known (by rfl) ?_; refine TOps.strip env (by rfl) (by rfl) ?_ ?_))
            | ((with_reducible refine TDr.any ?_); refine TDr.frunP env (by rfl) (by rfl) ?_ ?_)
            | ((with_reducible refine Tw.any ?_); first | refine Tw.condT (by rfl) ?_ | refine Tw.condF (by rfl) ?_)
            | ((first | ((with_reducible refine TOps.any ?_); (fail_if_success refine TOps.known (by rfl) ?_); refine TOps.ask (by rfl) (fun h => ?_) (fun h => ?_)) | ((with_reducible refine TDr.any ?_); (fail_if_success refine TDr.known (by first | rfl | assumption) ?_); refine TDr.ask (by rfl) (fun h hk => ?_) (fun h => ?_)) | ((with_reducible refine Tw.any ?_); refine Tw.cond (by rfl) (fun h => ?_) (fun h => ?_))) <;> (try simp only [goS] at h) <;> (try simp only [rdi, Int.toNat_natCast, Nat.add_zero] at h))
            | ((with_reducible refine tret.any ?_); first | refine tret.ok (by rfl) ?_ | refine tret.okN (by rfl) ?_)
            | ((with_reducible refine Due.mk ?_); (first | with_reducible rfl | omega | assumption | decide | ((try simp only [goS] at *) <;> (try intro h) <;> (try intro h') <;> (try simp only [goS] at *) <;> (try simp only [rdi, Int.toNat_natCast, Nat.add_zero] at *) <;> (try simp only [rng]) <;> (first | assumption | omega)) | (exact due_app0 (by omega)) | (exact due_app (by omega)) | (intros; simp; done) | (intros; simp; omega)))
            | with_reducible refine Due.mk ?_
            | omega)
        · repeat' (first
            | exact hl2
            | with_reducible first | refine Tw.seq ?_ | refine Tw.reg ?_ | refine Tw.block ?_ | refine Tw.scope ?_ | refine Tw.skip ?_ | refine Tw.exit ?_ | refine Tw.ret ?_ | refine seqN ?_ | refine seqR ?_ | refine seqE ?_ | refine blkN ?_ | refine blkR ?_ | refine blkE1 ?_ | refine blkE0 (by kernel_rfl) ?_ | refine scpN ?_ | refine scpR ?_ | refine scpE ?_ | refine TOps.nil ?_ | exact Conj.nil | refine Conj.cons rfl ?_ | refine Conj.same ?_ | refine Conj.ask ?_ ?_ | refine Tw.regd env ?_ | refine TDr.nil ⟨by kernel_rfl, ?_⟩
            | ((with_reducible refine TOps.any ?_); first | refine TOps.frunP env (by rfl) (by rfl) ?_ ?_ | (refine TOps.known (by rfl) ?_; refine TOps.strip env (by rfl) (by rfl) ?_ ?_))
            | ((with_reducible refine TDr.any ?_); refine TDr.frunP env (by rfl) (by rfl) ?_ ?_)
            | ((with_reducible refine Tw.any ?_); first | refine Tw.condT (by rfl) ?_ | refine Tw.condF (by rfl) ?_)
            | ((first | ((with_reducible refine TOps.any ?_); (fail_if_success refine TOps.known (by rfl) ?_); refine TOps.ask (by rfl) (fun h => ?_) (fun h => ?_)) | ((with_reducible refine TDr.any ?_); (fail_if_success refine TDr.known (by first | rfl | assumption) ?_); refine TDr.ask (by rfl) (fun h hk => ?_) (fun h => ?_)) | ((with_reducible refine Tw.any ?_); refine Tw.cond (by rfl) (fun h => ?_) (fun h => ?_))) <;> (try simp only [goS] at h) <;> (try simp only [rdi, Int.toNat_natCast, Nat.add_zero] at h))
            | ((with_reducible refine tret.any ?_); first | refine tret.ok (by rfl) ?_ | refine tret.okN (by rfl) ?_)
            | ((with_reducible refine Due.mk ?_); (first | with_reducible rfl | omega | assumption | decide | ((try simp only [goS] at *) <;> (try intro h) <;> (try intro h') <;> (try simp only [goS] at *) <;> (try simp only [rdi, Int.toNat_natCast, Nat.add_zero] at *) <;> (try simp only [rng]) <;> (first | assumption | omega)) | (exact due_app0 (by omega)) | (exact due_app (by omega)) | (intros; simp; done) | (intros; simp; omega)))
            | with_reducible refine Due.mk ?_
            | omega)
        rw [eH]
        have si := sameInts_c (tab out fun o => graw vals out s (gstep s) o xs) (tab out fun o => graw vals out s (gstep s) o xs) (by unfold Due; rw [tab_len]; omega)
        repeat' (first
          | ((with_reducible refine TOps.any ?_); refine TOps.callV env (by rfl) (by rfl) (by rfl) (sc2) ?_)
          | ((with_reducible refine TOps.any ?_); refine TOps.callV env (by rfl) (by rfl) (by rfl) (si) ?_)
          | with_reducible first | refine Tw.seq ?_ | refine Tw.reg ?_ | refine Tw.block ?_ | refine Tw.scope ?_ | refine Tw.skip ?_ | refine Tw.exit ?_ | refine Tw.ret ?_ | refine seqN ?_ | refine seqR ?_ | refine seqE ?_ | refine blkN ?_ | refine blkR ?_ | refine blkE1 ?_ | refine blkE0 (by kernel_rfl) ?_ | refine scpN ?_ | refine scpR ?_ | refine scpE ?_ | refine TOps.nil ?_ | exact Conj.nil | refine Conj.cons rfl ?_ | refine Conj.same ?_ | refine Conj.ask ?_ ?_ | refine Tw.regd env ?_ | refine TDr.nil ⟨by kernel_rfl, ?_⟩
          | ((with_reducible refine TOps.any ?_); first | refine TOps.frunP env (by rfl) (by rfl) ?_ ?_ | (refine TOps.known (by rfl) ?_; refine TOps.strip env (by rfl) (by rfl) ?_ ?_))
          | ((with_reducible refine TDr.any ?_); refine TDr.frunP env (by rfl) (by rfl) ?_ ?_)
          | ((with_reducible refine Tw.any ?_); first | refine Tw.condT (by rfl) ?_ | refine Tw.condF (by rfl) ?_)
          | ((first | ((with_reducible refine TOps.any ?_); (fail_if_success refine TOps.known (by rfl) ?_); refine TOps.ask (by rfl) (fun h => ?_) (fun h => ?_)) | ((with_reducible refine TDr.any ?_); (fail_if_success refine TDr.known (by first | rfl | assumption) ?_); refine TDr.ask (by rfl) (fun h hk => ?_) (fun h => ?_)) | ((with_reducible refine Tw.any ?_); refine Tw.cond (by rfl) (fun h => ?_) (fun h => ?_))) <;> (try simp only [goS] at h) <;> (try simp only [rdi, Int.toNat_natCast, Nat.add_zero] at h) <;> (try (exfalso; (try simp only [goP, reduceCtorEq] at h) <;> (first | assumption | omega | contradiction | (rcases h with ⟨_, _⟩ <;> first | contradiction | omega) | (rcases h with h | h <;> first | contradiction | omega)))))
          | ((with_reducible refine tret.any ?_); first | refine tret.ok (by rfl) ?_ | refine tret.okN (by rfl) ?_)
          | ((with_reducible refine Due.mk ?_); (first | with_reducible rfl | omega | assumption | decide | ((try simp only [goS] at *) <;> (try intro h) <;> (try intro h') <;> (try simp only [goS] at *) <;> (try simp only [rdi, Int.toNat_natCast, Nat.add_zero] at *) <;> (try simp only [rng]) <;> (first | assumption | omega)) | (exact due_app0 (by omega)) | (exact due_app (by omega)) | (intros; simp; done) | (intros; simp; omega)))
          | with_reducible refine Due.mk ?_
          | omega)
        exact ⟨rfl, congrArg TV.bool (by simp), rfl⟩
    · repeat' (first
        | ((with_reducible refine TOps.any ?_); refine TOps.callV env (by rfl) (by rfl) (by rfl) (gridWorks_c) ?_)
        | ((with_reducible refine TOps.any ?_); refine TOps.callV env (by rfl) (by rfl) (by rfl) (sc) ?_)
        | with_reducible first | refine Tw.seq ?_ | refine Tw.reg ?_ | refine Tw.block ?_ | refine Tw.scope ?_ | refine Tw.skip ?_ | refine Tw.exit ?_ | refine Tw.ret ?_ | refine seqN ?_ | refine seqR ?_ | refine seqE ?_ | refine blkN ?_ | refine blkR ?_ | refine blkE1 ?_ | refine blkE0 (by kernel_rfl) ?_ | refine scpN ?_ | refine scpR ?_ | refine scpE ?_ | refine TOps.nil ?_ | exact Conj.nil | refine Conj.cons rfl ?_ | refine Conj.same ?_ | refine Conj.ask ?_ ?_ | refine Tw.regd env ?_ | refine TDr.nil ⟨by kernel_rfl, ?_⟩
        | ((with_reducible refine TOps.any ?_); first | refine TOps.frunP env (by rfl) (by rfl) ?_ ?_ | (refine TOps.known (by rfl) ?_; refine TOps.strip env (by rfl) (by rfl) ?_ ?_))
        | ((with_reducible refine TDr.any ?_); refine TDr.frunP env (by rfl) (by rfl) ?_ ?_)
        | ((with_reducible refine Tw.any ?_); first | refine Tw.condT (by rfl) ?_ | refine Tw.condF (by rfl) ?_)
        | ((first | ((with_reducible refine TOps.any ?_); (fail_if_success refine TOps.known (by rfl) ?_); refine TOps.ask (by rfl) (fun h => ?_) (fun h => ?_)) | ((with_reducible refine TDr.any ?_); (fail_if_success refine TDr.known (by first | rfl | assumption) ?_); refine TDr.ask (by rfl) (fun h hk => ?_) (fun h => ?_)) | ((with_reducible refine Tw.any ?_); refine Tw.cond (by rfl) (fun h => ?_) (fun h => ?_))) <;> (try simp only [goS] at h) <;> (try simp only [rdi, Int.toNat_natCast, Nat.add_zero] at h) <;> (try (exfalso; (try simp only [goP, reduceCtorEq] at h) <;> (first | assumption | omega | contradiction | (rcases h with ⟨_, _⟩ <;> first | contradiction | omega) | (rcases h with h | h <;> first | contradiction | omega)))))
        | ((with_reducible refine tret.any ?_); first | refine tret.ok (by rfl) ?_ | refine tret.okN (by rfl) ?_)
        | ((with_reducible refine Due.mk ?_); (first | with_reducible rfl | omega | assumption | decide | ((try simp only [goS] at *) <;> (try intro h) <;> (try intro h') <;> (try simp only [goS] at *) <;> (try simp only [rdi, Int.toNat_natCast, Nat.add_zero] at *) <;> (try simp only [rng]) <;> (first | assumption | omega)) | (exact due_app0 (by omega)) | (exact due_app (by omega)) | (intros; simp; done) | (intros; simp; omega)))
        | with_reducible refine Due.mk ?_
        | omega)
      all_goals exact ⟨rfl, rfl, rfl⟩
  · have sb := gscaled_bad a b c vals l hc
    have hne : (if chkE a b c vals ≠ 0 then chkE a b c vals else inpE a l) ≠ 0 := by
      split
      · assumption
      · rename_i h1
        simp only [ne_eq, Decidable.not_not] at h1
        exact fun h2 => hc ⟨h1, h2⟩
    generalize (if chkE a b c vals ≠ 0 then chkE a b c vals else inpE a l) = e at *
    repeat' (first
      | ((with_reducible refine TOps.any ?_); refine TOps.callV env (by rfl) (by rfl) (by rfl) (gridWorks_c) ?_)
      | ((with_reducible refine TOps.any ?_); refine TOps.callV env (by rfl) (by rfl) (by rfl) (sb) ?_)
      | with_reducible first | refine Tw.seq ?_ | refine Tw.reg ?_ | refine Tw.block ?_ | refine Tw.scope ?_ | refine Tw.skip ?_ | refine Tw.exit ?_ | refine Tw.ret ?_ | refine seqN ?_ | refine seqR ?_ | refine seqE ?_ | refine blkN ?_ | refine blkR ?_ | refine blkE1 ?_ | refine blkE0 (by kernel_rfl) ?_ | refine scpN ?_ | refine scpR ?_ | refine scpE ?_ | refine TOps.nil ?_ | exact Conj.nil | refine Conj.cons rfl ?_ | refine Conj.same ?_ | refine Conj.ask ?_ ?_ | refine Tw.regd env ?_ | refine TDr.nil ⟨by kernel_rfl, ?_⟩
      | ((with_reducible refine TOps.any ?_); first | refine TOps.frunP env (by rfl) (by rfl) ?_ ?_ | (refine TOps.known (by rfl) ?_; refine TOps.strip env (by rfl) (by rfl) ?_ ?_))
      | ((with_reducible refine TDr.any ?_); refine TDr.frunP env (by rfl) (by rfl) ?_ ?_)
      | ((with_reducible refine Tw.any ?_); first | refine Tw.condT (by rfl) ?_ | refine Tw.condF (by rfl) ?_)
      | ((first | ((with_reducible refine TOps.any ?_); (fail_if_success refine TOps.known (by rfl) ?_); refine TOps.ask (by rfl) (fun h => ?_) (fun h => ?_)) | ((with_reducible refine TDr.any ?_); (fail_if_success refine TDr.known (by first | rfl | assumption) ?_); refine TDr.ask (by rfl) (fun h hk => ?_) (fun h => ?_)) | ((with_reducible refine Tw.any ?_); refine Tw.cond (by rfl) (fun h => ?_) (fun h => ?_))) <;> (try simp only [goS] at h) <;> (try simp only [rdi, Int.toNat_natCast, Nat.add_zero] at h) <;> (try (exfalso; (try simp only [goP, reduceCtorEq] at h) <;> (first | assumption | omega | contradiction | (rcases h with ⟨_, _⟩ <;> first | contradiction | omega) | (rcases h with h | h <;> first | contradiction | omega)))))
      | ((with_reducible refine tret.any ?_); first | refine tret.ok (by rfl) ?_ | refine tret.okN (by rfl) ?_)
      | ((with_reducible refine Due.mk ?_); (first | with_reducible rfl | omega | assumption | decide | ((try simp only [goS] at *) <;> (try intro h) <;> (try intro h') <;> (try simp only [goS] at *) <;> (try simp only [rdi, Int.toNat_natCast, Nat.add_zero] at *) <;> (try simp only [rng]) <;> (first | assumption | omega)) | (exact due_app0 (by omega)) | (exact due_app (by omega)) | (intros; simp; done) | (intros; simp; omega)))
      | with_reducible refine Due.mk ?_
      | omega)
    all_goals exact ⟨rfl, congrArg TV.bool (by simp), rfl⟩
end Go.Proofs.Ythnfbdihihhoiaa
