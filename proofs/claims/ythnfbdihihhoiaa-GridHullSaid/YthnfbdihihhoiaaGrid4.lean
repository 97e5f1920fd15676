/- Grids: the values of all nodes of a box. -/
import Derived.Test.YthnfbdihihhoiaaGrid3
import Derived.Test.YthnfbdihihhoiaaGridB
namespace Go.Proofs.Ythnfbdihihhoiaa
open Go Go.Lite
set_option linter.unusedVariables false
set_option linter.unusedSimpArgs false
set_option maxRecDepth 100000
set_option maxHeartbeats 4000000
-- @simp rdi

/-- Least and greatest values for the nodes of the box between two inputs. -/
structure HullOk (vals : List Int) (inn out s : Nat) (lo hi : List Nat) (L M : List Int) : Prop where
  l1 : L.length = out
  m1 : M.length = out
  bd : ∀ o, o < out → ∀ x : Nat → Nat, (∀ k, k < inn → lo.getD k 0 / gstep s ≤ x k ∧ x k ≤ (hi.getD k 0 + gstep s - 1) / gstep s) → L.getD o 0 ≤ gnode vals out s o (tab inn x) ∧ gnode vals out s o (tab inn x) ≤ M.getD o 0
/-- What is known while node n is looked at: the values before o have been. -/
def hinv (vals : List Int) (out s inn : Nat) (fr to : Nat → Nat) (n o : Nat) (L M : List Int) : Prop :=
  L.length = out ∧ M.length = out ∧ ∀ o', o' < out → ∀ x, inB inn fr to x → br inn fr to x inn < (if o' < o then n + 1 else n) → L.getD o' 0 ≤ gnode vals out s o' (tab inn x) ∧ gnode vals out s o' (tab inn x) ≤ M.getD o' 0
theorem hinv_step {vals : List Int} {out s inn : Nat} {fr to ix : Nat → Nat} {n o : Nat} {L M L2 M2 : List Int} (hx : inB inn fr to ix) (hn : br inn fr to ix inn = n) (ho : o < out) (h : hinv vals out s inn fr to n o L M)
    (hl : L2.length = out) (hm : M2.length = out) (h1 : ∀ o', o' ≠ o → L2.getD o' 0 = L.getD o' 0) (h2 : ∀ o', o' ≠ o → M2.getD o' 0 = M.getD o' 0)
    (h3 : L2.getD o 0 ≤ gnode vals out s o (tab inn ix) ∧ (n = 0 ∨ L2.getD o 0 ≤ L.getD o 0)) (h4 : gnode vals out s o (tab inn ix) ≤ M2.getD o 0 ∧ (n = 0 ∨ M.getD o 0 ≤ M2.getD o 0)) : hinv vals out s inn fr to n (o + 1) L2 M2 := by
  refine ⟨hl, hm, fun o' ho' x hxb hr => ?_⟩
  by_cases e : o' = o
  · subst e
    rw [if_pos (by omega)] at hr
    by_cases e2 : br inn fr to x inn = n
    · have : tab inn x = tab inn ix := tab_congr fun k hk => br_inj hxb hx (Nat.le_refl _) (by omega) k (by omega) hk
      rw [this]
      exact ⟨h3.1, h4.1⟩
    · have := h.2.2 o' ho x hxb (by rw [if_neg (by omega)]; omega)
      omega
  · rw [h1 o' e, h2 o' e]
    refine h.2.2 o' ho' x hxb ?_
    by_cases e2 : o' < o
    · rw [if_pos e2]; rw [if_pos (by omega)] at hr; exact hr
    · rw [if_neg e2]; rw [if_neg (by omega)] at hr; exact hr
theorem hull_r (inn out s : Nat) (vals : List Int) (lo hi : List Nat) (g : GOk inn out s vals) (hl : lo.length = inn) (hh : hi.length = inn) (hb : ∀ i, i < inn → lo.getD i 0 ≤ hi.getD i 0 ∧ hi.getD i 0 ≤ 65280) :
    TC R Try.prog grid_Hull_f [.pel [.int .i64 inn, .int .i64 out, .int .i64 s, .lst Ei vals], .lst Ei (nz lo), .lst Ei (nz hi)] []
    (fun v X => ∃ L M : List Int, HullOk vals inn out s lo hi L M ∧ v = .tup [.sla 1 0 0 out, .sla 1 1 0 out] ∧ X = [some (.arr Ei L), some (.arr Ei M)]) := by
  have gi := g.i1
  have go := g.o1
  have gs : 2 ≤ s ∧ s ≤ 9 := by have := g.s1; omega
  obtain ⟨st1, st2, st3⟩ := g.step
  have q1 : quo 65280 ((s : Int) - 1) = ((gstep s : Nat) : Int) := by
    rw [quo_nn (by omega)]
    unfold gstep
    rw [show ((s : Int) - 1) = ((s - 1 : Nat) : Int) by omega]
    simp
  have ll := nz_len (l := lo)
  have lh := nz_len (l := hi)
  have l4 := @t4_len
  have hok : ∀ L M, HullOk vals inn out s lo hi L M ↔ L.length = out ∧ M.length = out ∧ ∀ o, o < out → ∀ x : Nat → Nat, inB inn (fun k => lo.getD k 0 / gstep s) (fun k => (hi.getD k 0 + gstep s - 1) / gstep s) x → L.getD o 0 ≤ gnode vals out s o (tab inn x) ∧ gnode vals out s o (tab inn x) ≤ M.getD o 0 :=
    fun L M => ⟨fun h => ⟨h.l1, h.m1, h.bd⟩, fun h => ⟨h.1, h.2.1, h.2.2⟩⟩
  simp only [hok]
  generalize hst : gstep s = st at *
  have frto : ∀ k, k < inn → lo.getD k 0 / st ≤ (hi.getD k 0 + st - 1) / st ∧ (hi.getD k 0 + st - 1) / st ≤ s - 1 := fun k hk => by
    have := hb k hk
    refine ⟨Nat.div_le_div_right (by omega), ?_⟩
    have h2 : (hi.getD k 0 + st - 1) / st ≤ ((s - 1) * st + (st - 1)) / st := Nat.div_le_div_right (by omega)
    rw [Nat.mul_comm (s - 1) st, Nat.mul_add_div (by omega), Nat.div_eq_of_lt (show st - 1 < st by omega)] at h2
    omega
  have gl : ∀ k, (nz lo).getD k 0 = ((lo.getD k 0 : Nat) : Int) := fun k => nz_get
  have gh : ∀ k, (nz hi).getD k 0 = ((hi.getD k 0 : Nat) : Int) := fun k => nz_get
  refine tc env grid_Hull_s (by rfl) ?_
  dsimp only [grid_Hull_c]
  repeat' (first
    | with_reducible first | refine Tw.seq ?_ | refine Tw.reg ?_ | refine Tw.block ?_ | refine Tw.scope ?_ | refine Tw.skip ?_ | refine Tw.exit ?_ | refine Tw.ret ?_ | refine seqN ?_ | refine seqR ?_ | refine seqE ?_ | refine blkN ?_ | refine blkR ?_ | refine blkE1 ?_ | refine blkE0 (by kernel_rfl) ?_ | refine scpN ?_ | refine scpR ?_ | refine scpE ?_ | refine TOps.nil ?_ | exact Conj.nil | refine Conj.cons rfl ?_ | refine Conj.same ?_ | refine Conj.ask ?_ ?_ | refine Tw.regd env ?_ | refine TDr.nil ⟨by kernel_rfl, ?_⟩
    | ((with_reducible refine TOps.any ?_); first | refine TOps.frunP env (by rfl) (by rfl) ?_ ?_ | (refine TOps.known (by rfl) ?_; refine TOps.strip env (by rfl) (by rfl) ?_ ?_))
    | ((with_reducible refine TDr.any ?_); refine TDr.frunP env (by rfl) (by rfl) ?_ ?_)
    | ((with_reducible refine Tw.any ?_); first | refine Tw.condT (by rfl) ?_ | refine Tw.condF (by rfl) ?_)
    | ((first | ((with_reducible refine TOps.any ?_); (fail_if_success refine TOps.known (by rfl) ?_); refine TOps.ask (by rfl) (fun h => ?_) (fun h => ?_)) | ((with_reducible refine TDr.any ?_); (fail_if_success refine TDr.known (by first | rfl | assumption) ?_); refine TDr.ask (by rfl) (fun h hk => ?_) (fun h => ?_)) | ((with_reducible refine Tw.any ?_); refine Tw.cond (by rfl) (fun h => ?_) (fun h => ?_))) <;> (try simp only [goS] at h) <;> (try simp only [rdi, q1, ll, Int.toNat_natCast, Nat.add_zero] at h) <;> (try (exfalso; (try simp only [goP, reduceCtorEq] at h) <;> (first | assumption | omega | contradiction | (rcases h with ⟨_, _⟩ <;> first | contradiction | omega) | (rcases h with h | h <;> first | contradiction | omega)))))
    | ((with_reducible refine tret.any ?_); first | refine tret.ok (by rfl) ?_ | refine tret.okN (by rfl) ?_)
    | ((with_reducible refine Due.mk ?_); (first | with_reducible rfl | omega | assumption | decide | ((try simp only [goS] at *) <;> (try intro h) <;> (try intro h') <;> (try simp only [goS] at *) <;> (try simp only [rdi, q1, ll, Int.toNat_natCast, Nat.add_zero] at *) <;> (try simp only [rng]) <;> (first | assumption | omega)) | (exact due_app0 (by omega)) | (exact due_app (by omega)) | (intros; simp; done) | (intros; simp; omega)))
    | with_reducible refine Due.mk ?_
    | omega)
  rw [q1, ll, hl]
  refine Tw.weaken (TWk.re (H' := [some (.arr Ei (t4 fun _ => 0)), some (.arr Ei (t4 fun _ => 0)), some (.arr Ei (t4 fun _ => 0))]) (by rfl)) ?_
  refine Tw.loopK [0, 1, 2, 8, 9, 10, 11, 27] (fun k : Nat => k ≤ inn) (fun k => inn - k) (fun k => [(28, .int .i64 k)])
    (fun q => [some (.arr Ei (t4 fun i => if i < q then ((lo.getD i 0 / st : Nat) : Int) else 0)), some (.arr Ei (t4 fun i => if i < q then (((hi.getD i 0 + st - 1) / st : Nat) : Int) else 0)), some (.arr Ei (t4 fun i => 0))])
    ⟨0, by omega, TWk.fcanon env [some 0, some 1, some 2] (by rfl) ?_⟩ (fun k hk => ?_)
  · repeat' (first
      | with_reducible first | refine Tw.seq ?_ | refine Tw.reg ?_ | refine Tw.block ?_ | refine Tw.scope ?_ | refine Tw.skip ?_ | refine Tw.exit ?_ | refine Tw.ret ?_ | refine seqN ?_ | refine seqR ?_ | refine seqE ?_ | refine blkN ?_ | refine blkR ?_ | refine blkE1 ?_ | refine blkE0 (by kernel_rfl) ?_ | refine scpN ?_ | refine scpR ?_ | refine scpE ?_ | refine TOps.nil ?_ | exact Conj.nil | refine Conj.cons rfl ?_ | refine Conj.same ?_ | refine Conj.ask ?_ ?_ | refine Tw.regd env ?_ | refine TDr.nil ⟨by kernel_rfl, ?_⟩
      | ((with_reducible refine TOps.any ?_); first | refine TOps.frunP env (by rfl) (by rfl) ?_ ?_ | (refine TOps.known (by rfl) ?_; refine TOps.strip env (by rfl) (by rfl) ?_ ?_))
      | ((with_reducible refine TDr.any ?_); refine TDr.frunP env (by rfl) (by rfl) ?_ ?_)
      | ((with_reducible refine Tw.any ?_); first | refine Tw.condT (by rfl) ?_ | refine Tw.condF (by rfl) ?_)
      | ((first | ((with_reducible refine TOps.any ?_); (fail_if_success refine TOps.known (by rfl) ?_); refine TOps.ask (by rfl) (fun h => ?_) (fun h => ?_)) | ((with_reducible refine TDr.any ?_); (fail_if_success refine TDr.known (by first | rfl | assumption) ?_); refine TDr.ask (by rfl) (fun h hk => ?_) (fun h => ?_)) | ((with_reducible refine Tw.any ?_); refine Tw.cond (by rfl) (fun h => ?_) (fun h => ?_))) <;> (try simp only [goS] at h) <;> (try simp only [rdi, Int.toNat_natCast, Nat.add_zero] at h))
      | ((with_reducible refine tret.any ?_); first | refine tret.ok (by rfl) ?_ | refine tret.okN (by rfl) ?_)
      | ((with_reducible refine Due.mk ?_); (first | with_reducible rfl | omega | assumption | decide | ((try simp only [goS] at *) <;> (try intro h) <;> (try intro h') <;> (try simp only [goS] at *) <;> (try simp only [rdi, Int.toNat_natCast, Nat.add_zero] at *) <;> (try simp only [rng]) <;> (first | assumption | omega)) | (exact due_app0 (by omega)) | (exact due_app (by omega)) | (intros; simp; done) | (intros; simp; omega)))
      | with_reducible refine Due.mk ?_
      | omega)
  rcases Nat.lt_or_ge k inn with hk | hk
  · have e1 := gl k
    have e2 := gh k
    have e3 := hb k hk
    have e4 := frto k hk
    have e5 : quo ((lo.getD k 0 : Nat) : Int) (st : Int) = ((lo.getD k 0 / st : Nat) : Int) := by rw [quo_nn (by omega)]; simp
    have e6 : quo (((hi.getD k 0 : Nat) : Int) + (st : Int) - 1) (st : Int) = (((hi.getD k 0 + st - 1) / st : Nat) : Int) := by
      rw [quo_nn (by omega), show ((hi.getD k 0 : Nat) : Int) + (st : Int) - 1 = ((hi.getD k 0 + st - 1 : Nat) : Int) by omega]; simp
    have q5 : rng .i64 (quo ((lo.getD k 0 : Nat) : Int) (st : Int)) := by
      rw [e5]; simp only [rng]
      generalize lo.getD k 0 / st = z at *
      generalize (hi.getD k 0 + st - 1) / st = z2 at *
      omega
    have q6 : rng .i64 (quo (((hi.getD k 0 : Nat) : Int) + (st : Int) - 1) (st : Int)) := by
      rw [e6]; simp only [rng]
      generalize (hi.getD k 0 + st - 1) / st = z2 at *
      omega
    repeat' (first
      | exact q5
      | exact q6
      | with_reducible first | refine Tw.seq ?_ | refine Tw.reg ?_ | refine Tw.block ?_ | refine Tw.scope ?_ | refine Tw.skip ?_ | refine Tw.exit ?_ | refine Tw.ret ?_ | refine seqN ?_ | refine seqR ?_ | refine seqE ?_ | refine blkN ?_ | refine blkR ?_ | refine blkE1 ?_ | refine blkE0 (by kernel_rfl) ?_ | refine scpN ?_ | refine scpR ?_ | refine scpE ?_ | refine TOps.nil ?_ | exact Conj.nil | refine Conj.cons rfl ?_ | refine Conj.same ?_ | refine Conj.ask ?_ ?_ | refine Tw.regd env ?_ | refine TDr.nil ⟨by kernel_rfl, ?_⟩
      | ((with_reducible refine TOps.any ?_); first | refine TOps.frunP env (by rfl) (by rfl) ?_ ?_ | (refine TOps.known (by rfl) ?_; refine TOps.strip env (by rfl) (by rfl) ?_ ?_))
      | ((with_reducible refine TDr.any ?_); refine TDr.frunP env (by rfl) (by rfl) ?_ ?_)
      | ((with_reducible refine Tw.any ?_); first | refine Tw.condT (by rfl) ?_ | refine Tw.condF (by rfl) ?_)
      | ((first | ((with_reducible refine TOps.any ?_); (fail_if_success refine TOps.known (by rfl) ?_); refine TOps.ask (by rfl) (fun h => ?_) (fun h => ?_)) | ((with_reducible refine TDr.any ?_); (fail_if_success refine TDr.known (by first | rfl | assumption) ?_); refine TDr.ask (by rfl) (fun h hk => ?_) (fun h => ?_)) | ((with_reducible refine Tw.any ?_); refine Tw.cond (by rfl) (fun h => ?_) (fun h => ?_))) <;> (try simp only [goS] at h) <;> (try simp only [rdi, ll, lh, e1, e2, l4, Int.toNat_natCast, Nat.add_zero] at h) <;> (try (exfalso; (try simp only [goP, reduceCtorEq] at h) <;> (first | assumption | omega | contradiction | (rcases h with ⟨_, _⟩ <;> first | contradiction | omega) | (rcases h with h | h <;> first | contradiction | omega)))))
      | ((with_reducible refine tret.any ?_); first | refine tret.ok (by rfl) ?_ | refine tret.okN (by rfl) ?_)
      | ((with_reducible refine Due.mk ?_); (first | with_reducible rfl | omega | assumption | decide | ((try simp only [goS] at *) <;> (try intro h) <;> (try intro h') <;> (try simp only [goS] at *) <;> (try simp only [rdi, ll, lh, e1, e2, l4, Int.toNat_natCast, Nat.add_zero] at *) <;> (try simp only [rng]) <;> (first | assumption | omega)) | (exact due_app0 (by omega)) | (exact due_app (by omega)) | (intros; simp; done) | (intros; simp; omega)))
      | with_reducible refine Due.mk ?_
      | omega)
    refine ⟨k + 1, by omega, by omega, TWk.fcanon env [some 0, some 1, some 2] (by rfl) ?_⟩
    have upd : ∀ f : Nat → Int, (t4 fun i => if i < k then f i else 0).set k (f k) = t4 fun i => if i < k + 1 then f i else 0 := fun f => by
      rw [t4_set]
      exact t4_congr fun i _ => by
        by_cases e : i = k
        · subst e; rw [if_pos rfl, if_pos (by omega)]
        · rw [if_neg e]
          by_cases h : i < k
          · rw [if_pos h, if_pos (by omega)]
          · rw [if_neg h, if_neg (by omega)]
    have r0 : (t4 fun j => if j < k then ((lo.getD j 0 / st : Nat) : Int) else 0).set (k : Int).toNat (quo ((nz lo).getD (k : Int).toNat 0) st) = t4 fun i => if i < k + 1 then ((lo.getD i 0 / st : Nat) : Int) else 0 := by
      rw [Int.toNat_natCast, e1, e5]; exact upd fun i => ((lo.getD i 0 / st : Nat) : Int)
    have r1 : (t4 fun j => if j < k then (((hi.getD j 0 + st - 1) / st : Nat) : Int) else 0).set (k : Int).toNat (quo ((nz hi).getD (k : Int).toNat 0 + st - 1) st) = t4 fun i => if i < k + 1 then (((hi.getD i 0 + st - 1) / st : Nat) : Int) else 0 := by
      rw [Int.toNat_natCast, e2, e6]; exact upd fun i => (((hi.getD i 0 + st - 1) / st : Nat) : Int)
    repeat' (first
      | exact r0.symm
      | exact r1.symm
      | with_reducible first | refine Tw.seq ?_ | refine Tw.reg ?_ | refine Tw.block ?_ | refine Tw.scope ?_ | refine Tw.skip ?_ | refine Tw.exit ?_ | refine Tw.ret ?_ | refine seqN ?_ | refine seqR ?_ | refine seqE ?_ | refine blkN ?_ | refine blkR ?_ | refine blkE1 ?_ | refine blkE0 (by kernel_rfl) ?_ | refine scpN ?_ | refine scpR ?_ | refine scpE ?_ | refine TOps.nil ?_ | exact Conj.nil | refine Conj.cons rfl ?_ | refine Conj.same ?_ | refine Conj.ask ?_ ?_ | refine Tw.regd env ?_ | refine TDr.nil ⟨by kernel_rfl, ?_⟩
      | ((with_reducible refine TOps.any ?_); first | refine TOps.frunP env (by rfl) (by rfl) ?_ ?_ | (refine TOps.known (by rfl) ?_; refine TOps.strip env (by rfl) (by rfl) ?_ ?_))
      | ((with_reducible refine TDr.any ?_); refine TDr.frunP env (by rfl) (by rfl) ?_ ?_)
      | ((with_reducible refine Tw.any ?_); first | refine Tw.condT (by rfl) ?_ | refine Tw.condF (by rfl) ?_)
      | ((first | ((with_reducible refine TOps.any ?_); (fail_if_success refine TOps.known (by rfl) ?_); refine TOps.ask (by rfl) (fun h => ?_) (fun h => ?_)) | ((with_reducible refine TDr.any ?_); (fail_if_success refine TDr.known (by first | rfl | assumption) ?_); refine TDr.ask (by rfl) (fun h hk => ?_) (fun h => ?_)) | ((with_reducible refine Tw.any ?_); refine Tw.cond (by rfl) (fun h => ?_) (fun h => ?_))) <;> (try simp only [goS] at h) <;> (try simp only [rdi, Int.toNat_natCast, Nat.add_zero] at h))
      | ((with_reducible refine tret.any ?_); first | refine tret.ok (by rfl) ?_ | refine tret.okN (by rfl) ?_)
      | ((with_reducible refine Due.mk ?_); (first | with_reducible rfl | omega | assumption | decide | ((try simp only [goS] at *) <;> (try intro h) <;> (try intro h') <;> (try simp only [goS] at *) <;> (try simp only [rdi, Int.toNat_natCast, Nat.add_zero] at *) <;> (try simp only [rng]) <;> (first | assumption | omega)) | (exact due_app0 (by omega)) | (exact due_app (by omega)) | (intros; simp; done) | (intros; simp; omega)))
      | with_reducible refine Due.mk ?_
      | omega)
  · obtain rfl : inn = k := by omega
    generalize hF : (fun k => lo.getD k 0 / st) = fr at *
    generalize hT : (fun k => (hi.getD k 0 + st - 1) / st) = to at *
    have fv : ∀ i, lo.getD i 0 / st = fr i := fun i => by rw [← hF]
    have tv : ∀ i, (hi.getD i 0 + st - 1) / st = to i := fun i => by rw [← hT]
    simp only [fv, tv] at frto ⊢
    refine Tw.weaken (TWk.re (H' := [some (.cells [.int .i64 (if 0 < inn then ((fr 0 : Nat) : Int) else 0), .int .i64 (if 1 < inn then ((fr 1 : Nat) : Int) else 0), .int .i64 (if 2 < inn then ((fr 2 : Nat) : Int) else 0), .int .i64 (if 3 < inn then ((fr 3 : Nat) : Int) else 0)]), some (.arr Ei (t4 fun i => if i < inn then ((to i : Nat) : Int) else 0)), some (.cells [.int .i64 0, .int .i64 0, .int .i64 0, .int .i64 0])]) (by rfl)) ?_
    repeat' (first
      | with_reducible first | refine Tw.seq ?_ | refine Tw.reg ?_ | refine Tw.block ?_ | refine Tw.scope ?_ | refine Tw.skip ?_ | refine Tw.exit ?_ | refine Tw.ret ?_ | refine seqN ?_ | refine seqR ?_ | refine seqE ?_ | refine blkN ?_ | refine blkR ?_ | refine blkE1 ?_ | refine blkE0 (by kernel_rfl) ?_ | refine scpN ?_ | refine scpR ?_ | refine scpE ?_ | refine TOps.nil ?_ | exact Conj.nil | refine Conj.cons rfl ?_ | refine Conj.same ?_ | refine Conj.ask ?_ ?_ | refine Tw.regd env ?_ | refine TDr.nil ⟨by kernel_rfl, ?_⟩
      | ((with_reducible refine TOps.any ?_); first | refine TOps.frunP env (by rfl) (by rfl) ?_ ?_ | (refine TOps.known (by rfl) ?_; refine TOps.strip env (by rfl) (by rfl) ?_ ?_))
      | ((with_reducible refine TDr.any ?_); refine TDr.frunP env (by rfl) (by rfl) ?_ ?_)
      | ((with_reducible refine Tw.any ?_); first | refine Tw.condT (by rfl) ?_ | refine Tw.condF (by rfl) ?_)
      | ((first | ((with_reducible refine TOps.any ?_); (fail_if_success refine TOps.known (by rfl) ?_); refine TOps.ask (by rfl) (fun h => ?_) (fun h => ?_)) | ((with_reducible refine TDr.any ?_); (fail_if_success refine TDr.known (by first | rfl | assumption) ?_); refine TDr.ask (by rfl) (fun h hk => ?_) (fun h => ?_)) | ((with_reducible refine Tw.any ?_); refine Tw.cond (by rfl) (fun h => ?_) (fun h => ?_))) <;> (try simp only [goS] at h) <;> (try simp only [rdi, Int.toNat_natCast, Nat.add_zero] at h) <;> (try (exfalso; (try simp only [goP, reduceCtorEq] at h) <;> (first | assumption | omega | contradiction | (rcases h with ⟨_, _⟩ <;> first | contradiction | omega) | (rcases h with h | h <;> first | contradiction | omega)))))
      | ((with_reducible refine tret.any ?_); first | refine tret.ok (by rfl) ?_ | refine tret.okN (by rfl) ?_)
      | ((with_reducible refine Due.mk ?_); (first | with_reducible rfl | omega | assumption | decide | ((try simp only [goS] at *) <;> (try intro h) <;> (try intro h') <;> (try simp only [goS] at *) <;> (try simp only [rdi, Int.toNat_natCast, Nat.add_zero] at *) <;> (try simp only [rng]) <;> (first | assumption | omega)) | (exact due_app0 (by omega)) | (exact due_app (by omega)) | (intros; simp; done) | (intros; simp; omega)))
      | with_reducible refine Due.mk ?_
      | omega)
    refine Tw.weaken (TWk.re (H' := [some (.arr Ei (t4 fun i => if i < inn then ((fr i : Nat) : Int) else 0)), some (.arr Ei (t4 fun i => if i < inn then ((to i : Nat) : Int) else 0)), some (.arr Ei (t4 fun i => if i < inn then ((fr i : Nat) : Int) else 0)), some (.arr Ei (List.replicate out (0 : Int))), some (.arr Ei (List.replicate out (0 : Int)))]) (by rfl)) ?_
    rw [Int.toNat_natCast]
    have frb : inB inn fr to fr := fun k hk => ⟨Nat.le_refl _, (frto k hk).1⟩
    have f0 : br inn fr to fr inn = 0 := br_bot (fun _ _ _ => rfl) (Nat.le_refl _)
    have vb := fun o l => gnode_bd g o l
    refine Tw.loopK [0, 9, 10, 11, 13, 14] (fun q : (Nat → Nat) × List Int × List Int => inB inn fr to q.1 ∧ q.2.1.length = out ∧ q.2.2.length = out ∧
        ∀ o, o < out → ∀ x, inB inn fr to x → br inn fr to x inn < br inn fr to q.1 inn → q.2.1.getD o 0 ≤ gnode vals out s o (tab inn x) ∧ gnode vals out s o (tab inn x) ≤ q.2.2.getD o 0) (fun q => bw inn fr to inn - br inn fr to q.1 inn) (fun q => [(15, .bool (decide (br inn fr to q.1 inn = 0)))])
      (fun q => [some (.arr Ei (t4 fun i => if i < inn then ((fr i : Nat) : Int) else 0)), some (.arr Ei (t4 fun i => if i < inn then ((to i : Nat) : Int) else 0)), some (.arr Ei (t4 fun i => if i < inn then ((q.1 i : Nat) : Int) else 0)), some (.arr Ei q.2.1), some (.arr Ei q.2.2)])
      ⟨(fr, List.replicate out 0, List.replicate out 0), ⟨frb, by simp, by simp, fun o ho x hx h => by dsimp only at h; omega⟩, TWk.fcanon env [some 0, some 1, some 2, some 3, some 4] (by rfl) ?_⟩ (fun q hq => ?_)
    · repeat' (first
        | with_reducible first | refine Tw.seq ?_ | refine Tw.reg ?_ | refine Tw.block ?_ | refine Tw.scope ?_ | refine Tw.skip ?_ | refine Tw.exit ?_ | refine Tw.ret ?_ | refine seqN ?_ | refine seqR ?_ | refine seqE ?_ | refine blkN ?_ | refine blkR ?_ | refine blkE1 ?_ | refine blkE0 (by kernel_rfl) ?_ | refine scpN ?_ | refine scpR ?_ | refine scpE ?_ | refine TOps.nil ?_ | exact Conj.nil | refine Conj.cons rfl ?_ | refine Conj.same ?_ | refine Conj.ask ?_ ?_ | refine Tw.regd env ?_ | refine TDr.nil ⟨by kernel_rfl, ?_⟩
        | ((with_reducible refine TOps.any ?_); first | refine TOps.frunP env (by rfl) (by rfl) ?_ ?_ | (refine TOps.known (by rfl) ?_; refine TOps.strip env (by rfl) (by rfl) ?_ ?_))
        | ((with_reducible refine TDr.any ?_); refine TDr.frunP env (by rfl) (by rfl) ?_ ?_)
        | ((with_reducible refine Tw.any ?_); first | refine Tw.condT (by rfl) ?_ | refine Tw.condF (by rfl) ?_)
        | ((first | ((with_reducible refine TOps.any ?_); (fail_if_success refine TOps.known (by rfl) ?_); refine TOps.ask (by rfl) (fun h => ?_) (fun h => ?_)) | ((with_reducible refine TDr.any ?_); (fail_if_success refine TDr.known (by first | rfl | assumption) ?_); refine TDr.ask (by rfl) (fun h hk => ?_) (fun h => ?_)) | ((with_reducible refine Tw.any ?_); refine Tw.cond (by rfl) (fun h => ?_) (fun h => ?_))) <;> (try simp only [goS] at h) <;> (try simp only [rdi, Int.toNat_natCast, Nat.add_zero] at h))
        | ((with_reducible refine tret.any ?_); first | refine tret.ok (by rfl) ?_ | refine tret.okN (by rfl) ?_)
        | ((with_reducible refine Due.mk ?_); (first | with_reducible rfl | omega | assumption | decide | ((try simp only [goS] at *) <;> (try intro h) <;> (try intro h') <;> (try simp only [goS] at *) <;> (try simp only [rdi, Int.toNat_natCast, Nat.add_zero] at *) <;> (try simp only [rng]) <;> (first | assumption | omega)) | (exact due_app0 (by omega)) | (exact due_app (by omega)) | (intros; simp; done) | (intros; simp; omega)))
        | with_reducible refine Due.mk ?_
        | omega)
    obtain ⟨ix, L, M⟩ := q
    dsimp only at hq ⊢
    obtain ⟨hix, hL, hM, hbd⟩ := hq
    have xs1 : ∀ k ∈ tab inn ix, k < s := fun k hk => by
      obtain ⟨i, hi, rfl⟩ := mem_getD (d := 0) hk
      rw [tab_len] at hi
      rw [tab_get hi]
      have := hix i hi
      have := frto i hi
      omega
    have hcut : nz (tab inn ix) = (t4 fun i => if i < inn then ((ix i : Nat) : Int) else 0).take inn := by
      unfold t4
      rw [tab_take (by omega)]
      simp only [nz, tab, List.map_map]
      exact List.map_congr_left fun i hi => by simp only [List.mem_range] at hi; simp [hi]
    have ac := at_c inn out s vals (tab inn ix) (by unfold Due; omega) (by unfold Due; omega) (by unfold Due; rw [tab_len]; omega) (by unfold Due; intro k hk; have := xs1 k hk; omega)
    rw [hcut] at ac
    have inb := fun o ho => (at_in g tab_len xs1 (o := o) ho).1
    have gnd : ∀ o, gnode vals out s o (tab inn ix) = vals.getD (ndx s 0 (tab inn ix) * out + o) 0 := fun _ => rfl
    have vlen : vals.length ≤ 32768 := by rw [g.len]; exact g.big
    generalize ndx s 0 (tab inn ix) * out = nd at *
    generalize hn : br inn fr to ix inn = n at *
    repeat' (first
      | ((with_reducible refine TOps.any ?_); refine TOps.callE env (by rfl) (by rfl) (by rfl) ?_ (ac) (by rfl) ?_)
      | with_reducible first | refine Tw.seq ?_ | refine Tw.reg ?_ | refine Tw.block ?_ | refine Tw.scope ?_ | refine Tw.skip ?_ | refine Tw.exit ?_ | refine Tw.ret ?_ | refine seqN ?_ | refine seqR ?_ | refine seqE ?_ | refine blkN ?_ | refine blkR ?_ | refine blkE1 ?_ | refine blkE0 (by kernel_rfl) ?_ | refine scpN ?_ | refine scpR ?_ | refine scpE ?_ | refine TOps.nil ?_ | exact Conj.nil | refine Conj.cons rfl ?_ | refine Conj.same ?_ | refine Conj.ask ?_ ?_ | refine Tw.regd env ?_ | refine TDr.nil ⟨by kernel_rfl, ?_⟩
      | ((with_reducible refine TOps.any ?_); first | refine TOps.frunP env (by rfl) (by rfl) ?_ ?_ | (refine TOps.known (by rfl) ?_; refine TOps.strip env (by rfl) (by rfl) ?_ ?_))
      | ((with_reducible refine TDr.any ?_); refine TDr.frunP env (by rfl) (by rfl) ?_ ?_)
      | ((with_reducible refine Tw.any ?_); first | refine Tw.condT (by rfl) ?_ | refine Tw.condF (by rfl) ?_)
      | ((first | ((with_reducible refine TOps.any ?_); (fail_if_success refine TOps.known (by rfl) ?_); refine TOps.ask (by rfl) (fun h => ?_) (fun h => ?_)) | ((with_reducible refine TDr.any ?_); (fail_if_success refine TDr.known (by first | rfl | assumption) ?_); refine TDr.ask (by rfl) (fun h hk => ?_) (fun h => ?_)) | ((with_reducible refine Tw.any ?_); refine Tw.cond (by rfl) (fun h => ?_) (fun h => ?_))) <;> (try simp only [goS] at h) <;> (try simp only [rdi, l4, Int.toNat_natCast, Nat.add_zero] at h) <;> (try (exfalso; (try simp only [goP, reduceCtorEq] at h) <;> (first | assumption | omega | contradiction | (rcases h with ⟨_, _⟩ <;> first | contradiction | omega) | (rcases h with h | h <;> first | contradiction | omega)))))
      | ((with_reducible refine tret.any ?_); first | refine tret.ok (by rfl) ?_ | refine tret.okN (by rfl) ?_)
      | ((with_reducible refine Due.mk ?_); (first | with_reducible rfl | omega | assumption | decide | ((try simp only [goS] at *) <;> (try intro h) <;> (try intro h') <;> (try simp only [goS] at *) <;> (try simp only [rdi, l4, Int.toNat_natCast, Nat.add_zero] at *) <;> (try simp only [rng]) <;> (first | assumption | omega)) | (exact due_app0 (by omega)) | (exact due_app (by omega)) | (intros; simp; done) | (intros; simp; omega)))
      | with_reducible refine Due.mk ?_
      | omega)
    have h0 : hinv vals out s inn fr to n 0 L M := ⟨hL, hM, fun o ho x hx h => hbd o ho x hx (by rw [if_neg (by omega)] at h; exact h)⟩
    refine Tw.loopK [0, 9, 10, 11, 13, 14, 15, 16, 72] (fun q : Nat × List Int × List Int => q.1 ≤ out ∧ hinv vals out s inn fr to n q.1 q.2.1 q.2.2) (fun q => out - q.1) (fun q => [(73, .int .i64 q.1)])
      (fun q => [some (.arr Ei (t4 fun i => if i < inn then ((fr i : Nat) : Int) else 0)), some (.arr Ei (t4 fun i => if i < inn then ((to i : Nat) : Int) else 0)), some (.arr Ei (t4 fun i => if i < inn then ((ix i : Nat) : Int) else 0)), some (.arr Ei q.2.1), some (.arr Ei q.2.2)])
      ⟨(0, L, M), ⟨by dsimp only; omega, h0⟩, TWk.fcanon env [some 0, some 1, some 2, some 3, some 4] (by rfl) ?_⟩ (fun q hq => ?_)
    · repeat' (first
        | with_reducible first | refine Tw.seq ?_ | refine Tw.reg ?_ | refine Tw.block ?_ | refine Tw.scope ?_ | refine Tw.skip ?_ | refine Tw.exit ?_ | refine Tw.ret ?_ | refine seqN ?_ | refine seqR ?_ | refine seqE ?_ | refine blkN ?_ | refine blkR ?_ | refine blkE1 ?_ | refine blkE0 (by kernel_rfl) ?_ | refine scpN ?_ | refine scpR ?_ | refine scpE ?_ | refine TOps.nil ?_ | exact Conj.nil | refine Conj.cons rfl ?_ | refine Conj.same ?_ | refine Conj.ask ?_ ?_ | refine Tw.regd env ?_ | refine TDr.nil ⟨by kernel_rfl, ?_⟩
        | ((with_reducible refine TOps.any ?_); first | refine TOps.frunP env (by rfl) (by rfl) ?_ ?_ | (refine TOps.known (by rfl) ?_; refine TOps.strip env (by rfl) (by rfl) ?_ ?_))
        | ((with_reducible refine TDr.any ?_); refine TDr.frunP env (by rfl) (by rfl) ?_ ?_)
        | ((with_reducible refine Tw.any ?_); first | refine Tw.condT (by rfl) ?_ | refine Tw.condF (by rfl) ?_)
        | ((first | ((with_reducible refine TOps.any ?_); (fail_if_success refine TOps.known (by rfl) ?_); refine TOps.ask (by rfl) (fun h => ?_) (fun h => ?_)) | ((with_reducible refine TDr.any ?_); (fail_if_success refine TDr.known (by first | rfl | assumption) ?_); refine TDr.ask (by rfl) (fun h hk => ?_) (fun h => ?_)) | ((with_reducible refine Tw.any ?_); refine Tw.cond (by rfl) (fun h => ?_) (fun h => ?_))) <;> (try simp only [goS] at h) <;> (try simp only [rdi, Int.toNat_natCast, Nat.add_zero] at h))
        | ((with_reducible refine tret.any ?_); first | refine tret.ok (by rfl) ?_ | refine tret.okN (by rfl) ?_)
        | ((with_reducible refine Due.mk ?_); (first | with_reducible rfl | omega | assumption | decide | ((try simp only [goS] at *) <;> (try intro h) <;> (try intro h') <;> (try simp only [goS] at *) <;> (try simp only [rdi, Int.toNat_natCast, Nat.add_zero] at *) <;> (try simp only [rng]) <;> (first | assumption | omega)) | (exact due_app0 (by omega)) | (exact due_app (by omega)) | (intros; simp; done) | (intros; simp; omega)))
        | with_reducible refine Due.mk ?_
        | omega)
    obtain ⟨o, L', M'⟩ := q
    dsimp only at hq ⊢
    obtain ⟨ho, hI⟩ := hq
    have hL' := hI.1
    have hM' := hI.2.1
    rcases Nat.lt_or_ge o out with ho | ho
    · have b2 := inb o ho
      have b4 := vb o (tab inn ix)
      have b5 : (((nd : Nat) : Int) + (o : Int)).toNat = nd + o := by omega
      have b6 := gnd o
      have hs := fun a b (h1 : a.length = out) (h2 : b.length = out) h3 h4 h5 h6 => hinv_step (L2 := a) (M2 := b) hix hn ho hI h1 h2 h3 h4 h5 h6
      rw [gnd o] at b4 hs
      have sl : ∀ v, (L'.set o v).getD o 0 = v := fun v => getD_set_eq (by omega)
      have sm : ∀ v, (M'.set o v).getD o 0 = v := fun v => getD_set_eq (by omega)
      have ne : ∀ (l : List Int) v o', o' ≠ o → (l.set o v).getD o' 0 = l.getD o' 0 := fun l v o' h => getD_set_ne fun e => h e.symm
      generalize hv : vals.getD (nd + o) 0 = v at *
      have eS : ∀ l : List Int, l.set o v = l.set ((o : Int).toNat + 0) (vals.getD ((nd : Int) + (o : Int)).toNat 0) := fun l => by rw [b5, hv]; rfl
      by_cases c1 : n = 0 ∨ v < L'.getD o 0
      · by_cases c2 : n = 0 ∨ M'.getD o 0 < v
        · repeat' (first
            | with_reducible first | refine Tw.seq ?_ | refine Tw.reg ?_ | refine Tw.block ?_ | refine Tw.scope ?_ | refine Tw.skip ?_ | refine Tw.exit ?_ | refine Tw.ret ?_ | refine seqN ?_ | refine seqR ?_ | refine seqE ?_ | refine blkN ?_ | refine blkR ?_ | refine blkE1 ?_ | refine blkE0 (by kernel_rfl) ?_ | refine scpN ?_ | refine scpR ?_ | refine scpE ?_ | refine TOps.nil ?_ | exact Conj.nil | refine Conj.cons rfl ?_ | refine Conj.same ?_ | refine Conj.ask ?_ ?_ | refine Tw.regd env ?_ | refine TDr.nil ⟨by kernel_rfl, ?_⟩
            | ((with_reducible refine TOps.any ?_); first | refine TOps.frunP env (by rfl) (by rfl) ?_ ?_ | (refine TOps.known (by rfl) ?_; refine TOps.strip env (by rfl) (by rfl) ?_ ?_))
            | ((with_reducible refine TDr.any ?_); refine TDr.frunP env (by rfl) (by rfl) ?_ ?_)
            | ((with_reducible refine Tw.any ?_); first | refine Tw.condT (by rfl) ?_ | refine Tw.condF (by rfl) ?_)
            | ((first | ((with_reducible refine TOps.any ?_); (fail_if_success refine TOps.known (by rfl) ?_); refine TOps.ask (by rfl) (fun h => ?_) (fun h => ?_)) | ((with_reducible refine TDr.any ?_); (fail_if_success refine TDr.known (by first | rfl | assumption) ?_); refine TDr.ask (by rfl) (fun h hk => ?_) (fun h => ?_)) | ((with_reducible refine Tw.any ?_); refine Tw.cond (by rfl) (fun h => ?_) (fun h => ?_))) <;> (try simp only [goS] at h) <;> (try simp only [rdi, hL', hM', b5, hv, Int.toNat_natCast, Nat.add_zero] at h) <;> (try (exfalso; (try simp only [goP, reduceCtorEq] at h) <;> (first | assumption | omega | contradiction | (rcases h with ⟨_, _⟩ <;> first | contradiction | omega) | (rcases h with h | h <;> first | contradiction | omega)))))
            | ((with_reducible refine tret.any ?_); first | refine tret.ok (by rfl) ?_ | refine tret.okN (by rfl) ?_)
            | ((with_reducible refine Due.mk ?_); (first | with_reducible rfl | omega | assumption | decide | ((try simp only [goS] at *) <;> (try intro h) <;> (try intro h') <;> (try simp only [goS] at *) <;> (try simp only [rdi, hL', hM', b5, hv, Int.toNat_natCast, Nat.add_zero] at *) <;> (try simp only [rng]) <;> (first | assumption | omega)) | (exact due_app0 (by omega)) | (exact due_app (by omega)) | (intros; simp; done) | (intros; simp; omega)))
            | with_reducible refine Due.mk ?_
            | omega)
          refine ⟨(o + 1, (L'.set o v), (M'.set o v)), ⟨by dsimp only; omega, hs (L'.set o v) (M'.set o v) (by simp [hL']) (by simp [hM']) (fun o' h => by first | rfl | exact ne _ _ _ h) (fun o' h => by first | rfl | exact ne _ _ _ h) (by first | (rw [sl]; omega) | omega) (by first | (rw [sm]; omega) | omega)⟩, by dsimp only; omega, TWk.fcanon env [some 0, some 1, some 2, some 3, some 4] (by rfl) ?_⟩
          repeat' (first
            | exact eS L'
            | exact eS M'
            | with_reducible first | refine Tw.seq ?_ | refine Tw.reg ?_ | refine Tw.block ?_ | refine Tw.scope ?_ | refine Tw.skip ?_ | refine Tw.exit ?_ | refine Tw.ret ?_ | refine seqN ?_ | refine seqR ?_ | refine seqE ?_ | refine blkN ?_ | refine blkR ?_ | refine blkE1 ?_ | refine blkE0 (by kernel_rfl) ?_ | refine scpN ?_ | refine scpR ?_ | refine scpE ?_ | refine TOps.nil ?_ | exact Conj.nil | refine Conj.cons rfl ?_ | refine Conj.same ?_ | refine Conj.ask ?_ ?_ | refine Tw.regd env ?_ | refine TDr.nil ⟨by kernel_rfl, ?_⟩
            | ((with_reducible refine TOps.any ?_); first | refine TOps.frunP env (by rfl) (by rfl) ?_ ?_ | (refine TOps.known (by rfl) ?_; refine TOps.strip env (by rfl) (by rfl) ?_ ?_))
            | ((with_reducible refine TDr.any ?_); refine TDr.frunP env (by rfl) (by rfl) ?_ ?_)
            | ((with_reducible refine Tw.any ?_); first | refine Tw.condT (by rfl) ?_ | refine Tw.condF (by rfl) ?_)
            | ((first | ((with_reducible refine TOps.any ?_); (fail_if_success refine TOps.known (by rfl) ?_); refine TOps.ask (by rfl) (fun h => ?_) (fun h => ?_)) | ((with_reducible refine TDr.any ?_); (fail_if_success refine TDr.known (by first | rfl | assumption) ?_); refine TDr.ask (by rfl) (fun h hk => ?_) (fun h => ?_)) | ((with_reducible refine Tw.any ?_); refine Tw.cond (by rfl) (fun h => ?_) (fun h => ?_))) <;> (try simp only [goS] at h) <;> (try simp only [rdi, Int.toNat_natCast, Nat.add_zero] at h))
            | ((with_reducible refine tret.any ?_); first | refine tret.ok (by rfl) ?_ | refine tret.okN (by rfl) ?_)
            | ((with_reducible refine Due.mk ?_); (first | with_reducible rfl | omega | assumption | decide | ((try simp only [goS] at *) <;> (try intro h) <;> (try intro h') <;> (try simp only [goS] at *) <;> (try simp only [rdi, Int.toNat_natCast, Nat.add_zero] at *) <;> (try simp only [rng]) <;> (first | assumption | omega)) | (exact due_app0 (by omega)) | (exact due_app (by omega)) | (intros; simp; done) | (intros; simp; omega)))
            | with_reducible refine Due.mk ?_
            | omega)
        · repeat' (first
            | with_reducible first | refine Tw.seq ?_ | refine Tw.reg ?_ | refine Tw.block ?_ | refine Tw.scope ?_ | refine Tw.skip ?_ | refine Tw.exit ?_ | refine Tw.ret ?_ | refine seqN ?_ | refine seqR ?_ | refine seqE ?_ | refine blkN ?_ | refine blkR ?_ | refine blkE1 ?_ | refine blkE0 (by kernel_rfl) ?_ | refine scpN ?_ | refine scpR ?_ | refine scpE ?_ | refine TOps.nil ?_ | exact Conj.nil | refine Conj.cons rfl ?_ | refine Conj.same ?_ | refine Conj.ask ?_ ?_ | refine Tw.regd env ?_ | refine TDr.nil ⟨by kernel_rfl, ?_⟩
            | ((with_reducible refine TOps.any ?_); first | refine TOps.frunP env (by rfl) (by rfl) ?_ ?_ | (refine TOps.known (by rfl) ?_; refine TOps.strip env (by rfl) (by rfl) ?_ ?_))
            | ((with_reducible refine TDr.any ?_); refine TDr.frunP env (by rfl) (by rfl) ?_ ?_)
            | ((with_reducible refine Tw.any ?_); first | refine Tw.condT (by rfl) ?_ | refine Tw.condF (by rfl) ?_)
            | ((first | ((with_reducible refine TOps.any ?_); (fail_if_success refine TOps.known (by rfl) ?_); refine TOps.ask (by rfl) (fun h => ?_) (fun h => ?_)) | ((with_reducible refine TDr.any ?_); (fail_if_success refine TDr.known (by first | rfl | assumption) ?_); refine TDr.ask (by rfl) (fun h hk => ?_) (fun h => ?_)) | ((with_reducible refine Tw.any ?_); refine Tw.cond (by rfl) (fun h => ?_) (fun h => ?_))) <;> (try simp only [goS] at h) <;> (try simp only [rdi, hL', hM', b5, hv, Int.toNat_natCast, Nat.add_zero] at h) <;> (try (exfalso; (try simp only [goP, reduceCtorEq] at h) <;> (first | assumption | omega | contradiction | (rcases h with ⟨_, _⟩ <;> first | contradiction | omega) | (rcases h with h | h <;> first | contradiction | omega)))))
            | ((with_reducible refine tret.any ?_); first | refine tret.ok (by rfl) ?_ | refine tret.okN (by rfl) ?_)
            | ((with_reducible refine Due.mk ?_); (first | with_reducible rfl | omega | assumption | decide | ((try simp only [goS] at *) <;> (try intro h) <;> (try intro h') <;> (try simp only [goS] at *) <;> (try simp only [rdi, hL', hM', b5, hv, Int.toNat_natCast, Nat.add_zero] at *) <;> (try simp only [rng]) <;> (first | assumption | omega)) | (exact due_app0 (by omega)) | (exact due_app (by omega)) | (intros; simp; done) | (intros; simp; omega)))
            | with_reducible refine Due.mk ?_
            | omega)
          refine ⟨(o + 1, (L'.set o v), M'), ⟨by dsimp only; omega, hs (L'.set o v) M' (by simp [hL']) (by simp [hM']) (fun o' h => by first | rfl | exact ne _ _ _ h) (fun o' h => by first | rfl | exact ne _ _ _ h) (by first | (rw [sl]; omega) | omega) (by first | (rw [sm]; omega) | omega)⟩, by dsimp only; omega, TWk.fcanon env [some 0, some 1, some 2, some 3, some 4] (by rfl) ?_⟩
          repeat' (first
            | exact eS L'
            | exact eS M'
            | with_reducible first | refine Tw.seq ?_ | refine Tw.reg ?_ | refine Tw.block ?_ | refine Tw.scope ?_ | refine Tw.skip ?_ | refine Tw.exit ?_ | refine Tw.ret ?_ | refine seqN ?_ | refine seqR ?_ | refine seqE ?_ | refine blkN ?_ | refine blkR ?_ | refine blkE1 ?_ | refine blkE0 (by kernel_rfl) ?_ | refine scpN ?_ | refine scpR ?_ | refine scpE ?_ | refine TOps.nil ?_ | exact Conj.nil | refine Conj.cons rfl ?_ | refine Conj.same ?_ | refine Conj.ask ?_ ?_ | refine Tw.regd env ?_ | refine TDr.nil ⟨by kernel_rfl, ?_⟩
            | ((with_reducible refine TOps.any ?_); first | refine TOps.frunP env (by rfl) (by rfl) ?_ ?_ | (refine TOps.known (by rfl) ?_; refine TOps.strip env (by rfl) (by rfl) ?_ ?_))
            | ((with_reducible refine TDr.any ?_); refine TDr.frunP env (by rfl) (by rfl) ?_ ?_)
            | ((with_reducible refine Tw.any ?_); first | refine Tw.condT (by rfl) ?_ | refine Tw.condF (by rfl) ?_)
            | ((first | ((with_reducible refine TOps.any ?_); (fail_if_success refine TOps.known (by rfl) ?_); refine TOps.ask (by rfl) (fun h => ?_) (fun h => ?_)) | ((with_reducible refine TDr.any ?_); (fail_if_success refine TDr.known (by first | rfl | assumption) ?_); refine TDr.ask (by rfl) (fun h hk => ?_) (fun h => ?_)) | ((with_reducible refine Tw.any ?_); refine Tw.cond (by rfl) (fun h => ?_) (fun h => ?_))) <;> (try simp only [goS] at h) <;> (try simp only [rdi, Int.toNat_natCast, Nat.add_zero] at h))
            | ((with_reducible refine tret.any ?_); first | refine tret.ok (by rfl) ?_ | refine tret.okN (by rfl) ?_)
            | ((with_reducible refine Due.mk ?_); (first | with_reducible rfl | omega | assumption | decide | ((try simp only [goS] at *) <;> (try intro h) <;> (try intro h') <;> (try simp only [goS] at *) <;> (try simp only [rdi, Int.toNat_natCast, Nat.add_zero] at *) <;> (try simp only [rng]) <;> (first | assumption | omega)) | (exact due_app0 (by omega)) | (exact due_app (by omega)) | (intros; simp; done) | (intros; simp; omega)))
            | with_reducible refine Due.mk ?_
            | omega)
      · by_cases c2 : n = 0 ∨ M'.getD o 0 < v
        · repeat' (first
            | with_reducible first | refine Tw.seq ?_ | refine Tw.reg ?_ | refine Tw.block ?_ | refine Tw.scope ?_ | refine Tw.skip ?_ | refine Tw.exit ?_ | refine Tw.ret ?_ | refine seqN ?_ | refine seqR ?_ | refine seqE ?_ | refine blkN ?_ | refine blkR ?_ | refine blkE1 ?_ | refine blkE0 (by kernel_rfl) ?_ | refine scpN ?_ | refine scpR ?_ | refine scpE ?_ | refine TOps.nil ?_ | exact Conj.nil | refine Conj.cons rfl ?_ | refine Conj.same ?_ | refine Conj.ask ?_ ?_ | refine Tw.regd env ?_ | refine TDr.nil ⟨by kernel_rfl, ?_⟩
            | ((with_reducible refine TOps.any ?_); first | refine TOps.frunP env (by rfl) (by rfl) ?_ ?_ | (refine TOps.known (by rfl) ?_; refine TOps.strip env (by rfl) (by rfl) ?_ ?_))
            | ((with_reducible refine TDr.any ?_); refine TDr.frunP env (by rfl) (by rfl) ?_ ?_)
            | ((with_reducible refine Tw.any ?_); first | refine Tw.condT (by rfl) ?_ | refine Tw.condF (by rfl) ?_)
            | ((first | ((with_reducible refine TOps.any ?_); (fail_if_success refine TOps.known (by rfl) ?_); refine TOps.ask (by rfl) (fun h => ?_) (fun h => ?_)) | ((with_reducible refine TDr.any ?_); (fail_if_success refine TDr.known (by first | rfl | assumption) ?_); refine TDr.ask (by rfl) (fun h hk => ?_) (fun h => ?_)) | ((with_reducible refine Tw.any ?_); refine Tw.cond (by rfl) (fun h => ?_) (fun h => ?_))) <;> (try simp only [goS] at h) <;> (try simp only [rdi, hL', hM', b5, hv, Int.toNat_natCast, Nat.add_zero] at h) <;> (try (exfalso; (try simp only [goP, reduceCtorEq] at h) <;> (first | assumption | omega | contradiction | (rcases h with ⟨_, _⟩ <;> first | contradiction | omega) | (rcases h with h | h <;> first | contradiction | omega)))))
            | ((with_reducible refine tret.any ?_); first | refine tret.ok (by rfl) ?_ | refine tret.okN (by rfl) ?_)
            | ((with_reducible refine Due.mk ?_); (first | with_reducible rfl | omega | assumption | decide | ((try simp only [goS] at *) <;> (try intro h) <;> (try intro h') <;> (try simp only [goS] at *) <;> (try simp only [rdi, hL', hM', b5, hv, Int.toNat_natCast, Nat.add_zero] at *) <;> (try simp only [rng]) <;> (first | assumption | omega)) | (exact due_app0 (by omega)) | (exact due_app (by omega)) | (intros; simp; done) | (intros; simp; omega)))
            | with_reducible refine Due.mk ?_
            | omega)
          refine ⟨(o + 1, L', (M'.set o v)), ⟨by dsimp only; omega, hs L' (M'.set o v) (by simp [hL']) (by simp [hM']) (fun o' h => by first | rfl | exact ne _ _ _ h) (fun o' h => by first | rfl | exact ne _ _ _ h) (by first | (rw [sl]; omega) | omega) (by first | (rw [sm]; omega) | omega)⟩, by dsimp only; omega, TWk.fcanon env [some 0, some 1, some 2, some 3, some 4] (by rfl) ?_⟩
          repeat' (first
            | exact eS L'
            | exact eS M'
            | with_reducible first | refine Tw.seq ?_ | refine Tw.reg ?_ | refine Tw.block ?_ | refine Tw.scope ?_ | refine Tw.skip ?_ | refine Tw.exit ?_ | refine Tw.ret ?_ | refine seqN ?_ | refine seqR ?_ | refine seqE ?_ | refine blkN ?_ | refine blkR ?_ | refine blkE1 ?_ | refine blkE0 (by kernel_rfl) ?_ | refine scpN ?_ | refine scpR ?_ | refine scpE ?_ | refine TOps.nil ?_ | exact Conj.nil | refine Conj.cons rfl ?_ | refine Conj.same ?_ | refine Conj.ask ?_ ?_ | refine Tw.regd env ?_ | refine TDr.nil ⟨by kernel_rfl, ?_⟩
            | ((with_reducible refine TOps.any ?_); first | refine TOps.frunP env (by rfl) (by rfl) ?_ ?_ | (refine TOps.known (by rfl) ?_; refine TOps.strip env (by rfl) (by rfl) ?_ ?_))
            | ((with_reducible refine TDr.any ?_); refine TDr.frunP env (by rfl) (by rfl) ?_ ?_)
            | ((with_reducible refine Tw.any ?_); first | refine Tw.condT (by rfl) ?_ | refine Tw.condF (by rfl) ?_)
            | ((first | ((with_reducible refine TOps.any ?_); (fail_if_success refine TOps.known (by rfl) ?_); refine TOps.ask (by rfl) (fun h => ?_) (fun h => ?_)) | ((with_reducible refine TDr.any ?_); (fail_if_success refine TDr.known (by first | rfl | assumption) ?_); refine TDr.ask (by rfl) (fun h hk => ?_) (fun h => ?_)) | ((with_reducible refine Tw.any ?_); refine Tw.cond (by rfl) (fun h => ?_) (fun h => ?_))) <;> (try simp only [goS] at h) <;> (try simp only [rdi, Int.toNat_natCast, Nat.add_zero] at h))
            | ((with_reducible refine tret.any ?_); first | refine tret.ok (by rfl) ?_ | refine tret.okN (by rfl) ?_)
            | ((with_reducible refine Due.mk ?_); (first | with_reducible rfl | omega | assumption | decide | ((try simp only [goS] at *) <;> (try intro h) <;> (try intro h') <;> (try simp only [goS] at *) <;> (try simp only [rdi, Int.toNat_natCast, Nat.add_zero] at *) <;> (try simp only [rng]) <;> (first | assumption | omega)) | (exact due_app0 (by omega)) | (exact due_app (by omega)) | (intros; simp; done) | (intros; simp; omega)))
            | with_reducible refine Due.mk ?_
            | omega)
        · repeat' (first
            | with_reducible first | refine Tw.seq ?_ | refine Tw.reg ?_ | refine Tw.block ?_ | refine Tw.scope ?_ | refine Tw.skip ?_ | refine Tw.exit ?_ | refine Tw.ret ?_ | refine seqN ?_ | refine seqR ?_ | refine seqE ?_ | refine blkN ?_ | refine blkR ?_ | refine blkE1 ?_ | refine blkE0 (by kernel_rfl) ?_ | refine scpN ?_ | refine scpR ?_ | refine scpE ?_ | refine TOps.nil ?_ | exact Conj.nil | refine Conj.cons rfl ?_ | refine Conj.same ?_ | refine Conj.ask ?_ ?_ | refine Tw.regd env ?_ | refine TDr.nil ⟨by kernel_rfl, ?_⟩
            | ((with_reducible refine TOps.any ?_); first | refine TOps.frunP env (by rfl) (by rfl) ?_ ?_ | (refine TOps.known (by rfl) ?_; refine TOps.strip env (by rfl) (by rfl) ?_ ?_))
            | ((with_reducible refine TDr.any ?_); refine TDr.frunP env (by rfl) (by rfl) ?_ ?_)
            | ((with_reducible refine Tw.any ?_); first | refine Tw.condT (by rfl) ?_ | refine Tw.condF (by rfl) ?_)
            | ((first | ((with_reducible refine TOps.any ?_); (fail_if_success refine TOps.known (by rfl) ?_); refine TOps.ask (by rfl) (fun h => ?_) (fun h => ?_)) | ((with_reducible refine TDr.any ?_); (fail_if_success refine TDr.known (by first | rfl | assumption) ?_); refine TDr.ask (by rfl) (fun h hk => ?_) (fun h => ?_)) | ((with_reducible refine Tw.any ?_); refine Tw.cond (by rfl) (fun h => ?_) (fun h => ?_))) <;> (try simp only [goS] at h) <;> (try simp only [rdi, hL', hM', b5, hv, Int.toNat_natCast, Nat.add_zero] at h) <;> (try (exfalso; (try simp only [goP, reduceCtorEq] at h) <;> (first | assumption | omega | contradiction | (rcases h with ⟨_, _⟩ <;> first | contradiction | omega) | (rcases h with h | h <;> first | contradiction | omega)))))
            | ((with_reducible refine tret.any ?_); first | refine tret.ok (by rfl) ?_ | refine tret.okN (by rfl) ?_)
            | ((with_reducible refine Due.mk ?_); (first | with_reducible rfl | omega | assumption | decide | ((try simp only [goS] at *) <;> (try intro h) <;> (try intro h') <;> (try simp only [goS] at *) <;> (try simp only [rdi, hL', hM', b5, hv, Int.toNat_natCast, Nat.add_zero] at *) <;> (try simp only [rng]) <;> (first | assumption | omega)) | (exact due_app0 (by omega)) | (exact due_app (by omega)) | (intros; simp; done) | (intros; simp; omega)))
            | with_reducible refine Due.mk ?_
            | omega)
          refine ⟨(o + 1, L', M'), ⟨by dsimp only; omega, hs L' M' (by simp [hL']) (by simp [hM']) (fun o' h => by first | rfl | exact ne _ _ _ h) (fun o' h => by first | rfl | exact ne _ _ _ h) (by first | (rw [sl]; omega) | omega) (by first | (rw [sm]; omega) | omega)⟩, by dsimp only; omega, TWk.fcanon env [some 0, some 1, some 2, some 3, some 4] (by rfl) ?_⟩
          repeat' (first
            | exact eS L'
            | exact eS M'
            | with_reducible first | refine Tw.seq ?_ | refine Tw.reg ?_ | refine Tw.block ?_ | refine Tw.scope ?_ | refine Tw.skip ?_ | refine Tw.exit ?_ | refine Tw.ret ?_ | refine seqN ?_ | refine seqR ?_ | refine seqE ?_ | refine blkN ?_ | refine blkR ?_ | refine blkE1 ?_ | refine blkE0 (by kernel_rfl) ?_ | refine scpN ?_ | refine scpR ?_ | refine scpE ?_ | refine TOps.nil ?_ | exact Conj.nil | refine Conj.cons rfl ?_ | refine Conj.same ?_ | refine Conj.ask ?_ ?_ | refine Tw.regd env ?_ | refine TDr.nil ⟨by kernel_rfl, ?_⟩
            | ((with_reducible refine TOps.any ?_); first | refine TOps.frunP env (by rfl) (by rfl) ?_ ?_ | (refine TOps.known (by rfl) ?_; refine TOps.strip env (by rfl) (by rfl) ?_ ?_))
            | ((with_reducible refine TDr.any ?_); refine TDr.frunP env (by rfl) (by rfl) ?_ ?_)
            | ((with_reducible refine Tw.any ?_); first | refine Tw.condT (by rfl) ?_ | refine Tw.condF (by rfl) ?_)
            | ((first | ((with_reducible refine TOps.any ?_); (fail_if_success refine TOps.known (by rfl) ?_); refine TOps.ask (by rfl) (fun h => ?_) (fun h => ?_)) | ((with_reducible refine TDr.any ?_); (fail_if_success refine TDr.known (by first | rfl | assumption) ?_); refine TDr.ask (by rfl) (fun h hk => ?_) (fun h => ?_)) | ((with_reducible refine Tw.any ?_); refine Tw.cond (by rfl) (fun h => ?_) (fun h => ?_))) <;> (try simp only [goS] at h) <;> (try simp only [rdi, Int.toNat_natCast, Nat.add_zero] at h))
            | ((with_reducible refine tret.any ?_); first | refine tret.ok (by rfl) ?_ | refine tret.okN (by rfl) ?_)
            | ((with_reducible refine Due.mk ?_); (first | with_reducible rfl | omega | assumption | decide | ((try simp only [goS] at *) <;> (try intro h) <;> (try intro h') <;> (try simp only [goS] at *) <;> (try simp only [rdi, Int.toNat_natCast, Nat.add_zero] at *) <;> (try simp only [rng]) <;> (first | assumption | omega)) | (exact due_app0 (by omega)) | (exact due_app (by omega)) | (intros; simp; done) | (intros; simp; omega)))
            | with_reducible refine Due.mk ?_
            | omega)
    · obtain rfl : out = o := by omega
      have hdone : ∀ o', o' < out → ∀ x, inB inn fr to x → br inn fr to x inn < n + 1 → L'.getD o' 0 ≤ gnode vals out s o' (tab inn x) ∧ gnode vals out s o' (tab inn x) ≤ M'.getD o' 0 := fun o' h x hx hr => hI.2.2 o' h x hx (by rw [if_pos h]; exact hr)
      repeat' (first
        | with_reducible first | refine Tw.seq ?_ | refine Tw.reg ?_ | refine Tw.block ?_ | refine Tw.scope ?_ | refine Tw.skip ?_ | refine Tw.exit ?_ | refine Tw.ret ?_ | refine seqN ?_ | refine seqR ?_ | refine seqE ?_ | refine blkN ?_ | refine blkR ?_ | refine blkE1 ?_ | refine blkE0 (by kernel_rfl) ?_ | refine scpN ?_ | refine scpR ?_ | refine scpE ?_ | refine TOps.nil ?_ | exact Conj.nil | refine Conj.cons rfl ?_ | refine Conj.same ?_ | refine Conj.ask ?_ ?_ | refine Tw.regd env ?_ | refine TDr.nil ⟨by kernel_rfl, ?_⟩
        | ((with_reducible refine TOps.any ?_); first | refine TOps.frunP env (by rfl) (by rfl) ?_ ?_ | (refine TOps.known (by rfl) ?_; refine TOps.strip env (by rfl) (by rfl) ?_ ?_))
        | ((with_reducible refine TDr.any ?_); refine TDr.frunP env (by rfl) (by rfl) ?_ ?_)
        | ((with_reducible refine Tw.any ?_); first | refine Tw.condT (by rfl) ?_ | refine Tw.condF (by rfl) ?_)
        | ((first | ((with_reducible refine TOps.any ?_); (fail_if_success refine TOps.known (by rfl) ?_); refine TOps.ask (by rfl) (fun h => ?_) (fun h => ?_)) | ((with_reducible refine TDr.any ?_); (fail_if_success refine TDr.known (by first | rfl | assumption) ?_); refine TDr.ask (by rfl) (fun h hk => ?_) (fun h => ?_)) | ((with_reducible refine Tw.any ?_); refine Tw.cond (by rfl) (fun h => ?_) (fun h => ?_))) <;> (try simp only [goS] at h) <;> (try simp only [rdi, Int.toNat_natCast, Nat.add_zero] at h) <;> (try (exfalso; (try simp only [goP, reduceCtorEq] at h) <;> (first | assumption | omega | contradiction | (rcases h with ⟨_, _⟩ <;> first | contradiction | omega) | (rcases h with h | h <;> first | contradiction | omega)))))
        | ((with_reducible refine tret.any ?_); first | refine tret.ok (by rfl) ?_ | refine tret.okN (by rfl) ?_)
        | ((with_reducible refine Due.mk ?_); (first | with_reducible rfl | omega | assumption | decide | ((try simp only [goS] at *) <;> (try intro h) <;> (try intro h') <;> (try simp only [goS] at *) <;> (try simp only [rdi, Int.toNat_natCast, Nat.add_zero] at *) <;> (try simp only [rng]) <;> (first | assumption | omega)) | (exact due_app0 (by omega)) | (exact due_app (by omega)) | (intros; simp; done) | (intros; simp; omega)))
        | with_reducible refine Due.mk ?_
        | omega)
      have tG : ∀ j, j < inn → (t4 fun i => if i < inn then ((to i : Nat) : Int) else 0).getD j 0 = ((to j : Nat) : Int) := fun j hj => by rw [t4_get (by omega), if_pos hj]
      have fG : ∀ j, j < inn → (t4 fun i => if i < inn then ((fr i : Nat) : Int) else 0).getD j 0 = ((fr j : Nat) : Int) := fun j hj => by rw [t4_get (by omega), if_pos hj]
      refine Tw.loopK [0, 9, 10, 11, 13, 14, 15] (fun q : Nat × (Nat → Nat) => q.1 ≤ inn ∧ (∀ k, k < q.1 → q.2 k = ix k) ∧ ∀ k, q.1 ≤ k → k < inn → ix k = to k ∧ q.2 k = fr k) (fun q => q.1) (fun q => [(19, .int .i64 ((q.1 : Int) - 1))])
        (fun q => [some (.arr Ei (t4 fun i => if i < inn then ((fr i : Nat) : Int) else 0)), some (.arr Ei (t4 fun i => if i < inn then ((to i : Nat) : Int) else 0)), some (.arr Ei (t4 fun i => if i < inn then ((q.2 i : Nat) : Int) else 0)), some (.arr Ei L'), some (.arr Ei M')])
        ⟨(inn, ix), ⟨by dsimp only; omega, fun _ _ => rfl, fun k h1 h2 => by dsimp only at h1; omega⟩, TWk.fcanon env [some 0, some 1, some 2, some 3, some 4] (by rfl) ?_⟩ (fun q hq => ?_)
      · repeat' (first
          | with_reducible first | refine Tw.seq ?_ | refine Tw.reg ?_ | refine Tw.block ?_ | refine Tw.scope ?_ | refine Tw.skip ?_ | refine Tw.exit ?_ | refine Tw.ret ?_ | refine seqN ?_ | refine seqR ?_ | refine seqE ?_ | refine blkN ?_ | refine blkR ?_ | refine blkE1 ?_ | refine blkE0 (by kernel_rfl) ?_ | refine scpN ?_ | refine scpR ?_ | refine scpE ?_ | refine TOps.nil ?_ | exact Conj.nil | refine Conj.cons rfl ?_ | refine Conj.same ?_ | refine Conj.ask ?_ ?_ | refine Tw.regd env ?_ | refine TDr.nil ⟨by kernel_rfl, ?_⟩
          | ((with_reducible refine TOps.any ?_); first | refine TOps.frunP env (by rfl) (by rfl) ?_ ?_ | (refine TOps.known (by rfl) ?_; refine TOps.strip env (by rfl) (by rfl) ?_ ?_))
          | ((with_reducible refine TDr.any ?_); refine TDr.frunP env (by rfl) (by rfl) ?_ ?_)
          | ((with_reducible refine Tw.any ?_); first | refine Tw.condT (by rfl) ?_ | refine Tw.condF (by rfl) ?_)
          | ((first | ((with_reducible refine TOps.any ?_); (fail_if_success refine TOps.known (by rfl) ?_); refine TOps.ask (by rfl) (fun h => ?_) (fun h => ?_)) | ((with_reducible refine TDr.any ?_); (fail_if_success refine TDr.known (by first | rfl | assumption) ?_); refine TDr.ask (by rfl) (fun h hk => ?_) (fun h => ?_)) | ((with_reducible refine Tw.any ?_); refine Tw.cond (by rfl) (fun h => ?_) (fun h => ?_))) <;> (try simp only [goS] at h) <;> (try simp only [rdi, Int.toNat_natCast, Nat.add_zero] at h))
          | ((with_reducible refine tret.any ?_); first | refine tret.ok (by rfl) ?_ | refine tret.okN (by rfl) ?_)
          | ((with_reducible refine Due.mk ?_); (first | with_reducible rfl | omega | assumption | decide | ((try simp only [goS] at *) <;> (try intro h) <;> (try intro h') <;> (try simp only [goS] at *) <;> (try simp only [rdi, Int.toNat_natCast, Nat.add_zero] at *) <;> (try simp only [rng]) <;> (first | assumption | omega)) | (exact due_app0 (by omega)) | (exact due_app (by omega)) | (intros; simp; done) | (intros; simp; omega)))
          | with_reducible refine Due.mk ?_
          | omega)
      obtain ⟨k, iy⟩ := q
      dsimp only at hq ⊢
      obtain ⟨hk, hlo, hhi⟩ := hq
      by_cases hk0 : k = 0
      · subst hk0
        repeat' (first
          | ((with_reducible refine Tw.retI ?_); refine Tw.gc env [3, 4] [6, 7] (by rfl) (by rfl) ?_ (Tw.ret ?_))
          | with_reducible first | refine Tw.seq ?_ | refine Tw.reg ?_ | refine Tw.block ?_ | refine Tw.scope ?_ | refine Tw.skip ?_ | refine Tw.exit ?_ | refine Tw.ret ?_ | refine seqN ?_ | refine seqR ?_ | refine seqE ?_ | refine blkN ?_ | refine blkR ?_ | refine blkE1 ?_ | refine blkE0 (by kernel_rfl) ?_ | refine scpN ?_ | refine scpR ?_ | refine scpE ?_ | refine TOps.nil ?_ | exact Conj.nil | refine Conj.cons rfl ?_ | refine Conj.same ?_ | refine Conj.ask ?_ ?_ | refine Tw.regd env ?_ | refine TDr.nil ⟨by kernel_rfl, ?_⟩
          | ((with_reducible refine TOps.any ?_); first | refine TOps.frunP env (by rfl) (by rfl) ?_ ?_ | (refine TOps.known (by rfl) ?_; refine TOps.strip env (by rfl) (by rfl) ?_ ?_))
          | ((with_reducible refine TDr.any ?_); refine TDr.frunP env (by rfl) (by rfl) ?_ ?_)
          | ((with_reducible refine Tw.any ?_); first | refine Tw.condT (by rfl) ?_ | refine Tw.condF (by rfl) ?_)
          | ((first | ((with_reducible refine TOps.any ?_); (fail_if_success refine TOps.known (by rfl) ?_); refine TOps.ask (by rfl) (fun h => ?_) (fun h => ?_)) | ((with_reducible refine TDr.any ?_); (fail_if_success refine TDr.known (by first | rfl | assumption) ?_); refine TDr.ask (by rfl) (fun h hk => ?_) (fun h => ?_)) | ((with_reducible refine Tw.any ?_); refine Tw.cond (by rfl) (fun h => ?_) (fun h => ?_))) <;> (try simp only [goS] at h) <;> (try simp only [rdi, l4, Int.toNat_natCast, Nat.add_zero] at h) <;> (try (exfalso; (try simp only [goP, reduceCtorEq] at h) <;> (first | assumption | omega | contradiction | (rcases h with ⟨_, _⟩ <;> first | contradiction | omega) | (rcases h with h | h <;> first | contradiction | omega)))))
          | ((with_reducible refine tret.any ?_); first | refine tret.ok (by rfl) ?_ | refine tret.okN (by rfl) ?_)
          | ((with_reducible refine Due.mk ?_); (first | with_reducible rfl | omega | assumption | decide | ((try simp only [goS] at *) <;> (try intro h) <;> (try intro h') <;> (try simp only [goS] at *) <;> (try simp only [rdi, l4, Int.toNat_natCast, Nat.add_zero] at *) <;> (try simp only [rng]) <;> (first | assumption | omega)) | (exact due_app0 (by omega)) | (exact due_app (by omega)) | (intros; simp; done) | (intros; simp; omega)))
          | with_reducible refine Due.mk ?_
          | omega)
        all_goals
          refine ⟨L', M', ⟨hI.1, hI.2.1, fun o ho x hx => hdone o ho x hx ?_⟩, rfl, rfl⟩
          have h1 := br_top hix (Nat.le_refl _) fun k _ h2 => (hhi k (by omega) h2).1
          have h2 := br_lt hx (Nat.le_refl _)
          omega
      · obtain ⟨k, rfl⟩ : ∃ k', k = k' + 1 := ⟨k - 1, by omega⟩
        have c1 : (((k + 1 : Nat) : Int) - 1).toNat = k := by omega
        have c2 := hlo k (by omega)
        have c3 : (t4 fun i => if i < inn then ((iy i : Nat) : Int) else 0).getD k 0 = ((ix k : Nat) : Int) := by rw [t4_get (by omega), if_pos (by omega), c2]
        have c4 := tG k (by omega)
        have c5 := fG k (by omega)
        have c6 := hix k (by omega)
        have c7 := frto k (by omega)
        have upd : ∀ v : Nat, (t4 fun i => if i < inn then ((iy i : Nat) : Int) else 0).set k (v : Int) = t4 fun i => if i < inn then (((if i = k then v else iy i) : Nat) : Int) else 0 := fun v => by
          rw [t4_set]
          exact t4_congr fun i _ => by
            by_cases e : i = k
            · subst e; rw [if_pos rfl, if_pos (by omega), if_pos rfl]
            · rw [if_neg e, if_neg e]
        by_cases he : ix k = to k
        · repeat' (first
            | with_reducible first | refine Tw.seq ?_ | refine Tw.reg ?_ | refine Tw.block ?_ | refine Tw.scope ?_ | refine Tw.skip ?_ | refine Tw.exit ?_ | refine Tw.ret ?_ | refine seqN ?_ | refine seqR ?_ | refine seqE ?_ | refine blkN ?_ | refine blkR ?_ | refine blkE1 ?_ | refine blkE0 (by kernel_rfl) ?_ | refine scpN ?_ | refine scpR ?_ | refine scpE ?_ | refine TOps.nil ?_ | exact Conj.nil | refine Conj.cons rfl ?_ | refine Conj.same ?_ | refine Conj.ask ?_ ?_ | refine Tw.regd env ?_ | refine TDr.nil ⟨by kernel_rfl, ?_⟩
            | ((with_reducible refine TOps.any ?_); first | refine TOps.frunP env (by rfl) (by rfl) ?_ ?_ | (refine TOps.known (by rfl) ?_; refine TOps.strip env (by rfl) (by rfl) ?_ ?_))
            | ((with_reducible refine TDr.any ?_); refine TDr.frunP env (by rfl) (by rfl) ?_ ?_)
            | ((with_reducible refine Tw.any ?_); first | refine Tw.condT (by rfl) ?_ | refine Tw.condF (by rfl) ?_)
            | ((first | ((with_reducible refine TOps.any ?_); (fail_if_success refine TOps.known (by rfl) ?_); refine TOps.ask (by rfl) (fun h => ?_) (fun h => ?_)) | ((with_reducible refine TDr.any ?_); (fail_if_success refine TDr.known (by first | rfl | assumption) ?_); refine TDr.ask (by rfl) (fun h hk => ?_) (fun h => ?_)) | ((with_reducible refine Tw.any ?_); refine Tw.cond (by rfl) (fun h => ?_) (fun h => ?_))) <;> (try simp only [goS] at h) <;> (try simp only [rdi, l4, c1, c3, c4, c5, Int.toNat_natCast, Nat.add_zero] at h) <;> (try (exfalso; (try simp only [goP, reduceCtorEq] at h) <;> (first | assumption | omega | contradiction | (rcases h with ⟨_, _⟩ <;> first | contradiction | omega) | (rcases h with h | h <;> first | contradiction | omega)))))
            | ((with_reducible refine tret.any ?_); first | refine tret.ok (by rfl) ?_ | refine tret.okN (by rfl) ?_)
            | ((with_reducible refine Due.mk ?_); (first | with_reducible rfl | omega | assumption | decide | ((try simp only [goS] at *) <;> (try intro h) <;> (try intro h') <;> (try simp only [goS] at *) <;> (try simp only [rdi, l4, c1, c3, c4, c5, Int.toNat_natCast, Nat.add_zero] at *) <;> (try simp only [rng]) <;> (first | assumption | omega)) | (exact due_app0 (by omega)) | (exact due_app (by omega)) | (intros; simp; done) | (intros; simp; omega)))
            | with_reducible refine Due.mk ?_
            | omega)
          refine ⟨(k, fun i => if i = k then fr k else iy i), ⟨by dsimp only; omega, fun k' h => ?_, fun k' h1 h2 => ?_⟩, by dsimp only; omega, TWk.fcanon env [some 0, some 1, some 2, some 3, some 4] (by rfl) ?_⟩
          · dsimp only at h ⊢
            rw [if_neg (by omega)]; exact hlo k' (by omega)
          · dsimp only at h1 ⊢
            by_cases e : k' = k
            · subst e; rw [if_pos rfl]; exact ⟨he, rfl⟩
            · rw [if_neg e]; exact hhi k' (by omega) h2
          · have e2 : (t4 fun i => if i < inn then ((iy i : Nat) : Int) else 0).set (((k + 1 : Nat) : Int) - 1).toNat ((t4 fun i => if i < inn then ((fr i : Nat) : Int) else 0).getD (((k + 1 : Nat) : Int) - 1).toNat 0) = t4 fun i => if i < inn then (((if i = k then fr k else iy i) : Nat) : Int) else 0 := by
              rw [c1, c5]; exact upd _
            repeat' (first
              | exact e2.symm
              | with_reducible first | refine Tw.seq ?_ | refine Tw.reg ?_ | refine Tw.block ?_ | refine Tw.scope ?_ | refine Tw.skip ?_ | refine Tw.exit ?_ | refine Tw.ret ?_ | refine seqN ?_ | refine seqR ?_ | refine seqE ?_ | refine blkN ?_ | refine blkR ?_ | refine blkE1 ?_ | refine blkE0 (by kernel_rfl) ?_ | refine scpN ?_ | refine scpR ?_ | refine scpE ?_ | refine TOps.nil ?_ | exact Conj.nil | refine Conj.cons rfl ?_ | refine Conj.same ?_ | refine Conj.ask ?_ ?_ | refine Tw.regd env ?_ | refine TDr.nil ⟨by kernel_rfl, ?_⟩
              | ((with_reducible refine TOps.any ?_); first | refine TOps.frunP env (by rfl) (by rfl) ?_ ?_ | (refine TOps.known (by rfl) ?_; refine TOps.strip env (by rfl) (by rfl) ?_ ?_))
              | ((with_reducible refine TDr.any ?_); refine TDr.frunP env (by rfl) (by rfl) ?_ ?_)
              | ((with_reducible refine Tw.any ?_); first | refine Tw.condT (by rfl) ?_ | refine Tw.condF (by rfl) ?_)
              | ((first | ((with_reducible refine TOps.any ?_); (fail_if_success refine TOps.known (by rfl) ?_); refine TOps.ask (by rfl) (fun h => ?_) (fun h => ?_)) | ((with_reducible refine TDr.any ?_); (fail_if_success refine TDr.known (by first | rfl | assumption) ?_); refine TDr.ask (by rfl) (fun h hk => ?_) (fun h => ?_)) | ((with_reducible refine Tw.any ?_); refine Tw.cond (by rfl) (fun h => ?_) (fun h => ?_))) <;> (try simp only [goS] at h) <;> (try simp only [rdi, Int.toNat_natCast, Nat.add_zero] at h))
              | ((with_reducible refine tret.any ?_); first | refine tret.ok (by rfl) ?_ | refine tret.okN (by rfl) ?_)
              | ((with_reducible refine Due.mk ?_); (first | with_reducible rfl | omega | assumption | decide | ((try simp only [goS] at *) <;> (try intro h) <;> (try intro h') <;> (try simp only [goS] at *) <;> (try simp only [rdi, Int.toNat_natCast, Nat.add_zero] at *) <;> (try simp only [rng]) <;> (first | assumption | omega)) | (exact due_app0 (by omega)) | (exact due_app (by omega)) | (intros; simp; done) | (intros; simp; omega)))
              | with_reducible refine Due.mk ?_
              | omega)
        · have nx := br_next (iy := fun i => if i = k then ix k + 1 else iy i) (k0 := k) (by omega) hix (fun k' h => by rw [if_neg (by omega)]; exact hlo k' (by omega)) (by rw [if_pos rfl]) (by omega) fun k' h1 h2 => by rw [if_neg (by omega)]; exact hhi k' (by omega) h2
          have h1 := br_lt hix (Nat.le_refl _)
          have e3 : (t4 fun i => if i < inn then ((iy i : Nat) : Int) else 0).set (((k + 1 : Nat) : Int) - 1).toNat ((t4 fun i => if i < inn then ((iy i : Nat) : Int) else 0).getD (((k + 1 : Nat) : Int) - 1).toNat 0 + 1) = t4 fun i => if i < inn then (((if i = k then ix k + 1 else iy i) : Nat) : Int) else 0 := by
            rw [c1, c3]; exact upd (ix k + 1)
          repeat' (first
            | with_reducible first | refine Tw.seq ?_ | refine Tw.reg ?_ | refine Tw.block ?_ | refine Tw.scope ?_ | refine Tw.skip ?_ | refine Tw.exit ?_ | refine Tw.ret ?_ | refine seqN ?_ | refine seqR ?_ | refine seqE ?_ | refine blkN ?_ | refine blkR ?_ | refine blkE1 ?_ | refine blkE0 (by kernel_rfl) ?_ | refine scpN ?_ | refine scpR ?_ | refine scpE ?_ | refine TOps.nil ?_ | exact Conj.nil | refine Conj.cons rfl ?_ | refine Conj.same ?_ | refine Conj.ask ?_ ?_ | refine Tw.regd env ?_ | refine TDr.nil ⟨by kernel_rfl, ?_⟩
            | ((with_reducible refine TOps.any ?_); first | refine TOps.frunP env (by rfl) (by rfl) ?_ ?_ | (refine TOps.known (by rfl) ?_; refine TOps.strip env (by rfl) (by rfl) ?_ ?_))
            | ((with_reducible refine TDr.any ?_); refine TDr.frunP env (by rfl) (by rfl) ?_ ?_)
            | ((with_reducible refine Tw.any ?_); first | refine Tw.condT (by rfl) ?_ | refine Tw.condF (by rfl) ?_)
            | ((first | ((with_reducible refine TOps.any ?_); (fail_if_success refine TOps.known (by rfl) ?_); refine TOps.ask (by rfl) (fun h => ?_) (fun h => ?_)) | ((with_reducible refine TDr.any ?_); (fail_if_success refine TDr.known (by first | rfl | assumption) ?_); refine TDr.ask (by rfl) (fun h hk => ?_) (fun h => ?_)) | ((with_reducible refine Tw.any ?_); refine Tw.cond (by rfl) (fun h => ?_) (fun h => ?_))) <;> (try simp only [goS] at h) <;> (try simp only [rdi, l4, c1, c3, c4, c5, Int.toNat_natCast, Nat.add_zero] at h) <;> (try (exfalso; (try simp only [goP, reduceCtorEq] at h) <;> (first | assumption | omega | contradiction | (rcases h with ⟨_, _⟩ <;> first | contradiction | omega) | (rcases h with h | h <;> first | contradiction | omega)))))
            | ((with_reducible refine tret.any ?_); first | refine tret.ok (by rfl) ?_ | refine tret.okN (by rfl) ?_)
            | ((with_reducible refine Due.mk ?_); (first | with_reducible rfl | omega | assumption | decide | ((try simp only [goS] at *) <;> (try intro h) <;> (try intro h') <;> (try simp only [goS] at *) <;> (try simp only [rdi, l4, c1, c3, c4, c5, Int.toNat_natCast, Nat.add_zero] at *) <;> (try simp only [rng]) <;> (first | assumption | omega)) | (exact due_app0 (by omega)) | (exact due_app (by omega)) | (intros; simp; done) | (intros; simp; omega)))
            | with_reducible refine Due.mk ?_
            | omega)
          have e4 : decide (br inn fr to (fun i => if i = k then ix k + 1 else iy i) inn = 0) = false := by rw [nx.1]; simp
          refine ⟨(fun i => if i = k then ix k + 1 else iy i, L', M'), ⟨nx.2, hI.1, hI.2.1, fun o ho x hx hr => hdone o ho x hx (by dsimp only at hr; omega)⟩, by dsimp only; omega, TWk.fcanon env [some 0, some 1, some 2, some 3, some 4] (by rfl) ?_⟩
          repeat' (first
            | exact e3.symm
            | exact e4
            | with_reducible first | refine Tw.seq ?_ | refine Tw.reg ?_ | refine Tw.block ?_ | refine Tw.scope ?_ | refine Tw.skip ?_ | refine Tw.exit ?_ | refine Tw.ret ?_ | refine seqN ?_ | refine seqR ?_ | refine seqE ?_ | refine blkN ?_ | refine blkR ?_ | refine blkE1 ?_ | refine blkE0 (by kernel_rfl) ?_ | refine scpN ?_ | refine scpR ?_ | refine scpE ?_ | refine TOps.nil ?_ | exact Conj.nil | refine Conj.cons rfl ?_ | refine Conj.same ?_ | refine Conj.ask ?_ ?_ | refine Tw.regd env ?_ | refine TDr.nil ⟨by kernel_rfl, ?_⟩
            | ((with_reducible refine TOps.any ?_); first | refine TOps.frunP env (by rfl) (by rfl) ?_ ?_ | (refine TOps.known (by rfl) ?_; refine TOps.strip env (by rfl) (by rfl) ?_ ?_))
            | ((with_reducible refine TDr.any ?_); refine TDr.frunP env (by rfl) (by rfl) ?_ ?_)
            | ((with_reducible refine Tw.any ?_); first | refine Tw.condT (by rfl) ?_ | refine Tw.condF (by rfl) ?_)
            | ((first | ((with_reducible refine TOps.any ?_); (fail_if_success refine TOps.known (by rfl) ?_); refine TOps.ask (by rfl) (fun h => ?_) (fun h => ?_)) | ((with_reducible refine TDr.any ?_); (fail_if_success refine TDr.known (by first | rfl | assumption) ?_); refine TDr.ask (by rfl) (fun h hk => ?_) (fun h => ?_)) | ((with_reducible refine Tw.any ?_); refine Tw.cond (by rfl) (fun h => ?_) (fun h => ?_))) <;> (try simp only [goS] at h) <;> (try simp only [rdi, Int.toNat_natCast, Nat.add_zero] at h))
            | ((with_reducible refine tret.any ?_); first | refine tret.ok (by rfl) ?_ | refine tret.okN (by rfl) ?_)
            | ((with_reducible refine Due.mk ?_); (first | with_reducible rfl | omega | assumption | decide | ((try simp only [goS] at *) <;> (try intro h) <;> (try intro h') <;> (try simp only [goS] at *) <;> (try simp only [rdi, Int.toNat_natCast, Nat.add_zero] at *) <;> (try simp only [rng]) <;> (first | assumption | omega)) | (exact due_app0 (by omega)) | (exact due_app (by omega)) | (intros; simp; done) | (intros; simp; omega)))
            | with_reducible refine Due.mk ?_
            | omega)
end Go.Proofs.Ythnfbdihihhoiaa
