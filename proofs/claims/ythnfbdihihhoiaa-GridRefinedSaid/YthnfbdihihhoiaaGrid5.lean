/- Grids: the index of a node. -/
import Derived.Test.YthnfbdihihhoiaaGrid3
import Derived.Test.YthnfbdihihhoiaaXGridRefined0
namespace Go.Proofs.Ythnfbdihihhoiaa
open Go Go.Lite
set_option linter.unusedVariables false
set_option linter.unusedSimpArgs false
set_option maxRecDepth 100000
set_option maxHeartbeats 4000000
-- @simp rdi

/-- The index i of node n. -/
def dg (s inn n i : Nat) : Nat := n / s ^ (inn - 1 - i) % s
theorem dg_lt {s inn n i : Nat} (h : 0 < s) : dg s inn n i < s := Nat.mod_lt _ h
theorem dg_step {s m n i : Nat} (hi : i < m) : dg s (m + 1) n i = dg s m (n / s) i := by
  unfold dg
  rw [Nat.div_div_eq_div_mul, ← Nat.pow_succ', show m + 1 - 1 - i = (m - 1 - i).succ by omega]
theorem ndx_dg {s : Nat} (hs : 0 < s) : ∀ {inn n : Nat}, n < s ^ inn → ndx s 0 (tab inn (dg s inn n)) = n
  | 0, n, h => by simp at h; subst h; rfl
  | m + 1, n, h => by
    rw [tab_succ, ndx_snoc, tab_congr fun i hi => dg_step hi, ndx_dg hs (by rw [Nat.pow_succ] at h; exact Nat.div_lt_of_lt_mul (by rwa [Nat.mul_comm]))]
    have : dg s (m + 1) n m = n % s := by unfold dg; simp
    rw [this, Nat.mul_comm]
    exact Nat.div_add_mod n s
theorem dg_ndx {s : Nat} (hs : 0 < s) : ∀ {inn : Nat} {y : Nat → Nat}, (∀ i, i < inn → y i < s) → ∀ i, i < inn → dg s inn (ndx s 0 (tab inn y)) i = y i
  | 0, y, _ => fun i hi => by omega
  | m + 1, y, h => fun i hi => by
    rw [tab_succ, ndx_snoc]
    by_cases e : i = m
    · subst e
      unfold dg
      rw [show i + 1 - 1 - i = 0 by omega, Nat.pow_zero, Nat.div_one, Nat.mul_comm, Nat.mul_add_mod, Nat.mod_eq_of_lt (h i hi)]
    · rw [dg_step (by omega), Nat.mul_comm, Nat.mul_add_div hs, Nat.div_eq_of_lt (h m (by omega)), Nat.add_zero]
      exact dg_ndx hs (fun i hi => h i (by omega)) i (by omega)
theorem ndx_in {s inn : Nat} {y : Nat → Nat} (h : ∀ i, i < inn → y i < s) : ndx s 0 (tab inn y) < s ^ inn := by
  have := ndx_lt (s := s) (l := tab inn y) (n := 0) fun k hk => by
    obtain ⟨i, hi, rfl⟩ := mem_getD (d := 0) hk
    rw [tab_len] at hi
    rw [tab_get hi]
    exact h i hi
  rwa [tab_len, Nat.zero_add, Nat.one_mul] at this
theorem rIndex_r (inn out s : Nat) (vals : List Int)(n : Nat) (g : Due (1 ≤ inn ∧ inn ≤ 4 ∧ 2 ≤ s ∧ s ≤ 9)) (hn : Due (n ≤ 9223372036854775807)) :
    TC R Try.prog R2_Index_f [.agg [.int .i64 inn, .int .i64 out, .int .i64 s, .lst Ei vals], .int .i64 n] [] (fun v X => v = .sla 1 0 0 inn ∧ X = [some (.arr Ei (tab inn fun i => ((dg s inn n i : Nat) : Int)))]) := by
  dsimp only [Due] at g hn
  refine tc env R2_Index_s (by rfl) ?_
  dsimp only [R2_Index_c]
  repeat' (first
    | with_reducible first | refine Tw.seq ?_ | refine Tw.reg ?_ | refine Tw.block ?_ | refine Tw.scope ?_ | refine Tw.skip ?_ | refine Tw.exit ?_ | refine Tw.ret ?_ | refine seqN ?_ | refine seqR ?_ | refine seqE ?_ | refine blkN ?_ | refine blkR ?_ | refine blkE1 ?_ | refine blkE0 (by kernel_rfl) ?_ | refine scpN ?_ | refine scpR ?_ | refine scpE ?_ | refine TOps.nil ?_ | exact Conj.nil | refine Conj.cons rfl ?_ | refine Conj.same ?_ | refine Conj.ask ?_ ?_ | refine Tw.regd env ?_ | refine TDr.nil ⟨by kernel_rfl, ?_⟩
    | ((with_reducible refine TOps.any ?_); first | refine TOps.frunP env (by rfl) (by rfl) ?_ ?_ | (refine TOps.known (by rfl) ?_; refine TOps.strip env (by rfl) (by rfl) ?_ ?_) | refine TOps.on (by rfl) (by rfl) ?_)
    | ((with_reducible refine TDr.any ?_); refine TDr.frunP env (by rfl) (by rfl) ?_ ?_)
    | ((with_reducible refine Tw.any ?_); first | refine Tw.condT (by rfl) ?_ | refine Tw.condF (by rfl) ?_)
    | ((first | ((with_reducible refine TOps.any ?_); (fail_if_success refine TOps.known (by rfl) ?_); refine TOps.ask (by rfl) (fun h => ?_) (fun h => ?_)) | ((with_reducible refine TDr.any ?_); (fail_if_success refine TDr.known (by first | rfl | assumption) ?_); refine TDr.ask (by rfl) (fun h hk => ?_) (fun h => ?_)) | ((with_reducible refine Tw.any ?_); refine Tw.cond (by rfl) (fun h => ?_) (fun h => ?_))) <;> (try simp only [goS] at h) <;> (try simp only [rdi, Int.toNat_natCast, Nat.add_zero] at h) <;> (try (exfalso; (try simp only [goP, reduceCtorEq] at h) <;> (first | assumption | omega | contradiction | (rcases h with ⟨_, _⟩ <;> first | contradiction | omega) | (rcases h with h | h <;> first | contradiction | omega)))))
    | ((with_reducible refine tret.any ?_); first | refine tret.ok (by rfl) ?_ | refine tret.okN (by rfl) ?_)
    | ((with_reducible refine Due.mk ?_); (first | with_reducible rfl | omega | assumption | decide | ((try simp only [goS] at *) <;> (try intro h) <;> (try intro h') <;> (try simp only [goS] at *) <;> (try simp only [rdi, Int.toNat_natCast, Nat.add_zero] at *) <;> (try simp only [rng]) <;> (first | assumption | omega)) | (exact due_app0 (by omega)) | (exact due_app (by omega)) | (intros; simp; done) | (intros; simp; omega)))
    | with_reducible refine Due.mk ?_
    | omega)
  rw [Int.toNat_natCast]
  have tl := @tab_len
  refine Tw.loopK [2, 5] (fun k : Nat => k ≤ inn) (fun k => k) (fun k => [(1, .int .i64 ((n / s ^ (inn - k) : Nat) : Int)), (6, .int .i64 ((k : Int) - 1))])
    (fun k => [some (.cells [.int .i64 inn, .int .i64 out, .int .i64 s, .lst Ei vals]), some (.arr Ei (tab inn fun i => if k ≤ i then ((dg s inn n i : Nat) : Int) else (0 : Int)))])
    ⟨inn, by omega, TWk.fcanon env [some 0, some 1] (by rfl) ?_⟩ (fun k hk => ?_)
  · have z : (tab inn fun i => if inn ≤ i then ((dg s inn n i : Nat) : Int) else 0) = List.replicate inn 0 := by rw [tab_repl]; exact tab_congr fun i hi => if_neg (by omega)
    have z2 : n / s ^ (inn - inn) = n := by simp
    repeat' (first
      | exact z
      | exact congrArg Int.ofNat z2
      | with_reducible first | refine Tw.seq ?_ | refine Tw.reg ?_ | refine Tw.block ?_ | refine Tw.scope ?_ | refine Tw.skip ?_ | refine Tw.exit ?_ | refine Tw.ret ?_ | refine seqN ?_ | refine seqR ?_ | refine seqE ?_ | refine blkN ?_ | refine blkR ?_ | refine blkE1 ?_ | refine blkE0 (by kernel_rfl) ?_ | refine scpN ?_ | refine scpR ?_ | refine scpE ?_ | refine TOps.nil ?_ | exact Conj.nil | refine Conj.cons rfl ?_ | refine Conj.same ?_ | refine Conj.ask ?_ ?_ | refine Tw.regd env ?_ | refine TDr.nil ⟨by kernel_rfl, ?_⟩
      | ((with_reducible refine TOps.any ?_); first | refine TOps.frunP env (by rfl) (by rfl) ?_ ?_ | (refine TOps.known (by rfl) ?_; refine TOps.strip env (by rfl) (by rfl) ?_ ?_) | refine TOps.on (by rfl) (by rfl) ?_)
      | ((with_reducible refine TDr.any ?_); refine TDr.frunP env (by rfl) (by rfl) ?_ ?_)
      | ((with_reducible refine Tw.any ?_); first | refine Tw.condT (by rfl) ?_ | refine Tw.condF (by rfl) ?_)
      | ((first | ((with_reducible refine TOps.any ?_); (fail_if_success refine TOps.known (by rfl) ?_); refine TOps.ask (by rfl) (fun h => ?_) (fun h => ?_)) | ((with_reducible refine TDr.any ?_); (fail_if_success refine TDr.known (by first | rfl | assumption) ?_); refine TDr.ask (by rfl) (fun h hk => ?_) (fun h => ?_)) | ((with_reducible refine Tw.any ?_); refine Tw.cond (by rfl) (fun h => ?_) (fun h => ?_))) <;> (try simp only [goS] at h) <;> (try simp only [rdi, Int.toNat_natCast, Nat.add_zero] at h))
      | ((with_reducible refine tret.any ?_); first | refine tret.ok (by rfl) ?_ | refine tret.okN (by rfl) ?_)
      | ((with_reducible refine Due.mk ?_); (first | with_reducible rfl | omega | assumption | decide | ((try simp only [goS] at *) <;> (try intro h) <;> (try intro h') <;> (try simp only [goS] at *) <;> (try simp only [rdi, Int.toNat_natCast, Nat.add_zero] at *) <;> (try simp only [rng]) <;> (first | assumption | omega)) | (exact due_app0 (by omega)) | (exact due_app (by omega)) | (intros; simp; done) | (intros; simp; omega)))
      | with_reducible refine Due.mk ?_
      | omega)
  by_cases h0 : k = 0
  · subst h0
    have z : (tab inn fun i => if 0 ≤ i then ((dg s inn n i : Nat) : Int) else 0) = tab inn fun i => ((dg s inn n i : Nat) : Int) := tab_congr fun i hi => if_pos (by omega)
    rw [z]
    repeat' (first
      | ((with_reducible refine Tw.retI ?_); refine Tw.gc env [1] [4] (by rfl) (by rfl) ?_ (Tw.ret ?_))
      | with_reducible first | refine Tw.seq ?_ | refine Tw.reg ?_ | refine Tw.block ?_ | refine Tw.scope ?_ | refine Tw.skip ?_ | refine Tw.exit ?_ | refine Tw.ret ?_ | refine seqN ?_ | refine seqR ?_ | refine seqE ?_ | refine blkN ?_ | refine blkR ?_ | refine blkE1 ?_ | refine blkE0 (by kernel_rfl) ?_ | refine scpN ?_ | refine scpR ?_ | refine scpE ?_ | refine TOps.nil ?_ | exact Conj.nil | refine Conj.cons rfl ?_ | refine Conj.same ?_ | refine Conj.ask ?_ ?_ | refine Tw.regd env ?_ | refine TDr.nil ⟨by kernel_rfl, ?_⟩
      | ((with_reducible refine TOps.any ?_); first | refine TOps.frunP env (by rfl) (by rfl) ?_ ?_ | (refine TOps.known (by rfl) ?_; refine TOps.strip env (by rfl) (by rfl) ?_ ?_) | refine TOps.on (by rfl) (by rfl) ?_)
      | ((with_reducible refine TDr.any ?_); refine TDr.frunP env (by rfl) (by rfl) ?_ ?_)
      | ((with_reducible refine Tw.any ?_); first | refine Tw.condT (by rfl) ?_ | refine Tw.condF (by rfl) ?_)
      | ((first | ((with_reducible refine TOps.any ?_); (fail_if_success refine TOps.known (by rfl) ?_); refine TOps.ask (by rfl) (fun h => ?_) (fun h => ?_)) | ((with_reducible refine TDr.any ?_); (fail_if_success refine TDr.known (by first | rfl | assumption) ?_); refine TDr.ask (by rfl) (fun h hk => ?_) (fun h => ?_)) | ((with_reducible refine Tw.any ?_); refine Tw.cond (by rfl) (fun h => ?_) (fun h => ?_))) <;> (try simp only [goS] at h) <;> (try simp only [rdi, Int.toNat_natCast, Nat.add_zero] at h) <;> (try (exfalso; (try simp only [goP, reduceCtorEq] at h) <;> (first | assumption | omega | contradiction | (rcases h with ⟨_, _⟩ <;> first | contradiction | omega) | (rcases h with h | h <;> first | contradiction | omega)))))
      | ((with_reducible refine tret.any ?_); first | refine tret.ok (by rfl) ?_ | refine tret.okN (by rfl) ?_)
      | ((with_reducible refine Due.mk ?_); (first | with_reducible rfl | omega | assumption | decide | ((try simp only [goS] at *) <;> (try intro h) <;> (try intro h') <;> (try simp only [goS] at *) <;> (try simp only [rdi, Int.toNat_natCast, Nat.add_zero] at *) <;> (try simp only [rng]) <;> (first | assumption | omega)) | (exact due_app0 (by omega)) | (exact due_app (by omega)) | (intros; simp; done) | (intros; simp; omega)))
      | with_reducible refine Due.mk ?_
      | omega)
    all_goals exact ⟨rfl, rfl⟩
  · obtain ⟨k, rfl⟩ : ∃ k', k = k' + 1 := ⟨k - 1, by omega⟩
    have l1 : (tab inn fun i => if k + 1 ≤ i then ((dg s inn n i : Nat) : Int) else 0).length = inn := tab_len
    have hz : n / s ^ (inn - (k + 1)) ≤ n := Nat.div_le_self _ _
    have hd : n / s ^ (inn - (k + 1)) % s = dg s inn n k := by unfold dg; rw [show inn - 1 - k = inn - (k + 1) by omega]
    have hq : n / s ^ (inn - (k + 1)) / s = n / s ^ (inn - k) := by rw [Nat.div_div_eq_div_mul, ← Nat.pow_succ, show (inn - (k + 1)).succ = inn - k by omega]
    generalize n / s ^ (inn - (k + 1)) = z at *
    have e1 : rem (z : Int) (s : Int) = ((z % s : Nat) : Int) := by rw [rem_nn (by omega)]; simp
    have e2 : quo (z : Int) (s : Int) = ((z / s : Nat) : Int) := by rw [quo_nn (by omega)]; simp
    have q2 : rng .i64 (quo (z : Int) (s : Int)) := by
      rw [e2]; simp only [rng]
      have := Nat.div_le_self z s
      generalize z / s = z3 at *
      omega
    have c1 : (((k + 1 : Nat) : Int) - 1).toNat = k := by omega
    have r1 : (tab inn fun i => if k + 1 ≤ i then ((dg s inn n i : Nat) : Int) else 0).set (((k + 1 : Nat) : Int) - 1).toNat (rem (z : Int) (s : Int)) = tab inn fun i => if k ≤ i then ((dg s inn n i : Nat) : Int) else 0 := by
      rw [c1, e1, hd, tab_set]
      exact tab_congr fun i _ => by
        by_cases e : i = k
        · subst e; rw [if_pos rfl, if_pos (by omega)]
        · rw [if_neg e]
          by_cases h : k + 1 ≤ i
          · rw [if_pos h, if_pos (by omega)]
          · rw [if_neg h, if_neg (by omega)]
    have r2 : ((n / s ^ (inn - k) : Nat) : Int) = quo (z : Int) (s : Int) := by rw [e2, hq]
    repeat' (first
      | exact q2
      | with_reducible first | refine Tw.seq ?_ | refine Tw.reg ?_ | refine Tw.block ?_ | refine Tw.scope ?_ | refine Tw.skip ?_ | refine Tw.exit ?_ | refine Tw.ret ?_ | refine seqN ?_ | refine seqR ?_ | refine seqE ?_ | refine blkN ?_ | refine blkR ?_ | refine blkE1 ?_ | refine blkE0 (by kernel_rfl) ?_ | refine scpN ?_ | refine scpR ?_ | refine scpE ?_ | refine TOps.nil ?_ | exact Conj.nil | refine Conj.cons rfl ?_ | refine Conj.same ?_ | refine Conj.ask ?_ ?_ | refine Tw.regd env ?_ | refine TDr.nil ⟨by kernel_rfl, ?_⟩
      | ((with_reducible refine TOps.any ?_); first | refine TOps.frunP env (by rfl) (by rfl) ?_ ?_ | (refine TOps.known (by rfl) ?_; refine TOps.strip env (by rfl) (by rfl) ?_ ?_) | refine TOps.on (by rfl) (by rfl) ?_)
      | ((with_reducible refine TDr.any ?_); refine TDr.frunP env (by rfl) (by rfl) ?_ ?_)
      | ((with_reducible refine Tw.any ?_); first | refine Tw.condT (by rfl) ?_ | refine Tw.condF (by rfl) ?_)
      | ((first | ((with_reducible refine TOps.any ?_); (fail_if_success refine TOps.known (by rfl) ?_); refine TOps.ask (by rfl) (fun h => ?_) (fun h => ?_)) | ((with_reducible refine TDr.any ?_); (fail_if_success refine TDr.known (by first | rfl | assumption) ?_); refine TDr.ask (by rfl) (fun h hk => ?_) (fun h => ?_)) | ((with_reducible refine Tw.any ?_); refine Tw.cond (by rfl) (fun h => ?_) (fun h => ?_))) <;> (try simp only [goS] at h) <;> (try simp only [rdi, l1, Int.toNat_natCast, Nat.add_zero] at h) <;> (try (exfalso; (try simp only [goP, reduceCtorEq] at h) <;> (first | assumption | omega | contradiction | (rcases h with ⟨_, _⟩ <;> first | contradiction | omega) | (rcases h with h | h <;> first | contradiction | omega)))))
      | ((with_reducible refine tret.any ?_); first | refine tret.ok (by rfl) ?_ | refine tret.okN (by rfl) ?_)
      | ((with_reducible refine Due.mk ?_); (first | with_reducible rfl | omega | assumption | decide | ((try simp only [goS] at *) <;> (try intro h) <;> (try intro h') <;> (try simp only [goS] at *) <;> (try simp only [rdi, l1, Int.toNat_natCast, Nat.add_zero] at *) <;> (try simp only [rng]) <;> (first | assumption | omega)) | (exact due_app0 (by omega)) | (exact due_app (by omega)) | (intros; simp; done) | (intros; simp; omega)))
      | with_reducible refine Due.mk ?_
      | omega)
    refine ⟨k, by omega, by omega, TWk.fcanon env [some 0, some 1] (by rfl) ?_⟩
    repeat' (first
      | exact r1.symm
      | exact r2
      | with_reducible first | refine Tw.seq ?_ | refine Tw.reg ?_ | refine Tw.block ?_ | refine Tw.scope ?_ | refine Tw.skip ?_ | refine Tw.exit ?_ | refine Tw.ret ?_ | refine seqN ?_ | refine seqR ?_ | refine seqE ?_ | refine blkN ?_ | refine blkR ?_ | refine blkE1 ?_ | refine blkE0 (by kernel_rfl) ?_ | refine scpN ?_ | refine scpR ?_ | refine scpE ?_ | refine TOps.nil ?_ | exact Conj.nil | refine Conj.cons rfl ?_ | refine Conj.same ?_ | refine Conj.ask ?_ ?_ | refine Tw.regd env ?_ | refine TDr.nil ⟨by kernel_rfl, ?_⟩
      | ((with_reducible refine TOps.any ?_); first | refine TOps.frunP env (by rfl) (by rfl) ?_ ?_ | (refine TOps.known (by rfl) ?_; refine TOps.strip env (by rfl) (by rfl) ?_ ?_) | refine TOps.on (by rfl) (by rfl) ?_)
      | ((with_reducible refine TDr.any ?_); refine TDr.frunP env (by rfl) (by rfl) ?_ ?_)
      | ((with_reducible refine Tw.any ?_); first | refine Tw.condT (by rfl) ?_ | refine Tw.condF (by rfl) ?_)
      | ((first | ((with_reducible refine TOps.any ?_); (fail_if_success refine TOps.known (by rfl) ?_); refine TOps.ask (by rfl) (fun h => ?_) (fun h => ?_)) | ((with_reducible refine TDr.any ?_); (fail_if_success refine TDr.known (by first | rfl | assumption) ?_); refine TDr.ask (by rfl) (fun h hk => ?_) (fun h => ?_)) | ((with_reducible refine Tw.any ?_); refine Tw.cond (by rfl) (fun h => ?_) (fun h => ?_))) <;> (try simp only [goS] at h) <;> (try simp only [rdi, Int.toNat_natCast, Nat.add_zero] at h))
      | ((with_reducible refine tret.any ?_); first | refine tret.ok (by rfl) ?_ | refine tret.okN (by rfl) ?_)
      | ((with_reducible refine Due.mk ?_); (first | with_reducible rfl | omega | assumption | decide | ((try simp only [goS] at *) <;> (try intro h) <;> (try intro h') <;> (try simp only [goS] at *) <;> (try simp only [rdi, Int.toNat_natCast, Nat.add_zero] at *) <;> (try simp only [rng]) <;> (first | assumption | omega)) | (exact due_app0 (by omega)) | (exact due_app (by omega)) | (intros; simp; done) | (intros; simp; omega)))
      | with_reducible refine Due.mk ?_
      | omega)
theorem rIndexN_r (inn out s : Nat) (n : Nat) (g : Due (1 ≤ inn ∧ inn ≤ 4 ∧ 2 ≤ s ∧ s ≤ 9)) (hn : Due (n ≤ 9223372036854775807)) :
    TC R Try.prog R2_Index_f [.agg [.int .i64 inn, .int .i64 out, .int .i64 s, .nils], .int .i64 n] [] (fun v X => v = .sla 1 0 0 inn ∧ X = [some (.arr Ei (tab inn fun i => ((dg s inn n i : Nat) : Int)))]) := by
  dsimp only [Due] at g hn
  refine tc env R2_Index_s (by rfl) ?_
  dsimp only [R2_Index_c]
  repeat' (first
    | with_reducible first | refine Tw.seq ?_ | refine Tw.reg ?_ | refine Tw.block ?_ | refine Tw.scope ?_ | refine Tw.skip ?_ | refine Tw.exit ?_ | refine Tw.ret ?_ | refine seqN ?_ | refine seqR ?_ | refine seqE ?_ | refine blkN ?_ | refine blkR ?_ | refine blkE1 ?_ | refine blkE0 (by kernel_rfl) ?_ | refine scpN ?_ | refine scpR ?_ | refine scpE ?_ | refine TOps.nil ?_ | exact Conj.nil | refine Conj.cons rfl ?_ | refine Conj.same ?_ | refine Conj.ask ?_ ?_ | refine Tw.regd env ?_ | refine TDr.nil ⟨by kernel_rfl, ?_⟩
    | ((with_reducible refine TOps.any ?_); first | refine TOps.frunP env (by rfl) (by rfl) ?_ ?_ | (refine TOps.known (by rfl) ?_; refine TOps.strip env (by rfl) (by rfl) ?_ ?_) | refine TOps.on (by rfl) (by rfl) ?_)
    | ((with_reducible refine TDr.any ?_); refine TDr.frunP env (by rfl) (by rfl) ?_ ?_)
    | ((with_reducible refine Tw.any ?_); first | refine Tw.condT (by rfl) ?_ | refine Tw.condF (by rfl) ?_)
    | ((first | ((with_reducible refine TOps.any ?_); (fail_if_success refine TOps.known (by rfl) ?_); refine TOps.ask (by rfl) (fun h => ?_) (fun h => ?_)) | ((with_reducible refine TDr.any ?_); (fail_if_success refine TDr.known (by first | rfl | assumption) ?_); refine TDr.ask (by rfl) (fun h hk => ?_) (fun h => ?_)) | ((with_reducible refine Tw.any ?_); refine Tw.cond (by rfl) (fun h => ?_) (fun h => ?_))) <;> (try simp only [goS] at h) <;> (try simp only [rdi, Int.toNat_natCast, Nat.add_zero] at h) <;> (try (exfalso; (try simp only [goP, reduceCtorEq] at h) <;> (first | assumption | omega | contradiction | (rcases h with ⟨_, _⟩ <;> first | contradiction | omega) | (rcases h with h | h <;> first | contradiction | omega)))))
    | ((with_reducible refine tret.any ?_); first | refine tret.ok (by rfl) ?_ | refine tret.okN (by rfl) ?_)
    | ((with_reducible refine Due.mk ?_); (first | with_reducible rfl | omega | assumption | decide | ((try simp only [goS] at *) <;> (try intro h) <;> (try intro h') <;> (try simp only [goS] at *) <;> (try simp only [rdi, Int.toNat_natCast, Nat.add_zero] at *) <;> (try simp only [rng]) <;> (first | assumption | omega)) | (exact due_app0 (by omega)) | (exact due_app (by omega)) | (intros; simp; done) | (intros; simp; omega)))
    | with_reducible refine Due.mk ?_
    | omega)
  rw [Int.toNat_natCast]
  have tl := @tab_len
  refine Tw.loopK [2, 5] (fun k : Nat => k ≤ inn) (fun k => k) (fun k => [(1, .int .i64 ((n / s ^ (inn - k) : Nat) : Int)), (6, .int .i64 ((k : Int) - 1))])
    (fun k => [some (.cells [.int .i64 inn, .int .i64 out, .int .i64 s, .nils]), some (.arr Ei (tab inn fun i => if k ≤ i then ((dg s inn n i : Nat) : Int) else (0 : Int)))])
    ⟨inn, by omega, TWk.fcanon env [some 0, some 1] (by rfl) ?_⟩ (fun k hk => ?_)
  · have z : (tab inn fun i => if inn ≤ i then ((dg s inn n i : Nat) : Int) else 0) = List.replicate inn 0 := by rw [tab_repl]; exact tab_congr fun i hi => if_neg (by omega)
    have z2 : n / s ^ (inn - inn) = n := by simp
    repeat' (first
      | exact z
      | exact congrArg Int.ofNat z2
      | with_reducible first | refine Tw.seq ?_ | refine Tw.reg ?_ | refine Tw.block ?_ | refine Tw.scope ?_ | refine Tw.skip ?_ | refine Tw.exit ?_ | refine Tw.ret ?_ | refine seqN ?_ | refine seqR ?_ | refine seqE ?_ | refine blkN ?_ | refine blkR ?_ | refine blkE1 ?_ | refine blkE0 (by kernel_rfl) ?_ | refine scpN ?_ | refine scpR ?_ | refine scpE ?_ | refine TOps.nil ?_ | exact Conj.nil | refine Conj.cons rfl ?_ | refine Conj.same ?_ | refine Conj.ask ?_ ?_ | refine Tw.regd env ?_ | refine TDr.nil ⟨by kernel_rfl, ?_⟩
      | ((with_reducible refine TOps.any ?_); first | refine TOps.frunP env (by rfl) (by rfl) ?_ ?_ | (refine TOps.known (by rfl) ?_; refine TOps.strip env (by rfl) (by rfl) ?_ ?_) | refine TOps.on (by rfl) (by rfl) ?_)
      | ((with_reducible refine TDr.any ?_); refine TDr.frunP env (by rfl) (by rfl) ?_ ?_)
      | ((with_reducible refine Tw.any ?_); first | refine Tw.condT (by rfl) ?_ | refine Tw.condF (by rfl) ?_)
      | ((first | ((with_reducible refine TOps.any ?_); (fail_if_success refine TOps.known (by rfl) ?_); refine TOps.ask (by rfl) (fun h => ?_) (fun h => ?_)) | ((with_reducible refine TDr.any ?_); (fail_if_success refine TDr.known (by first | rfl | assumption) ?_); refine TDr.ask (by rfl) (fun h hk => ?_) (fun h => ?_)) | ((with_reducible refine Tw.any ?_); refine Tw.cond (by rfl) (fun h => ?_) (fun h => ?_))) <;> (try simp only [goS] at h) <;> (try simp only [rdi, Int.toNat_natCast, Nat.add_zero] at h))
      | ((with_reducible refine tret.any ?_); first | refine tret.ok (by rfl) ?_ | refine tret.okN (by rfl) ?_)
      | ((with_reducible refine Due.mk ?_); (first | with_reducible rfl | omega | assumption | decide | ((try simp only [goS] at *) <;> (try intro h) <;> (try intro h') <;> (try simp only [goS] at *) <;> (try simp only [rdi, Int.toNat_natCast, Nat.add_zero] at *) <;> (try simp only [rng]) <;> (first | assumption | omega)) | (exact due_app0 (by omega)) | (exact due_app (by omega)) | (intros; simp; done) | (intros; simp; omega)))
      | with_reducible refine Due.mk ?_
      | omega)
  by_cases h0 : k = 0
  · subst h0
    have z : (tab inn fun i => if 0 ≤ i then ((dg s inn n i : Nat) : Int) else 0) = tab inn fun i => ((dg s inn n i : Nat) : Int) := tab_congr fun i hi => if_pos (by omega)
    rw [z]
    repeat' (first
      | ((with_reducible refine Tw.retI ?_); refine Tw.gc env [1] [4] (by rfl) (by rfl) ?_ (Tw.ret ?_))
      | with_reducible first | refine Tw.seq ?_ | refine Tw.reg ?_ | refine Tw.block ?_ | refine Tw.scope ?_ | refine Tw.skip ?_ | refine Tw.exit ?_ | refine Tw.ret ?_ | refine seqN ?_ | refine seqR ?_ | refine seqE ?_ | refine blkN ?_ | refine blkR ?_ | refine blkE1 ?_ | refine blkE0 (by kernel_rfl) ?_ | refine scpN ?_ | refine scpR ?_ | refine scpE ?_ | refine TOps.nil ?_ | exact Conj.nil | refine Conj.cons rfl ?_ | refine Conj.same ?_ | refine Conj.ask ?_ ?_ | refine Tw.regd env ?_ | refine TDr.nil ⟨by kernel_rfl, ?_⟩
      | ((with_reducible refine TOps.any ?_); first | refine TOps.frunP env (by rfl) (by rfl) ?_ ?_ | (refine TOps.known (by rfl) ?_; refine TOps.strip env (by rfl) (by rfl) ?_ ?_) | refine TOps.on (by rfl) (by rfl) ?_)
      | ((with_reducible refine TDr.any ?_); refine TDr.frunP env (by rfl) (by rfl) ?_ ?_)
      | ((with_reducible refine Tw.any ?_); first | refine Tw.condT (by rfl) ?_ | refine Tw.condF (by rfl) ?_)
      | ((first | ((with_reducible refine TOps.any ?_); (fail_if_success refine TOps.known (by rfl) ?_); refine TOps.ask (by rfl) (fun h => ?_) (fun h => ?_)) | ((with_reducible refine TDr.any ?_); (fail_if_success refine TDr.known (by first | rfl | assumption) ?_); refine TDr.ask (by rfl) (fun h hk => ?_) (fun h => ?_)) | ((with_reducible refine Tw.any ?_); refine Tw.cond (by rfl) (fun h => ?_) (fun h => ?_))) <;> (try simp only [goS] at h) <;> (try simp only [rdi, Int.toNat_natCast, Nat.add_zero] at h) <;> (try (exfalso; (try simp only [goP, reduceCtorEq] at h) <;> (first | assumption | omega | contradiction | (rcases h with ⟨_, _⟩ <;> first | contradiction | omega) | (rcases h with h | h <;> first | contradiction | omega)))))
      | ((with_reducible refine tret.any ?_); first | refine tret.ok (by rfl) ?_ | refine tret.okN (by rfl) ?_)
      | ((with_reducible refine Due.mk ?_); (first | with_reducible rfl | omega | assumption | decide | ((try simp only [goS] at *) <;> (try intro h) <;> (try intro h') <;> (try simp only [goS] at *) <;> (try simp only [rdi, Int.toNat_natCast, Nat.add_zero] at *) <;> (try simp only [rng]) <;> (first | assumption | omega)) | (exact due_app0 (by omega)) | (exact due_app (by omega)) | (intros; simp; done) | (intros; simp; omega)))
      | with_reducible refine Due.mk ?_
      | omega)
    all_goals exact ⟨rfl, rfl⟩
  · obtain ⟨k, rfl⟩ : ∃ k', k = k' + 1 := ⟨k - 1, by omega⟩
    have l1 : (tab inn fun i => if k + 1 ≤ i then ((dg s inn n i : Nat) : Int) else 0).length = inn := tab_len
    have hz : n / s ^ (inn - (k + 1)) ≤ n := Nat.div_le_self _ _
    have hd : n / s ^ (inn - (k + 1)) % s = dg s inn n k := by unfold dg; rw [show inn - 1 - k = inn - (k + 1) by omega]
    have hq : n / s ^ (inn - (k + 1)) / s = n / s ^ (inn - k) := by rw [Nat.div_div_eq_div_mul, ← Nat.pow_succ, show (inn - (k + 1)).succ = inn - k by omega]
    generalize n / s ^ (inn - (k + 1)) = z at *
    have e1 : rem (z : Int) (s : Int) = ((z % s : Nat) : Int) := by rw [rem_nn (by omega)]; simp
    have e2 : quo (z : Int) (s : Int) = ((z / s : Nat) : Int) := by rw [quo_nn (by omega)]; simp
    have q2 : rng .i64 (quo (z : Int) (s : Int)) := by
      rw [e2]; simp only [rng]
      have := Nat.div_le_self z s
      generalize z / s = z3 at *
      omega
    have c1 : (((k + 1 : Nat) : Int) - 1).toNat = k := by omega
    have r1 : (tab inn fun i => if k + 1 ≤ i then ((dg s inn n i : Nat) : Int) else 0).set (((k + 1 : Nat) : Int) - 1).toNat (rem (z : Int) (s : Int)) = tab inn fun i => if k ≤ i then ((dg s inn n i : Nat) : Int) else 0 := by
      rw [c1, e1, hd, tab_set]
      exact tab_congr fun i _ => by
        by_cases e : i = k
        · subst e; rw [if_pos rfl, if_pos (by omega)]
        · rw [if_neg e]
          by_cases h : k + 1 ≤ i
          · rw [if_pos h, if_pos (by omega)]
          · rw [if_neg h, if_neg (by omega)]
    have r2 : ((n / s ^ (inn - k) : Nat) : Int) = quo (z : Int) (s : Int) := by rw [e2, hq]
    repeat' (first
      | exact q2
      | with_reducible first | refine Tw.seq ?_ | refine Tw.reg ?_ | refine Tw.block ?_ | refine Tw.scope ?_ | refine Tw.skip ?_ | refine Tw.exit ?_ | refine Tw.ret ?_ | refine seqN ?_ | refine seqR ?_ | refine seqE ?_ | refine blkN ?_ | refine blkR ?_ | refine blkE1 ?_ | refine blkE0 (by kernel_rfl) ?_ | refine scpN ?_ | refine scpR ?_ | refine scpE ?_ | refine TOps.nil ?_ | exact Conj.nil | refine Conj.cons rfl ?_ | refine Conj.same ?_ | refine Conj.ask ?_ ?_ | refine Tw.regd env ?_ | refine TDr.nil ⟨by kernel_rfl, ?_⟩
      | ((with_reducible refine TOps.any ?_); first | refine TOps.frunP env (by rfl) (by rfl) ?_ ?_ | (refine TOps.known (by rfl) ?_; refine TOps.strip env (by rfl) (by rfl) ?_ ?_) | refine TOps.on (by rfl) (by rfl) ?_)
      | ((with_reducible refine TDr.any ?_); refine TDr.frunP env (by rfl) (by rfl) ?_ ?_)
      | ((with_reducible refine Tw.any ?_); first | refine Tw.condT (by rfl) ?_ | refine Tw.condF (by rfl) ?_)
      | ((first | ((with_reducible refine TOps.any ?_); (fail_if_success refine TOps.known (by rfl) ?_); refine TOps.ask (by rfl) (fun h => ?_) (fun h => ?_)) | ((with_reducible refine TDr.any ?_); (fail_if_success refine TDr.known (by first | rfl | assumption) ?_); refine TDr.ask (by rfl) (fun h hk => ?_) (fun h => ?_)) | ((with_reducible refine Tw.any ?_); refine Tw.cond (by rfl) (fun h => ?_) (fun h => ?_))) <;> (try simp only [goS] at h) <;> (try simp only [rdi, l1, Int.toNat_natCast, Nat.add_zero] at h) <;> (try (exfalso; (try simp only [goP, reduceCtorEq] at h) <;> (first | assumption | omega | contradiction | (rcases h with ⟨_, _⟩ <;> first | contradiction | omega) | (rcases h with h | h <;> first | contradiction | omega)))))
      | ((with_reducible refine tret.any ?_); first | refine tret.ok (by rfl) ?_ | refine tret.okN (by rfl) ?_)
      | ((with_reducible refine Due.mk ?_); (first | with_reducible rfl | omega | assumption | decide | ((try simp only [goS] at *) <;> (try intro h) <;> (try intro h') <;> (try simp only [goS] at *) <;> (try simp only [rdi, l1, Int.toNat_natCast, Nat.add_zero] at *) <;> (try simp only [rng]) <;> (first | assumption | omega)) | (exact due_app0 (by omega)) | (exact due_app (by omega)) | (intros; simp; done) | (intros; simp; omega)))
      | with_reducible refine Due.mk ?_
      | omega)
    refine ⟨k, by omega, by omega, TWk.fcanon env [some 0, some 1] (by rfl) ?_⟩
    repeat' (first
      | exact r1.symm
      | exact r2
      | with_reducible first | refine Tw.seq ?_ | refine Tw.reg ?_ | refine Tw.block ?_ | refine Tw.scope ?_ | refine Tw.skip ?_ | refine Tw.exit ?_ | refine Tw.ret ?_ | refine seqN ?_ | refine seqR ?_ | refine seqE ?_ | refine blkN ?_ | refine blkR ?_ | refine blkE1 ?_ | refine blkE0 (by kernel_rfl) ?_ | refine scpN ?_ | refine scpR ?_ | refine scpE ?_ | refine TOps.nil ?_ | exact Conj.nil | refine Conj.cons rfl ?_ | refine Conj.same ?_ | refine Conj.ask ?_ ?_ | refine Tw.regd env ?_ | refine TDr.nil ⟨by kernel_rfl, ?_⟩
      | ((with_reducible refine TOps.any ?_); first | refine TOps.frunP env (by rfl) (by rfl) ?_ ?_ | (refine TOps.known (by rfl) ?_; refine TOps.strip env (by rfl) (by rfl) ?_ ?_) | refine TOps.on (by rfl) (by rfl) ?_)
      | ((with_reducible refine TDr.any ?_); refine TDr.frunP env (by rfl) (by rfl) ?_ ?_)
      | ((with_reducible refine Tw.any ?_); first | refine Tw.condT (by rfl) ?_ | refine Tw.condF (by rfl) ?_)
      | ((first | ((with_reducible refine TOps.any ?_); (fail_if_success refine TOps.known (by rfl) ?_); refine TOps.ask (by rfl) (fun h => ?_) (fun h => ?_)) | ((with_reducible refine TDr.any ?_); (fail_if_success refine TDr.known (by first | rfl | assumption) ?_); refine TDr.ask (by rfl) (fun h hk => ?_) (fun h => ?_)) | ((with_reducible refine Tw.any ?_); refine Tw.cond (by rfl) (fun h => ?_) (fun h => ?_))) <;> (try simp only [goS] at h) <;> (try simp only [rdi, Int.toNat_natCast, Nat.add_zero] at h))
      | ((with_reducible refine tret.any ?_); first | refine tret.ok (by rfl) ?_ | refine tret.okN (by rfl) ?_)
      | ((with_reducible refine Due.mk ?_); (first | with_reducible rfl | omega | assumption | decide | ((try simp only [goS] at *) <;> (try intro h) <;> (try intro h') <;> (try simp only [goS] at *) <;> (try simp only [rdi, Int.toNat_natCast, Nat.add_zero] at *) <;> (try simp only [rng]) <;> (first | assumption | omega)) | (exact due_app0 (by omega)) | (exact due_app (by omega)) | (intros; simp; done) | (intros; simp; omega)))
      | with_reducible refine Due.mk ?_
      | omega)
theorem nz_tab {n : Nat} {f : Nat → Nat} : nz (tab n f) = tab n fun i => ((f i : Nat) : Int) := by simp [nz, tab, List.map_map, Function.comp]
/-- The index of the next node, digit by digit from the last. -/
theorem dg_next0 {s inn i m j : Nat} (hs : 0 < s) (hd : s ^ m ∣ i + 1) (hj : j < inn) (h : inn - m ≤ j) : dg s inn (i + 1) j = 0 := by
  unfold dg
  have h1 : inn - 1 - j < m := by omega
  obtain ⟨q, hq⟩ := hd
  obtain ⟨d, hd⟩ := Nat.exists_eq_add_of_le h1
  rw [hq, hd, Nat.pow_add, Nat.pow_succ, Nat.mul_assoc, Nat.mul_assoc, Nat.mul_div_cancel_left _ (Nat.pow_pos hs), Nat.mul_mod_right]
theorem div_pred {i p q : Nat} (hp : 0 < p) (hq : i + 1 = p * (q + 1)) : i / p = q := by
  rw [Nat.mul_add, Nat.mul_one] at hq
  have : i = p * q + (p - 1) := by omega
  rw [this, Nat.mul_add_div hp, Nat.div_eq_of_lt (by omega), Nat.add_zero]
theorem dg_next1 {s inn i m : Nat} (hs : 2 ≤ s) (hd : s ^ m ∣ i + 1) (hm : m < inn) (hlt : dg s inn i (inn - 1 - m) + 1 < s) : ∀ j, j < inn → dg s inn (i + 1) j = if inn - m ≤ j then 0 else if j = inn - 1 - m then dg s inn i j + 1 else dg s inn i j := fun j hj => by
  have hp : 0 < s ^ m := Nat.pow_pos (by omega)
  have hd2 := hd
  obtain ⟨q, hq⟩ := hd2
  obtain ⟨q, rfl⟩ : ∃ q', q = q' + 1 := ⟨q - 1, by cases q with | zero => simp at hq | succ q => omega⟩
  have i1 : i / s ^ m = q := div_pred hp hq
  have i2 : (i + 1) / s ^ m = q + 1 := by rw [hq, Nat.mul_div_cancel_left _ hp]
  have hd0 : dg s inn i (inn - 1 - m) = q % s := by unfold dg; rw [show inn - 1 - (inn - 1 - m) = m by omega, i1]
  rw [hd0] at hlt
  by_cases h1 : inn - m ≤ j
  · rw [if_pos h1]; exact dg_next0 (by omega) hd hj h1
  · rw [if_neg h1]
    by_cases h2 : j = inn - 1 - m
    · rw [if_pos h2]
      subst h2
      rw [hd0]
      unfold dg
      rw [show inn - 1 - (inn - 1 - m) = m by omega, i2]
      have := Nat.div_add_mod q s
      rw [show q + 1 = s * (q / s) + (q % s + 1) by omega, Nat.mul_add_mod, Nat.mod_eq_of_lt hlt]
    · rw [if_neg h2]
      unfold dg
      obtain ⟨d, hdd⟩ := Nat.exists_eq_add_of_le (show m + 1 ≤ inn - 1 - j by omega)
      rw [hdd, Nat.pow_add, Nat.pow_succ, ← Nat.div_div_eq_div_mul, ← Nat.div_div_eq_div_mul, ← Nat.div_div_eq_div_mul, ← Nat.div_div_eq_div_mul, i1, i2]
      congr 2
      have := Nat.div_add_mod q s
      rw [show q + 1 = s * (q / s) + (q % s + 1) by omega, Nat.mul_add_div (by omega), Nat.div_eq_of_lt hlt, Nat.add_zero]
theorem dg_next2 {s inn i m : Nat} (hs : 2 ≤ s) (hd : s ^ m ∣ i + 1) (hm : m < inn) (hge : s ≤ dg s inn i (inn - 1 - m) + 1) : s ^ (m + 1) ∣ i + 1 := by
  have hp : 0 < s ^ m := Nat.pow_pos (by omega)
  obtain ⟨q, hq⟩ := hd
  obtain ⟨q, rfl⟩ : ∃ q', q = q' + 1 := ⟨q - 1, by cases q with | zero => simp at hq | succ q => omega⟩
  have i1 : i / s ^ m = q := div_pred hp hq
  have hd0 : dg s inn i (inn - 1 - m) = q % s := by unfold dg; rw [show inn - 1 - (inn - 1 - m) = m by omega, i1]
  rw [hd0] at hge
  have hl := Nat.mod_lt q (show 0 < s by omega)
  have := Nat.div_add_mod q s
  refine ⟨q / s + 1, ?_⟩
  rw [hq, Nat.pow_succ, Nat.mul_assoc]
  congr 1
  rw [Nat.mul_add]
  omega
end Go.Proofs.Ythnfbdihihhoiaa
