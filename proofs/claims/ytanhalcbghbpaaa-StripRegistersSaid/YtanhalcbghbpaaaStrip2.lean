/- Register; crosses and changed pixels. -/
import Derived.Test.YtanhalcbghbpaaaStrip1
import Derived.Test.YtanhalcbghbpaaaDrawn
namespace Go.Proofs.Ytanhalcbghbpaaa
open Go Go.Lite
set_option linter.unusedVariables false
set_option linter.unusedSimpArgs false
set_option maxRecDepth 100000
set_option maxHeartbeats 4000000
-- @simp rdi rdy rd2i

theorem register_y (l : List (Int × Int × List Int)) (a x y : Int) (P Q : Nat → Int) (hl : Due (l.length ≤ 8)) (hx : Due (0 ≤ x ∧ x < 1024 ∧ 0 ≤ y ∧ y < 1024))
    (hb : Due (∀ i, i < l.length → -100000 ≤ P i ∧ P i ≤ 100000 ∧ -100000 ≤ Q i ∧ Q i ≤ 100000))
    (hL : ∀ i, i < l.length → TC R Try.prog strip_Locate_f [.agg [.int .i64 (l.getD i (R.d E2iLyJ)).1, .int .i64 (l.getD i (R.d E2iLyJ)).2.1, .lst Ey (l.getD i (R.d E2iLyJ)).2.2], .int .i64 a] [] (fun v X => v = .tup [.agg [.int .i64 (P i), .int .i64 (Q i)], .int .i64 0] ∧ X = [])) :
    TC R Try.prog strip_Register_f [.lst E2iLyJ l, .int .i64 a, .agg [.int .i64 x, .int .i64 y]] [] (fun v X => v = .tup [.lst E2i (tab l.length fun i => (P i - x, Q i - y)), .int .i64 0] ∧ X = []) := by
  dsimp only [Due] at hl hx hb
  refine tc0 env strip_Register_s (by rfl) ?_
  dsimp only [strip_Register_c]
  repeat' (first
    | with_reducible first | refine Tw.seq ?_ | refine Tw.reg ?_ | refine Tw.block ?_ | refine Tw.scope ?_ | refine Tw.skip ?_ | refine Tw.exit ?_ | refine Tw.ret ?_ | refine seqN ?_ | refine seqR ?_ | refine seqE ?_ | refine rndN ?_ | refine blkN ?_ | refine blkR ?_ | refine blkE1 ?_ | refine blkE0 (by kernel_rfl) ?_ | refine scpN ?_ | refine scpR ?_ | refine scpE ?_ | refine TOps.nil ?_ | exact Conj.nil | refine Conj.cons rfl ?_ | refine Conj.same ?_ | refine Conj.ask ?_ ?_ | refine Tw.regd env ?_ | refine TDr.nil ⟨by kernel_rfl, ?_⟩
    | ((with_reducible refine TOps.any ?_); first | refine TOps.frunP env (by rfl) (by rfl) ?_ ?_ | (refine TOps.known (by rfl) ?_; refine TOps.strip env (by rfl) (by rfl) ?_ ?_) | refine TOps.on (by rfl) (by rfl) ?_)
    | ((with_reducible refine TDr.any ?_); refine TDr.frunP env (by rfl) (by rfl) ?_ ?_)
    | ((with_reducible refine Tw.any ?_); first | refine Tw.condT (by rfl) ?_ | refine Tw.condF (by rfl) ?_)
    | ((first | ((with_reducible refine TOps.any ?_); (fail_if_success refine TOps.known (by rfl) ?_); refine TOps.ask (by rfl) (fun h => ?_) (fun h => ?_)) | ((with_reducible refine TDr.any ?_); (fail_if_success refine TDr.known (by first | rfl | assumption) ?_); refine TDr.ask (by rfl) (fun h hk => ?_) (fun h => ?_)) | ((with_reducible refine Tw.any ?_); refine Tw.cond (by rfl) (fun h => ?_) (fun h => ?_))) <;> (try simp only [goS] at h) <;> (try simp only [rdi, rdy, rd2i, Int.toNat_natCast, Nat.add_zero] at h) <;> (try (exfalso; (try simp only [goP, reduceCtorEq] at h) <;> (first | assumption | omega | contradiction | (rcases h with ⟨_, _⟩ <;> first | contradiction | omega) | (rcases h with h | h <;> first | contradiction | omega)))))
    | ((with_reducible refine tret.any ?_); first | refine tret.ok (by rfl) ?_ | refine tret.okN (by rfl) ?_)
    | ((with_reducible refine Due.mk ?_); (first | with_reducible rfl | omega | assumption | decide | ((try simp only [goS] at *) <;> (try intro h) <;> (try intro h') <;> (try simp only [goS] at *) <;> (try simp only [rdi, rdy, rd2i, Int.toNat_natCast, Nat.add_zero] at *) <;> (try simp only [rng]) <;> (first | assumption | omega)) | (exact due_app0 (by omega)) | (exact due_app (by omega)) | (intros; simp; done) | (intros; simp; omega)))
    | with_reducible refine Due.mk ?_
    | omega)
  refine Tw.loopK [1, 37, 38] (fun p : Nat × List (Int × Int) => p.1 ≤ l.length ∧ p.2.length = l.length ∧ ∀ j, j < p.1 → p.2.getD j (0, 0) = (P j - x, Q j - y)) (fun p => l.length - p.1) (fun p => [(39, .int .i64 p.1), (5, .ptr 0 0), (8, .sla 2 1 0 l.length)])
    (fun p => [some (.cells [.int .i64 x, .int .i64 y]), some (.arr E2i p.2)]) ⟨(0, List.replicate l.length (0, 0)), ⟨by dsimp only; omega, by simp, fun j hj => by dsimp only at hj; omega⟩, TWk.fcanon env [some 0, some 1] (by rfl) ?_⟩ (fun p hp => ?_)
  · repeat' (first
      | with_reducible first | refine Tw.seq ?_ | refine Tw.reg ?_ | refine Tw.block ?_ | refine Tw.scope ?_ | refine Tw.skip ?_ | refine Tw.exit ?_ | refine Tw.ret ?_ | refine seqN ?_ | refine seqR ?_ | refine seqE ?_ | refine rndN ?_ | refine blkN ?_ | refine blkR ?_ | refine blkE1 ?_ | refine blkE0 (by kernel_rfl) ?_ | refine scpN ?_ | refine scpR ?_ | refine scpE ?_ | refine TOps.nil ?_ | exact Conj.nil | refine Conj.cons rfl ?_ | refine Conj.same ?_ | refine Conj.ask ?_ ?_ | refine Tw.regd env ?_ | refine TDr.nil ⟨by kernel_rfl, ?_⟩
      | ((with_reducible refine TOps.any ?_); first | refine TOps.frunP env (by rfl) (by rfl) ?_ ?_ | (refine TOps.known (by rfl) ?_; refine TOps.strip env (by rfl) (by rfl) ?_ ?_) | refine TOps.on (by rfl) (by rfl) ?_)
      | ((with_reducible refine TDr.any ?_); refine TDr.frunP env (by rfl) (by rfl) ?_ ?_)
      | ((with_reducible refine Tw.any ?_); first | refine Tw.condT (by rfl) ?_ | refine Tw.condF (by rfl) ?_)
      | ((first | ((with_reducible refine TOps.any ?_); (fail_if_success refine TOps.known (by rfl) ?_); refine TOps.ask (by rfl) (fun h => ?_) (fun h => ?_)) | ((with_reducible refine TDr.any ?_); (fail_if_success refine TDr.known (by first | rfl | assumption) ?_); refine TDr.ask (by rfl) (fun h hk => ?_) (fun h => ?_)) | ((with_reducible refine Tw.any ?_); refine Tw.cond (by rfl) (fun h => ?_) (fun h => ?_))) <;> (try simp only [goS] at h) <;> (try simp only [rdi, rdy, rd2i, Int.toNat_natCast, Nat.add_zero] at h))
      | ((with_reducible refine tret.any ?_); first | refine tret.ok (by rfl) ?_ | refine tret.okN (by rfl) ?_)
      | ((with_reducible refine Due.mk ?_); (first | with_reducible rfl | omega | assumption | decide | ((try simp only [goS] at *) <;> (try intro h) <;> (try intro h') <;> (try simp only [goS] at *) <;> (try simp only [rdi, rdy, rd2i, Int.toNat_natCast, Nat.add_zero] at *) <;> (try simp only [rng]) <;> (first | assumption | omega)) | (exact due_app0 (by omega)) | (exact due_app (by omega)) | (intros; simp; done) | (intros; simp; omega)))
      | with_reducible refine Due.mk ?_
      | omega)
  obtain ⟨i, u⟩ := p
  dsimp only at hp ⊢
  obtain ⟨hi, hu, hq⟩ := hp
  rcases Nat.lt_or_ge i l.length with hi | hi
  · have hLi := hL i hi
    have hbi := hb i hi
    repeat' (first
      | ((with_reducible refine TOps.any ?_); refine TOps.callV env (by rfl) (by rfl) (by rfl) (hLi) ?_)
      | with_reducible first | refine Tw.seq ?_ | refine Tw.reg ?_ | refine Tw.block ?_ | refine Tw.scope ?_ | refine Tw.skip ?_ | refine Tw.exit ?_ | refine Tw.ret ?_ | refine seqN ?_ | refine seqR ?_ | refine seqE ?_ | refine rndN ?_ | refine blkN ?_ | refine blkR ?_ | refine blkE1 ?_ | refine blkE0 (by kernel_rfl) ?_ | refine scpN ?_ | refine scpR ?_ | refine scpE ?_ | refine TOps.nil ?_ | exact Conj.nil | refine Conj.cons rfl ?_ | refine Conj.same ?_ | refine Conj.ask ?_ ?_ | refine Tw.regd env ?_ | refine TDr.nil ⟨by kernel_rfl, ?_⟩
      | ((with_reducible refine TOps.any ?_); first | refine TOps.frunP env (by rfl) (by rfl) ?_ ?_ | (refine TOps.known (by rfl) ?_; refine TOps.strip env (by rfl) (by rfl) ?_ ?_) | refine TOps.on (by rfl) (by rfl) ?_)
      | ((with_reducible refine TDr.any ?_); refine TDr.frunP env (by rfl) (by rfl) ?_ ?_)
      | ((with_reducible refine Tw.any ?_); first | refine Tw.condT (by rfl) ?_ | refine Tw.condF (by rfl) ?_)
      | ((first | ((with_reducible refine TOps.any ?_); (fail_if_success refine TOps.known (by rfl) ?_); refine TOps.ask (by rfl) (fun h => ?_) (fun h => ?_)) | ((with_reducible refine TDr.any ?_); (fail_if_success refine TDr.known (by first | rfl | assumption) ?_); refine TDr.ask (by rfl) (fun h hk => ?_) (fun h => ?_)) | ((with_reducible refine Tw.any ?_); refine Tw.cond (by rfl) (fun h => ?_) (fun h => ?_))) <;> (try simp only [goS] at h) <;> (try simp only [rdi, rdy, rd2i, Int.toNat_natCast, Nat.add_zero] at h) <;> (try (exfalso; (try simp only [goP, reduceCtorEq] at h) <;> (first | assumption | omega | contradiction | (rcases h with ⟨_, _⟩ <;> first | contradiction | omega) | (rcases h with h | h <;> first | contradiction | omega)))))
      | ((with_reducible refine tret.any ?_); first | refine tret.ok (by rfl) ?_ | refine tret.okN (by rfl) ?_)
      | ((with_reducible refine Due.mk ?_); (first | with_reducible rfl | omega | assumption | decide | ((try simp only [goS] at *) <;> (try intro h) <;> (try intro h') <;> (try simp only [goS] at *) <;> (try simp only [rdi, rdy, rd2i, Int.toNat_natCast, Nat.add_zero] at *) <;> (try simp only [rng]) <;> (first | assumption | omega)) | (exact due_app0 (by omega)) | (exact due_app (by omega)) | (intros; simp; done) | (intros; simp; omega)))
      | with_reducible refine Due.mk ?_
      | omega)
    refine ⟨(i + 1, u.set i (P i - x, Q i - y)), ⟨by dsimp only; omega, by simpa using hu, fun j hj => ?_⟩, by dsimp only; omega, TWk.fcanon env [some 0, some 1] (by rfl) ?_⟩
    · dsimp only at hj ⊢
      by_cases e : j = i
      · subst e; rw [getD_set_eq (by omega)]
      · rw [getD_set_ne (fun e' => e e'.symm)]; exact hq j (by omega)
    · repeat' (first
        | with_reducible first | refine Tw.seq ?_ | refine Tw.reg ?_ | refine Tw.block ?_ | refine Tw.scope ?_ | refine Tw.skip ?_ | refine Tw.exit ?_ | refine Tw.ret ?_ | refine seqN ?_ | refine seqR ?_ | refine seqE ?_ | refine rndN ?_ | refine blkN ?_ | refine blkR ?_ | refine blkE1 ?_ | refine blkE0 (by kernel_rfl) ?_ | refine scpN ?_ | refine scpR ?_ | refine scpE ?_ | refine TOps.nil ?_ | exact Conj.nil | refine Conj.cons rfl ?_ | refine Conj.same ?_ | refine Conj.ask ?_ ?_ | refine Tw.regd env ?_ | refine TDr.nil ⟨by kernel_rfl, ?_⟩
        | ((with_reducible refine TOps.any ?_); first | refine TOps.frunP env (by rfl) (by rfl) ?_ ?_ | (refine TOps.known (by rfl) ?_; refine TOps.strip env (by rfl) (by rfl) ?_ ?_) | refine TOps.on (by rfl) (by rfl) ?_)
        | ((with_reducible refine TDr.any ?_); refine TDr.frunP env (by rfl) (by rfl) ?_ ?_)
        | ((with_reducible refine Tw.any ?_); first | refine Tw.condT (by rfl) ?_ | refine Tw.condF (by rfl) ?_)
        | ((first | ((with_reducible refine TOps.any ?_); (fail_if_success refine TOps.known (by rfl) ?_); refine TOps.ask (by rfl) (fun h => ?_) (fun h => ?_)) | ((with_reducible refine TDr.any ?_); (fail_if_success refine TDr.known (by first | rfl | assumption) ?_); refine TDr.ask (by rfl) (fun h hk => ?_) (fun h => ?_)) | ((with_reducible refine Tw.any ?_); refine Tw.cond (by rfl) (fun h => ?_) (fun h => ?_))) <;> (try simp only [goS] at h) <;> (try simp only [rdi, rdy, rd2i, Int.toNat_natCast, Nat.add_zero] at h))
        | ((with_reducible refine tret.any ?_); first | refine tret.ok (by rfl) ?_ | refine tret.okN (by rfl) ?_)
        | ((with_reducible refine Due.mk ?_); (first | with_reducible rfl | omega | assumption | decide | ((try simp only [goS] at *) <;> (try intro h) <;> (try intro h') <;> (try simp only [goS] at *) <;> (try simp only [rdi, rdy, rd2i, Int.toNat_natCast, Nat.add_zero] at *) <;> (try simp only [rng]) <;> (first | assumption | omega)) | (exact due_app0 (by omega)) | (exact due_app (by omega)) | (intros; simp; done) | (intros; simp; omega)))
        | with_reducible refine Due.mk ?_
        | omega)
  · obtain rfl : i = l.length := by omega
    repeat' (first
      | ((with_reducible refine Tw.retI ?_); refine Tw.frz env 1 (by rfl) (by rfl) (by rfl) ?_ ?_ (Tw.ret ?_))
      | with_reducible first | refine Tw.seq ?_ | refine Tw.reg ?_ | refine Tw.block ?_ | refine Tw.scope ?_ | refine Tw.skip ?_ | refine Tw.exit ?_ | refine Tw.ret ?_ | refine seqN ?_ | refine seqR ?_ | refine seqE ?_ | refine rndN ?_ | refine blkN ?_ | refine blkR ?_ | refine blkE1 ?_ | refine blkE0 (by kernel_rfl) ?_ | refine scpN ?_ | refine scpR ?_ | refine scpE ?_ | refine TOps.nil ?_ | exact Conj.nil | refine Conj.cons rfl ?_ | refine Conj.same ?_ | refine Conj.ask ?_ ?_ | refine Tw.regd env ?_ | refine TDr.nil ⟨by kernel_rfl, ?_⟩
      | ((with_reducible refine TOps.any ?_); first | refine TOps.frunP env (by rfl) (by rfl) ?_ ?_ | (refine TOps.known (by rfl) ?_; refine TOps.strip env (by rfl) (by rfl) ?_ ?_) | refine TOps.on (by rfl) (by rfl) ?_)
      | ((with_reducible refine TDr.any ?_); refine TDr.frunP env (by rfl) (by rfl) ?_ ?_)
      | ((with_reducible refine Tw.any ?_); first | refine Tw.condT (by rfl) ?_ | refine Tw.condF (by rfl) ?_)
      | ((first | ((with_reducible refine TOps.any ?_); (fail_if_success refine TOps.known (by rfl) ?_); refine TOps.ask (by rfl) (fun h => ?_) (fun h => ?_)) | ((with_reducible refine TDr.any ?_); (fail_if_success refine TDr.known (by first | rfl | assumption) ?_); refine TDr.ask (by rfl) (fun h hk => ?_) (fun h => ?_)) | ((with_reducible refine Tw.any ?_); refine Tw.cond (by rfl) (fun h => ?_) (fun h => ?_))) <;> (try simp only [goS] at h) <;> (try simp only [rdi, rdy, rd2i, Int.toNat_natCast, Nat.add_zero] at h) <;> (try (exfalso; (try simp only [goP, reduceCtorEq] at h) <;> (first | assumption | omega | contradiction | (rcases h with ⟨_, _⟩ <;> first | contradiction | omega) | (rcases h with h | h <;> first | contradiction | omega)))))
      | ((with_reducible refine tret.any ?_); first | refine tret.ok (by rfl) ?_ | refine tret.okN (by rfl) ?_)
      | ((with_reducible refine Due.mk ?_); (first | with_reducible rfl | omega | assumption | decide | ((try simp only [goS] at *) <;> (try intro h) <;> (try intro h') <;> (try simp only [goS] at *) <;> (try simp only [rdi, rdy, rd2i, Int.toNat_natCast, Nat.add_zero] at *) <;> (try simp only [rng]) <;> (first | assumption | omega)) | (exact due_app0 (by omega)) | (exact due_app (by omega)) | (intros; simp; done) | (intros; simp; omega)))
      | with_reducible refine Due.mk ?_
      | omega)
    rw [cut_all hu.symm, is_tab (0, 0) hu hq]
    exact ⟨rfl, rfl, rfl⟩

theorem sum_most {f : Nat → Int} {i0 : Nat} : ∀ {n : Nat}, (∀ i, i < n → 0 ≤ f i) → (∀ i, i < n → i ≠ i0 → 1 ≤ f i) → (n : Int) - 1 ≤ sumN f n ∧ (n ≤ i0 → (n : Int) ≤ sumN f n)
  | 0, _, _ => by simp [sumN]
  | n + 1, h, h1 => by
    have ih := sum_most (n := n) (fun i hi => h i (by omega)) (fun i hi => h1 i (by omega))
    have := h n (by omega)
    simp only [sumN]
    by_cases e : n = i0
    · subst e
      have := ih.2 (Nat.le_refl _)
      refine ⟨by omega, fun hle => by omega⟩
    · have := h1 n (by omega) e
      exact ⟨by omega, fun hle => by have := ih.2 (by omega); omega⟩

/-- A cross. -/
def crossP (a : Nat) (x0 y0 : Nat) (s t : Int) : Bool := decide ((t = y0 ∧ -(a : Int) ≤ s - x0 ∧ s - x0 ≤ a) ∨ (s = x0 ∧ -(a : Int) ≤ t - y0 ∧ t - y0 ≤ a))
theorem mis_own {a x y : Nat} : misA (crossP a x y) a x y = 0 := by
  refine sumN_zero fun j hj => sumN_zero fun i hi => ?_
  unfold mcell
  rw [if_pos]
  unfold crossP
  rw [Bool.eq_iff_iff, decide_eq_true_eq, Bool.or_eq_true, decide_eq_true_eq, decide_eq_true_eq]
  omega
theorem mis_else {a x y x0 y0 : Nat} (h : ¬ (x = x0 ∧ y = y0)) : 2 * (a : Int) ≤ misA (crossP a x0 y0) a x y := by
  have nn : ∀ j, 0 ≤ mrow (crossP a x0 y0) a x y j (2 * a + 1) := fun j => (mrow_bd _ a x y j _).1
  by_cases hy : y = y0
  · have hx : x ≠ x0 := fun e => h ⟨e, hy⟩
    have := (sum_most (f := fun j => mrow (crossP a x0 y0) a x y j (2 * a + 1)) (i0 := a) (n := 2 * a + 1) (fun j _ => nn j) (fun j hj hne => by
      have h1 : mcell (crossP a x0 y0) a x y j a = 1 := by
        unfold mcell
        rw [if_neg]
        unfold crossP
        rw [Bool.eq_iff_iff, decide_eq_true_eq, Bool.or_eq_true, decide_eq_true_eq, decide_eq_true_eq]
        omega
      have h2 := sumN_one (f := mcell (crossP a x0 y0) a x y j) (b := a) (n := 2 * a + 1) (by omega)
      have h3 := sumN_nonneg (f := fun i => if i = a then 0 else mcell (crossP a x0 y0) a x y j i) (n := 2 * a + 1) fun i _ => by split <;> first | omega | exact (mcell_bd _ a x y j i).1
      unfold mrow; omega)).1
    unfold misA
    omega
  · have h1 := (sum_most (f := mcell (crossP a x0 y0) a x y a) (i0 := ((x0 : Int) - x + a).toNat) (n := 2 * a + 1) (fun i _ => (mcell_bd _ a x y a i).1) (fun i hi hne => by
      unfold mcell
      rw [if_neg (by
        unfold crossP
        rw [Bool.eq_iff_iff, decide_eq_true_eq, Bool.or_eq_true, decide_eq_true_eq, decide_eq_true_eq]
        omega)]
      omega)).1
    have h2 := sumN_one (f := fun j => mrow (crossP a x0 y0) a x y j (2 * a + 1)) (b := a) (n := 2 * a + 1) (by omega)
    have h3 := sumN_nonneg (f := fun j => if j = a then 0 else mrow (crossP a x0 y0) a x y j (2 * a + 1)) (n := 2 * a + 1) fun j _ => by split <;> first | omega | exact nn j
    have h4 : mrow (crossP a x0 y0) a x y a (2 * a + 1) = sumN (mcell (crossP a x0 y0) a x y a) (2 * a + 1) := rfl
    unfold misA
    omega

theorem mod_at {w x y : Nat} (hx : x < w) : (y * w + x) % w = x ∧ (y * w + x) / w = y := by
  rw [Nat.mul_comm, Nat.mul_add_mod, Nat.mod_eq_of_lt hx, Nat.mul_add_div (by omega), Nat.div_eq_of_lt hx, Nat.add_zero]
  exact ⟨rfl, rfl⟩
theorem at_lt {w k x y : Nat} (hx : x < w) (hy : y < k) : y * w + x < w * k := by
  have h2 : (y + 1) * w ≤ k * w := Nat.mul_le_mul_right _ hy
  rw [Nat.mul_comm w k]
  rw [Nat.add_mul] at h2
  omega
end Go.Proofs.Ytanhalcbghbpaaa
