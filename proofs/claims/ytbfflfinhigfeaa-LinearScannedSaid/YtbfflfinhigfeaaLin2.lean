/- Bar codes: text becomes values, values become widths. -/
import Derived.Test.YtbfflfinhigfeaaLin1
namespace Go.Proofs.Ytbfflfinhigfeaa
open Go Go.Lite
set_option linter.unusedVariables false
set_option linter.unusedSimpArgs false
set_option maxRecDepth 100000
set_option maxHeartbeats 4000000
-- @simp rdi rdy

/-- The sum of the values, each times its place. -/
def wsum (l : List Int) : Nat → Int
  | 0 => 0
  | k + 1 => wsum l k + ((k : Int) + 1) * l.getD k 0
theorem wsum_bd {l : List Int} (h : ∀ i, i < l.length → 0 ≤ l.getD i 0 ∧ l.getD i 0 ≤ 200) (hl : l.length ≤ 20) : ∀ k, k ≤ l.length → 0 ≤ wsum l k ∧ wsum l k ≤ 4000 * k
  | 0, _ => ⟨by simp [wsum], by simp [wsum]⟩
  | k + 1, hk => by
    have i1 := wsum_bd h hl k (by omega)
    have i2 := h k (by omega)
    simp only [wsum]
    have p1 : 0 ≤ ((k : Int) + 1) * l.getD k 0 := Int.mul_nonneg (by omega) i2.1
    have p2 : ((k : Int) + 1) * l.getD k 0 ≤ 20 * 200 := Int.mul_le_mul (by omega) i2.2 i2.1 (by omega)
    constructor <;> omega
def chk (l : List Int) : Int := wsum l l.length % 101

theorem sum_c (l : List Int) (h : ∀ i, i < l.length → 0 ≤ l.getD i 0 ∧ l.getD i 0 ≤ 200) (hl : l.length ≤ 20) :
    TC R Try.prog linear_sum_f [.lst Ei l] [] (fun v X => v = .int .i64 (chk l) ∧ X = []) := by
  refine tc0 env linear_sum_s (by rfl) ?_
  dsimp only [linear_sum_c]
  repeat' (first
    | with_reducible first | refine Tw.seq ?_ | refine Tw.reg ?_ | refine Tw.block ?_ | refine Tw.scope ?_ | refine Tw.skip ?_ | refine Tw.exit ?_ | refine Tw.ret ?_ | refine seqN ?_ | refine seqR ?_ | refine seqE ?_ | refine rndN ?_ | refine blkN ?_ | refine blkR ?_ | refine blkE1 ?_ | refine blkE0 (by kernel_rfl) ?_ | refine scpN ?_ | refine scpR ?_ | refine scpE ?_ | refine TOps.nil ?_ | exact Conj.nil | refine Conj.cons rfl ?_ | refine Conj.same ?_ | refine Conj.ask ?_ ?_ | refine Tw.regd env ?_ | refine TDr.nil ⟨by kernel_rfl, ?_⟩
    | ((with_reducible refine TOps.any ?_); first | refine TOps.frunP env (by rfl) (by rfl) ?_ ?_ | (refine TOps.known (by rfl) ?_; refine TOps.strip env (by rfl) (by rfl) ?_ ?_) | refine TOps.on (by rfl) (by rfl) ?_)
    | ((with_reducible refine TDr.any ?_); refine TDr.frunP env (by rfl) (by rfl) ?_ ?_)
    | ((with_reducible refine Tw.any ?_); first | refine Tw.condT (by rfl) ?_ | refine Tw.condF (by rfl) ?_)
    | ((first | ((with_reducible refine TOps.any ?_); (fail_if_success refine TOps.known (by rfl) ?_); refine TOps.ask (by rfl) (fun h => ?_) (fun h => ?_)) | ((with_reducible refine TDr.any ?_); (fail_if_success refine TDr.known (by first | rfl | assumption) ?_); refine TDr.ask (by rfl) (fun h hk => ?_) (fun h => ?_)) | ((with_reducible refine Tw.any ?_); refine Tw.cond (by rfl) (fun h => ?_) (fun h => ?_))) <;> (try simp only [goS] at h) <;> (try simp only [rdi, rdy, Int.toNat_natCast, Nat.add_zero] at h) <;> (try (exfalso; (try simp only [goP, reduceCtorEq] at h) <;> (first | assumption | omega | contradiction | (rcases h with ⟨_, _⟩ <;> first | contradiction | omega) | (rcases h with h | h <;> first | contradiction | omega)))))
    | ((with_reducible refine tret.any ?_); first | refine tret.ok (by rfl) ?_ | refine tret.okN (by rfl) ?_)
    | ((with_reducible refine Due.mk ?_); (first | with_reducible rfl | omega | assumption | decide | ((try simp only [goS] at *) <;> (try intro h) <;> (try intro h') <;> (try simp only [goS] at *) <;> (try simp only [rdi, rdy, Int.toNat_natCast, Nat.add_zero] at *) <;> (try simp only [rng]) <;> (first | assumption | omega)) | (exact due_app0 (by omega)) | (exact due_app (by omega)) | (intros; simp; done) | (intros; simp; omega)))
    | with_reducible refine Due.mk ?_
    | omega)
  refine Tw.loopK [6, 7] (fun k : Nat => k ≤ l.length) (fun k => l.length - k) (fun k => [(8, .int .i64 k), (3, .int .i64 (wsum l k))])
    (fun _ => []) ⟨0, by omega, TWk.fcanon env [] (by rfl) ?_⟩ (fun k hk => ?_)
  · repeat' (first
      | with_reducible first | exact Conj.nil | refine Conj.cons rfl ?_ | refine Conj.same ?_ | refine Conj.ask ?_ ?_
      | ((with_reducible refine Due.mk ?_); (first | with_reducible rfl | omega | assumption | decide | ((try simp only [goS] at *) <;> (try intro h) <;> (try intro h') <;> (try simp only [goS] at *) <;> (try simp only [rdi, rdy, Int.toNat_natCast, Nat.add_zero] at *) <;> (try simp only [rng]) <;> (first | assumption | omega)) | (exact due_app0 (by omega)) | (exact due_app (by omega)) | (intros; simp; done) | (intros; simp; omega)))
      | with_reducible refine Due.mk ?_
      | omega)
  have wb := wsum_bd h hl k hk
  rcases Nat.lt_or_ge k l.length with hk2 | hk2
  · have b := h k hk2
    have p1 : 0 ≤ ((k : Int) + 1) * l.getD k 0 := Int.mul_nonneg (by omega) b.1
    have p2 : ((k : Int) + 1) * l.getD k 0 ≤ 20 * 200 := Int.mul_le_mul (by omega) b.2 b.1 (by omega)
    have p3 : -9223372036854775808 ≤ ((k : Int) + 1) * l.getD k 0 ∧ ((k : Int) + 1) * l.getD k 0 ≤ 9223372036854775807 := by omega
    have p4 : -9223372036854775808 ≤ wsum l k + ((k : Int) + 1) * l.getD k 0 ∧ wsum l k + ((k : Int) + 1) * l.getD k 0 ≤ 9223372036854775807 := by omega
    repeat' (first
      | exact p3
      | exact p4
      | with_reducible first | refine Tw.seq ?_ | refine Tw.reg ?_ | refine Tw.block ?_ | refine Tw.scope ?_ | refine Tw.skip ?_ | refine Tw.exit ?_ | refine Tw.ret ?_ | refine seqN ?_ | refine seqR ?_ | refine seqE ?_ | refine rndN ?_ | refine blkN ?_ | refine blkR ?_ | refine blkE1 ?_ | refine blkE0 (by kernel_rfl) ?_ | refine scpN ?_ | refine scpR ?_ | refine scpE ?_ | refine TOps.nil ?_ | exact Conj.nil | refine Conj.cons rfl ?_ | refine Conj.same ?_ | refine Conj.ask ?_ ?_ | refine Tw.regd env ?_ | refine TDr.nil ⟨by kernel_rfl, ?_⟩
      | ((with_reducible refine TOps.any ?_); first | refine TOps.frunP env (by rfl) (by rfl) ?_ ?_ | (refine TOps.known (by rfl) ?_; refine TOps.strip env (by rfl) (by rfl) ?_ ?_) | refine TOps.on (by rfl) (by rfl) ?_)
      | ((with_reducible refine TDr.any ?_); refine TDr.frunP env (by rfl) (by rfl) ?_ ?_)
      | ((with_reducible refine Tw.any ?_); first | refine Tw.condT (by rfl) ?_ | refine Tw.condF (by rfl) ?_)
      | ((first | ((with_reducible refine TOps.any ?_); (fail_if_success refine TOps.known (by rfl) ?_); refine TOps.ask (by rfl) (fun h => ?_) (fun h => ?_)) | ((with_reducible refine TDr.any ?_); (fail_if_success refine TDr.known (by first | rfl | assumption) ?_); refine TDr.ask (by rfl) (fun h hk => ?_) (fun h => ?_)) | ((with_reducible refine Tw.any ?_); refine Tw.cond (by rfl) (fun h => ?_) (fun h => ?_))) <;> (try simp only [goS] at h) <;> (try simp only [rdi, rdy, Int.toNat_natCast, Nat.add_zero] at h) <;> (try (exfalso; (try simp only [goP, reduceCtorEq] at h) <;> (first | assumption | omega | contradiction | (rcases h with ⟨_, _⟩ <;> first | contradiction | omega) | (rcases h with h | h <;> first | contradiction | omega)))))
      | ((with_reducible refine tret.any ?_); first | refine tret.ok (by rfl) ?_ | refine tret.okN (by rfl) ?_)
      | ((with_reducible refine Due.mk ?_); (first | with_reducible rfl | omega | assumption | decide | ((try simp only [goS] at *) <;> (try intro h) <;> (try intro h') <;> (try simp only [goS] at *) <;> (try simp only [rdi, rdy, Int.toNat_natCast, Nat.add_zero] at *) <;> (try simp only [rng]) <;> (first | assumption | omega)) | (exact due_app0 (by omega)) | (exact due_app (by omega)) | (intros; simp; done) | (intros; simp; omega)))
      | with_reducible refine Due.mk ?_
      | omega)
    refine ⟨k + 1, by omega, by omega, TWk.fcanon env [] (by rfl) ?_⟩
    repeat' (first
      | exact rfl
      | with_reducible first | exact Conj.nil | refine Conj.cons rfl ?_ | refine Conj.same ?_ | refine Conj.ask ?_ ?_
      | ((with_reducible refine Due.mk ?_); (first | with_reducible rfl | omega | assumption | decide | ((try simp only [goS] at *) <;> (try intro h) <;> (try intro h') <;> (try simp only [goS] at *) <;> (try simp only [rdi, rdy, Int.toNat_natCast, Nat.add_zero] at *) <;> (try simp only [rng]) <;> (first | assumption | omega)) | (exact due_app0 (by omega)) | (exact due_app (by omega)) | (intros; simp; done) | (intros; simp; omega)))
      | with_reducible refine Due.mk ?_
      | omega)
  · obtain rfl : k = l.length := by omega
    have q : rem (wsum l l.length) 101 = chk l := by rw [rem_nn wb.1]; rfl
    repeat' (first
      | with_reducible first | refine Tw.seq ?_ | refine Tw.reg ?_ | refine Tw.block ?_ | refine Tw.scope ?_ | refine Tw.skip ?_ | refine Tw.exit ?_ | refine Tw.ret ?_ | refine seqN ?_ | refine seqR ?_ | refine seqE ?_ | refine rndN ?_ | refine blkN ?_ | refine blkR ?_ | refine blkE1 ?_ | refine blkE0 (by kernel_rfl) ?_ | refine scpN ?_ | refine scpR ?_ | refine scpE ?_ | refine TOps.nil ?_ | exact Conj.nil | refine Conj.cons rfl ?_ | refine Conj.same ?_ | refine Conj.ask ?_ ?_ | refine Tw.regd env ?_ | refine TDr.nil ⟨by kernel_rfl, ?_⟩
      | ((with_reducible refine TOps.any ?_); first | refine TOps.frunP env (by rfl) (by rfl) ?_ ?_ | (refine TOps.known (by rfl) ?_; refine TOps.strip env (by rfl) (by rfl) ?_ ?_) | refine TOps.on (by rfl) (by rfl) ?_)
      | ((with_reducible refine TDr.any ?_); refine TDr.frunP env (by rfl) (by rfl) ?_ ?_)
      | ((with_reducible refine Tw.any ?_); first | refine Tw.condT (by rfl) ?_ | refine Tw.condF (by rfl) ?_)
      | ((first | ((with_reducible refine TOps.any ?_); (fail_if_success refine TOps.known (by rfl) ?_); refine TOps.ask (by rfl) (fun h => ?_) (fun h => ?_)) | ((with_reducible refine TDr.any ?_); (fail_if_success refine TDr.known (by first | rfl | assumption) ?_); refine TDr.ask (by rfl) (fun h hk => ?_) (fun h => ?_)) | ((with_reducible refine Tw.any ?_); refine Tw.cond (by rfl) (fun h => ?_) (fun h => ?_))) <;> (try simp only [goS] at h) <;> (try simp only [rdi, rdy, Int.toNat_natCast, Nat.add_zero] at h) <;> (try (exfalso; (try simp only [goP, reduceCtorEq] at h) <;> (first | assumption | omega | contradiction | (rcases h with ⟨_, _⟩ <;> first | contradiction | omega) | (rcases h with h | h <;> first | contradiction | omega)))))
      | ((with_reducible refine tret.any ?_); first | refine tret.ok (by rfl) ?_ | refine tret.okN (by rfl) ?_)
      | ((with_reducible refine Due.mk ?_); (first | with_reducible rfl | omega | assumption | decide | ((try simp only [goS] at *) <;> (try intro h) <;> (try intro h') <;> (try simp only [goS] at *) <;> (try simp only [rdi, rdy, Int.toNat_natCast, Nat.add_zero] at *) <;> (try simp only [rng]) <;> (first | assumption | omega)) | (exact due_app0 (by omega)) | (exact due_app (by omega)) | (intros; simp; done) | (intros; simp; omega)))
      | with_reducible refine Due.mk ?_
      | omega)
    rw [q]
    exact ⟨rfl, rfl, rfl⟩

/-- Digits as numbers; their text. -/
def Dig (l : List Int) : Prop := ∀ i, i < l.length → 48 ≤ l.getD i 0 ∧ l.getD i 0 ≤ 57
/-- An even number of digits. -/
def evenL (l : List Int) : List Int := if l.length % 2 = 1 then 48 :: l else l
def pairs (l : List Int) : Nat → List Int
  | 0 => []
  | k + 1 => pairs l k ++ [10 * (l.getD (2 * k) 0 - 48) + (l.getD (2 * k + 1) 0 - 48)]
/-- The values of a text, ahead of the check value. -/
def vals (l : List Int) : List Int := (if l.length % 2 = 1 then [100] else []) ++ pairs (evenL l) ((evenL l).length / 2)
theorem pairs_len {l : List Int} : ∀ {k : Nat}, (pairs l k).length = k
  | 0 => rfl
  | k + 1 => by simp [pairs, pairs_len (k := k)]
theorem pairs_get {l : List Int} {j : Nat} : ∀ {k : Nat}, j < k → (pairs l k).getD j 0 = 10 * (l.getD (2 * j) 0 - 48) + (l.getD (2 * j + 1) 0 - 48)
  | k + 1, h => by
    simp only [pairs]
    rcases Nat.lt_or_ge j k with h1 | h1
    · rw [getD_app1 (by rw [pairs_len]; exact h1)]; exact pairs_get h1
    · obtain rfl : j = k := by omega
      rw [getD_app2 (by rw [pairs_len]; exact Nat.le_refl _), pairs_len, Nat.sub_self]; rfl
theorem pairs_bd {E : List Int} (h : Dig E) {k : Nat} (hk : 2 * k ≤ E.length) : ∀ i, i < k → 0 ≤ (pairs E k).getD i 0 ∧ (pairs E k).getD i 0 ≤ 99 := fun i hi => by
  rw [pairs_get hi]
  have h1 := h (2 * i) (by omega)
  have h2 := h (2 * i + 1) (by omega)
  omega
theorem split_c (l : List Int) (hd : Dig l) (hl : 1 ≤ l.length ∧ l.length ≤ 20) :
    TC R Try.prog linear_split_f [.str (strOfNums l)] [] (fun v X => v = .tup [.sla 1 0 0 (vals l ++ [chk (vals l)]).length, .int .i64 0] ∧ X = [some (.arr Ei (vals l ++ [chk (vals l)]))]) := by
  have ls := str_size l
  have hE : Dig (evenL l) := fun i hi => by
    unfold evenL at hi ⊢
    split at hi
    · rename_i h
      rw [if_pos h]
      cases i with
      | zero => show (48 : Int) ≤ 48 ∧ (48 : Int) ≤ 57; omega
      | succ i =>
        have := hd i (by simpa using hi)
        simpa using this
    · rename_i h
      rw [if_neg h]; exact hd i hi
  have q2 : rem (l.length : Int) 2 = ((l.length % 2 : Nat) : Int) := by rw [rem_nn (by omega)]; omega
  have raw : TC R Try.prog linear_split_f [.str (strOfNums l)] [] (fun v X => v = .tup [.sla 1 2 0 (vals l ++ [chk (vals l)]).length, .int .i64 0] ∧ ∃ a b, X = [a, b, some (.arr Ei (vals l ++ [chk (vals l)]))]) := by
    refine tc env linear_split_s (by rfl) ?_
    dsimp only [linear_split_c]
    repeat' (first
      | with_reducible first | refine Tw.seq ?_ | refine Tw.reg ?_ | refine Tw.block ?_ | refine Tw.scope ?_ | refine Tw.skip ?_ | refine Tw.exit ?_ | refine Tw.ret ?_ | refine seqN ?_ | refine seqR ?_ | refine seqE ?_ | refine rndN ?_ | refine blkN ?_ | refine blkR ?_ | refine blkE1 ?_ | refine blkE0 (by kernel_rfl) ?_ | refine scpN ?_ | refine scpR ?_ | refine scpE ?_ | refine TOps.nil ?_ | exact Conj.nil | refine Conj.cons rfl ?_ | refine Conj.same ?_ | refine Conj.ask ?_ ?_ | refine Tw.regd env ?_ | refine TDr.nil ⟨by kernel_rfl, ?_⟩
      | ((with_reducible refine TOps.any ?_); first | refine TOps.frunP env (by rfl) (by rfl) ?_ ?_ | (refine TOps.known (by rfl) ?_; refine TOps.strip env (by rfl) (by rfl) ?_ ?_) | refine TOps.on (by rfl) (by rfl) ?_)
      | ((with_reducible refine TDr.any ?_); refine TDr.frunP env (by rfl) (by rfl) ?_ ?_)
      | ((with_reducible refine Tw.any ?_); first | refine Tw.condT (by rfl) ?_ | refine Tw.condF (by rfl) ?_)
      | ((first | ((with_reducible refine TOps.any ?_); (fail_if_success refine TOps.known (by rfl) ?_); refine TOps.ask (by rfl) (fun h => ?_) (fun h => ?_)) | ((with_reducible refine TDr.any ?_); (fail_if_success refine TDr.known (by first | rfl | assumption) ?_); refine TDr.ask (by rfl) (fun h hk => ?_) (fun h => ?_)) | ((with_reducible refine Tw.any ?_); refine Tw.cond (by rfl) (fun h => ?_) (fun h => ?_))) <;> (try simp only [goS] at h) <;> (try simp only [rdi, rdy, ls, Int.toNat_natCast, Nat.add_zero] at h) <;> (try (exfalso; (try simp only [goP, reduceCtorEq] at h) <;> (first | assumption | omega | contradiction | (rcases h with ⟨_, _⟩ <;> first | contradiction | omega) | (rcases h with h | h <;> first | contradiction | omega)))))
      | ((with_reducible refine tret.any ?_); first | refine tret.ok (by rfl) ?_ | refine tret.okN (by rfl) ?_)
      | ((with_reducible refine Due.mk ?_); (first | with_reducible rfl | omega | assumption | decide | ((try simp only [goS] at *) <;> (try intro h) <;> (try intro h') <;> (try simp only [goS] at *) <;> (try simp only [rdi, rdy, ls, Int.toNat_natCast, Nat.add_zero] at *) <;> (try simp only [rng]) <;> (first | assumption | omega)) | (exact due_app0 (by omega)) | (exact due_app (by omega)) | (intros; simp; done) | (intros; simp; omega)))
      | with_reducible refine Due.mk ?_
      | omega)
    refine Tw.loopK [0, 2, 3, 16] (fun i : Nat => i ≤ l.length) (fun i => l.length - i) (fun i => [(17, .int .i64 i)])
      (fun _ => []) ⟨0, by omega, TWk.fcanon env [] (by rfl) ?_⟩ (fun i hi => ?_)
    · repeat' (first
        | with_reducible first | exact Conj.nil | refine Conj.cons rfl ?_ | refine Conj.same ?_ | refine Conj.ask ?_ ?_
        | ((with_reducible refine Due.mk ?_); (first | with_reducible rfl | omega | assumption | decide | ((try simp only [goS] at *) <;> (try intro h) <;> (try intro h') <;> (try simp only [goS] at *) <;> (try simp only [rdi, rdy, Int.toNat_natCast, Nat.add_zero] at *) <;> (try simp only [rng]) <;> (first | assumption | omega)) | (exact due_app0 (by omega)) | (exact due_app (by omega)) | (intros; simp; done) | (intros; simp; omega)))
        | with_reducible refine Due.mk ?_
        | omega)
    rcases Nat.lt_or_ge i l.length with hi2 | hi2
    · have b := hd i hi2
      have a := str_at (l := l) (i := i) hi2 (by omega)
      repeat' (first
        | with_reducible first | refine Tw.seq ?_ | refine Tw.reg ?_ | refine Tw.block ?_ | refine Tw.scope ?_ | refine Tw.skip ?_ | refine Tw.exit ?_ | refine Tw.ret ?_ | refine seqN ?_ | refine seqR ?_ | refine seqE ?_ | refine rndN ?_ | refine blkN ?_ | refine blkR ?_ | refine blkE1 ?_ | refine blkE0 (by kernel_rfl) ?_ | refine scpN ?_ | refine scpR ?_ | refine scpE ?_ | refine TOps.nil ?_ | exact Conj.nil | refine Conj.cons rfl ?_ | refine Conj.same ?_ | refine Conj.ask ?_ ?_ | refine Tw.regd env ?_ | refine TDr.nil ⟨by kernel_rfl, ?_⟩
        | ((with_reducible refine TOps.any ?_); first | refine TOps.frunP env (by rfl) (by rfl) ?_ ?_ | (refine TOps.known (by rfl) ?_; refine TOps.strip env (by rfl) (by rfl) ?_ ?_) | refine TOps.on (by rfl) (by rfl) ?_)
        | ((with_reducible refine TDr.any ?_); refine TDr.frunP env (by rfl) (by rfl) ?_ ?_)
        | ((with_reducible refine Tw.any ?_); first | refine Tw.condT (by rfl) ?_ | refine Tw.condF (by rfl) ?_)
        | ((first | ((with_reducible refine TOps.any ?_); (fail_if_success refine TOps.known (by rfl) ?_); refine TOps.ask (by rfl) (fun h => ?_) (fun h => ?_)) | ((with_reducible refine TDr.any ?_); (fail_if_success refine TDr.known (by first | rfl | assumption) ?_); refine TDr.ask (by rfl) (fun h hk => ?_) (fun h => ?_)) | ((with_reducible refine Tw.any ?_); refine Tw.cond (by rfl) (fun h => ?_) (fun h => ?_))) <;> (try simp only [goS] at h) <;> (try simp only [rdi, rdy, ls, a, Int.toNat_natCast, Nat.add_zero] at h) <;> (try (exfalso; (try simp only [goP, reduceCtorEq] at h) <;> (first | assumption | omega | contradiction | (rcases h with ⟨_, _⟩ <;> first | contradiction | omega) | (rcases h with h | h <;> first | contradiction | omega)))))
        | ((with_reducible refine tret.any ?_); first | refine tret.ok (by rfl) ?_ | refine tret.okN (by rfl) ?_)
        | ((with_reducible refine Due.mk ?_); (first | with_reducible rfl | omega | assumption | decide | ((try simp only [goS] at *) <;> (try intro h) <;> (try intro h') <;> (try simp only [goS] at *) <;> (try simp only [rdi, rdy, ls, a, Int.toNat_natCast, Nat.add_zero] at *) <;> (try simp only [rng]) <;> (first | assumption | omega)) | (exact due_app0 (by omega)) | (exact due_app (by omega)) | (intros; simp; done) | (intros; simp; omega)))
        | with_reducible refine Due.mk ?_
        | omega)
      refine ⟨i + 1, by omega, by omega, TWk.fcanon env [] (by rfl) ?_⟩
      repeat' (first
        | with_reducible first | exact Conj.nil | refine Conj.cons rfl ?_ | refine Conj.same ?_ | refine Conj.ask ?_ ?_
        | ((with_reducible refine Due.mk ?_); (first | with_reducible rfl | omega | assumption | decide | ((try simp only [goS] at *) <;> (try intro h) <;> (try intro h') <;> (try simp only [goS] at *) <;> (try simp only [rdi, rdy, Int.toNat_natCast, Nat.add_zero] at *) <;> (try simp only [rng]) <;> (first | assumption | omega)) | (exact due_app0 (by omega)) | (exact due_app (by omega)) | (intros; simp; done) | (intros; simp; omega)))
        | with_reducible refine Due.mk ?_
        | omega)
    obtain rfl : i = l.length := by omega
    by_cases ho : l.length % 2 = 1
    · have eE : evenL l = 48 :: l := if_pos ho
      have lE : (evenL l).length = l.length + 1 := by rw [eE]; rfl
      have eV : vals l = [100] ++ pairs (evenL l) ((evenL l).length / 2) := by unfold vals; rw [if_pos ho]
      rw [eV]
      have dz : (((⟨([48] : List UInt8).toArray⟩ : ByteArray).size + (strOfNums l).size : Nat) : Int) ≤ 9223372036854775807 := by
        have : (⟨([48] : List UInt8).toArray⟩ : ByteArray).size = 1 := rfl
        rw [ls]; omega
      repeat' (first
        | exact dz
        | with_reducible first | refine Tw.seq ?_ | refine Tw.reg ?_ | refine Tw.block ?_ | refine Tw.scope ?_ | refine Tw.skip ?_ | refine Tw.exit ?_ | refine Tw.ret ?_ | refine seqN ?_ | refine seqR ?_ | refine seqE ?_ | refine rndN ?_ | refine blkN ?_ | refine blkR ?_ | refine blkE1 ?_ | refine blkE0 (by kernel_rfl) ?_ | refine scpN ?_ | refine scpR ?_ | refine scpE ?_ | refine TOps.nil ?_ | exact Conj.nil | refine Conj.cons rfl ?_ | refine Conj.same ?_ | refine Conj.ask ?_ ?_ | refine Tw.regd env ?_ | refine TDr.nil ⟨by kernel_rfl, ?_⟩
        | ((with_reducible refine TOps.any ?_); first | refine TOps.frunP env (by rfl) (by rfl) ?_ ?_ | (refine TOps.known (by rfl) ?_; refine TOps.strip env (by rfl) (by rfl) ?_ ?_) | refine TOps.on (by rfl) (by rfl) ?_)
        | ((with_reducible refine TDr.any ?_); refine TDr.frunP env (by rfl) (by rfl) ?_ ?_)
        | ((with_reducible refine Tw.any ?_); first | refine Tw.condT (by rfl) ?_ | refine Tw.condF (by rfl) ?_)
        | ((first | ((with_reducible refine TOps.any ?_); (fail_if_success refine TOps.known (by rfl) ?_); refine TOps.ask (by rfl) (fun h => ?_) (fun h => ?_)) | ((with_reducible refine TDr.any ?_); (fail_if_success refine TDr.known (by first | rfl | assumption) ?_); refine TDr.ask (by rfl) (fun h hk => ?_) (fun h => ?_)) | ((with_reducible refine Tw.any ?_); refine Tw.cond (by rfl) (fun h => ?_) (fun h => ?_))) <;> (try simp only [goS] at h) <;> (try simp only [rdi, rdy, ls, q2, Int.toNat_natCast, Nat.add_zero] at h) <;> (try (exfalso; (try simp only [goP, reduceCtorEq] at h) <;> (first | assumption | omega | contradiction | (rcases h with ⟨_, _⟩ <;> first | contradiction | omega) | (rcases h with h | h <;> first | contradiction | omega)))))
        | ((with_reducible refine tret.any ?_); first | refine tret.ok (by rfl) ?_ | refine tret.okN (by rfl) ?_)
        | ((with_reducible refine Due.mk ?_); (first | with_reducible rfl | omega | assumption | decide | ((try simp only [goS] at *) <;> (try intro h) <;> (try intro h') <;> (try simp only [goS] at *) <;> (try simp only [rdi, rdy, ls, q2, Int.toNat_natCast, Nat.add_zero] at *) <;> (try simp only [rng]) <;> (first | assumption | omega)) | (exact due_app0 (by omega)) | (exact due_app (by omega)) | (intros; simp; done) | (intros; simp; omega)))
        | with_reducible refine Due.mk ?_
        | omega)
      have eq0 : strOfNums ((evenL l).drop (2 * 0)) = (⟨([48] : List UInt8).toArray⟩ : ByteArray) ++ strOfNums l := by rw [eE, Nat.mul_zero, List.drop_zero]; exact (str_app [48] l).symm
      refine Tw.loopK [] (fun j : Nat => j ≤ (evenL l).length / 2) (fun j => (evenL l).length / 2 - j) (fun j => [(0, .str (strOfNums ((evenL l).drop (2 * j)))), (6, .sla 1 0 0 (1 + j))])
        (fun j => [some (.arr Ei (([100] : List Int) ++ pairs (evenL l) j))]) ⟨0, by omega, TWk.fcanon env [some 1] (by rfl) ?_⟩ (fun j hj => ?_)
      · repeat' (first
          | exact eq0
          | with_reducible first | exact Conj.nil | refine Conj.cons rfl ?_ | refine Conj.same ?_ | refine Conj.ask ?_ ?_
          | ((with_reducible refine Due.mk ?_); (first | with_reducible rfl | omega | assumption | decide | ((try simp only [goS] at *) <;> (try intro h) <;> (try intro h') <;> (try simp only [goS] at *) <;> (try simp only [rdi, rdy, Int.toNat_natCast, Nat.add_zero] at *) <;> (try simp only [rng]) <;> (first | assumption | omega)) | (exact due_app0 (by omega)) | (exact due_app (by omega)) | (intros; simp; done) | (intros; simp; omega)))
          | with_reducible refine Due.mk ?_
          | omega)
      have lj : (([100] : List Int) ++ pairs (evenL l) j).length = 1 + j := by rw [List.length_append, pairs_len]; rfl
      have sj := str_size ((evenL l).drop (2 * j))
      rw [List.length_drop] at sj
      rcases Nat.lt_or_ge j ((evenL l).length / 2) with hj2 | hj2
      · have d0 := hE (2 * j) (by omega)
        have d1 := hE (2 * j + 1) (by omega)
        have g0 : ((evenL l).drop (2 * j)).getD 0 0 = (evenL l).getD (2 * j) 0 := by rw [List.getD_eq_getElem?_getD, List.getElem?_drop, ← List.getD_eq_getElem?_getD, Nat.add_zero]
        have g1 : ((evenL l).drop (2 * j)).getD 1 0 = (evenL l).getD (2 * j + 1) 0 := by rw [List.getD_eq_getElem?_getD, List.getElem?_drop, ← List.getD_eq_getElem?_getD]
        have a0 := str_at (l := (evenL l).drop (2 * j)) (i := 0) (by rw [List.length_drop]; omega) (by rw [g0]; omega)
        have a1 := str_at (l := (evenL l).drop (2 * j)) (i := 1) (by rw [List.length_drop]; omega) (by rw [g1]; omega)
        rw [g0] at a0
        rw [g1] at a1
        have a0' : ((sat (strOfNums ((evenL l).drop (2 * j))) (Int.toNat 0) : Nat) : Int) = (evenL l).getD (2 * j) 0 := a0
        have a1' : ((sat (strOfNums ((evenL l).drop (2 * j))) (Int.toNat 1) : Nat) : Int) = (evenL l).getD (2 * j + 1) 0 := a1
        have m0 : ((evenL l).getD (2 * j) 0 - 48) % 256 = (evenL l).getD (2 * j) 0 - 48 := by omega
        have m1 : ((evenL l).getD (2 * j + 1) 0 - 48) % 256 = (evenL l).getD (2 * j + 1) 0 - 48 := by omega
        have nx : strOfNums ((evenL l).drop (2 * (j + 1))) = (strOfNums ((evenL l).drop (2 * j))).extract 2 (strOfNums ((evenL l).drop (2 * j))).size := by
          rw [str_cut, str_size, List.take_length, List.drop_drop, show 2 * (j + 1) = 2 * j + 2 by omega]
        have pn : ([100] : List Int) ++ pairs (evenL l) (j + 1) = cut (([100] : List Int) ++ pairs (evenL l) j) 0 (1 + j) ++ cut [10 * ((((sat (strOfNums ((evenL l).drop (2 * j))) (Int.toNat 0) : Nat) : Int) - 48) % 256) + (((sat (strOfNums ((evenL l).drop (2 * j))) (Int.toNat 1) : Nat) : Int) - 48) % 256] 0 1 := by
          rw [cut_all lj.symm, cut_one, a0', a1', m0, m1, List.append_assoc]; rfl
        repeat' (first
          | with_reducible first | refine Tw.seq ?_ | refine Tw.reg ?_ | refine Tw.block ?_ | refine Tw.scope ?_ | refine Tw.skip ?_ | refine Tw.exit ?_ | refine Tw.ret ?_ | refine seqN ?_ | refine seqR ?_ | refine seqE ?_ | refine rndN ?_ | refine blkN ?_ | refine blkR ?_ | refine blkE1 ?_ | refine blkE0 (by kernel_rfl) ?_ | refine scpN ?_ | refine scpR ?_ | refine scpE ?_ | refine TOps.nil ?_ | exact Conj.nil | refine Conj.cons rfl ?_ | refine Conj.same ?_ | refine Conj.ask ?_ ?_ | refine Tw.regd env ?_ | refine TDr.nil ⟨by kernel_rfl, ?_⟩
          | ((with_reducible refine TOps.any ?_); first | refine TOps.frunP env (by rfl) (by rfl) ?_ ?_ | (refine TOps.known (by rfl) ?_; refine TOps.strip env (by rfl) (by rfl) ?_ ?_) | refine TOps.on (by rfl) (by rfl) ?_)
          | ((with_reducible refine TDr.any ?_); refine TDr.frunP env (by rfl) (by rfl) ?_ ?_)
          | ((with_reducible refine Tw.any ?_); first | refine Tw.condT (by rfl) ?_ | refine Tw.condF (by rfl) ?_)
          | ((first | ((with_reducible refine TOps.any ?_); (fail_if_success refine TOps.known (by rfl) ?_); refine TOps.ask (by rfl) (fun h => ?_) (fun h => ?_)) | ((with_reducible refine TDr.any ?_); (fail_if_success refine TDr.known (by first | rfl | assumption) ?_); refine TDr.ask (by rfl) (fun h hk => ?_) (fun h => ?_)) | ((with_reducible refine Tw.any ?_); refine Tw.cond (by rfl) (fun h => ?_) (fun h => ?_))) <;> (try simp only [goS] at h) <;> (try simp only [rdi, rdy, sj, lj, a0', a1', m0, m1, Int.toNat_natCast, Nat.add_zero] at h) <;> (try (exfalso; (try simp only [goP, reduceCtorEq] at h) <;> (first | assumption | omega | contradiction | (rcases h with ⟨_, _⟩ <;> first | contradiction | omega) | (rcases h with h | h <;> first | contradiction | omega)))))
          | ((with_reducible refine tret.any ?_); first | refine tret.ok (by rfl) ?_ | refine tret.okN (by rfl) ?_)
          | ((with_reducible refine Due.mk ?_); (first | with_reducible rfl | omega | assumption | decide | ((try simp only [goS] at *) <;> (try intro h) <;> (try intro h') <;> (try simp only [goS] at *) <;> (try simp only [rdi, rdy, sj, lj, a0', a1', m0, m1, Int.toNat_natCast, Nat.add_zero] at *) <;> (try simp only [rng]) <;> (first | assumption | omega)) | (exact due_app0 (by omega)) | (exact due_app (by omega)) | (intros; simp; done) | (intros; simp; omega)))
          | with_reducible refine Due.mk ?_
          | omega)
        refine ⟨j + 1, by omega, by omega, TWk.fcanon env [some 2] (by rfl) ?_⟩
        repeat' (first
          | exact nx
          | exact pn
          | with_reducible first | exact Conj.nil | refine Conj.cons rfl ?_ | refine Conj.same ?_ | refine Conj.ask ?_ ?_
          | ((with_reducible refine Due.mk ?_); (first | with_reducible rfl | omega | assumption | decide | ((try simp only [goS] at *) <;> (try intro h) <;> (try intro h') <;> (try simp only [goS] at *) <;> (try simp only [rdi, rdy, Int.toNat_natCast, Nat.add_zero] at *) <;> (try simp only [rng]) <;> (first | assumption | omega)) | (exact due_app0 (by omega)) | (exact due_app (by omega)) | (intros; simp; done) | (intros; simp; omega)))
          | with_reducible refine Due.mk ?_
          | omega)
      · obtain rfl : j = (evenL l).length / 2 := by omega
        have hz : (evenL l).drop (2 * ((evenL l).length / 2)) = [] := List.drop_eq_nil_of_le (by omega)
        rw [hz] at sj ⊢
        have hV : ∀ i, i < (([100] : List Int) ++ pairs (evenL l) ((evenL l).length / 2)).length → 0 ≤ (([100] : List Int) ++ pairs (evenL l) ((evenL l).length / 2)).getD i 0 ∧ (([100] : List Int) ++ pairs (evenL l) ((evenL l).length / 2)).getD i 0 ≤ 200 := fun i hi => by
          rw [lj] at hi
          rcases Nat.lt_or_ge i 1 with h1 | h1
          · rw [getD_app1 (by exact h1)]
            have : i = 0 := by omega
            subst this; decide
          · rw [getD_app2 (by exact h1)]
            have := pairs_bd hE (k := (evenL l).length / 2) (by omega) (i - 1) (by omega)
            exact ⟨this.1, Int.le_trans this.2 (by decide)⟩
        have sc := sum_c (([100] : List Int) ++ pairs (evenL l) ((evenL l).length / 2)) hV (by rw [lj]; omega)
        have sc2 : TC R Try.prog linear_sum_f [.lst Ei (cut (([100] : List Int) ++ pairs (evenL l) ((evenL l).length / 2)) 0 (1 + (evenL l).length / 2))] [] (fun v X => v = .int .i64 (chk (([100] : List Int) ++ pairs (evenL l) ((evenL l).length / 2))) ∧ X = []) := by
          rw [cut_all lj.symm]; exact sc
        have ef : cut (([100] : List Int) ++ pairs (evenL l) ((evenL l).length / 2)) 0 (1 + (evenL l).length / 2) ++ cut [chk (([100] : List Int) ++ pairs (evenL l) ((evenL l).length / 2))] 0 1 = (([100] : List Int) ++ pairs (evenL l) ((evenL l).length / 2)) ++ [chk (([100] : List Int) ++ pairs (evenL l) ((evenL l).length / 2))] := by
          rw [cut_all lj.symm]; rfl
        have el : (cut (([100] : List Int) ++ pairs (evenL l) ((evenL l).length / 2)) 0 (1 + (evenL l).length / 2) ++ cut [chk (([100] : List Int) ++ pairs (evenL l) ((evenL l).length / 2))] 0 1).length = 1 + (evenL l).length / 2 + (cut [chk (([100] : List Int) ++ pairs (evenL l) ((evenL l).length / 2))] 0 1).length := by
          rw [List.length_append, cut_all lj.symm, lj]
        repeat' (first
          | ((with_reducible refine TOps.any ?_); refine TOps.callE env (by rfl) (by rfl) (by rfl) ?_ (sc2) (by rfl) ?_)
          | with_reducible first | refine Tw.seq ?_ | refine Tw.reg ?_ | refine Tw.block ?_ | refine Tw.scope ?_ | refine Tw.skip ?_ | refine Tw.exit ?_ | refine Tw.ret ?_ | refine seqN ?_ | refine seqR ?_ | refine seqE ?_ | refine rndN ?_ | refine blkN ?_ | refine blkR ?_ | refine blkE1 ?_ | refine blkE0 (by kernel_rfl) ?_ | refine scpN ?_ | refine scpR ?_ | refine scpE ?_ | refine TOps.nil ?_ | exact Conj.nil | refine Conj.cons rfl ?_ | refine Conj.same ?_ | refine Conj.ask ?_ ?_ | refine Tw.regd env ?_ | refine TDr.nil ⟨by kernel_rfl, ?_⟩
          | ((with_reducible refine TOps.any ?_); first | refine TOps.frunP env (by rfl) (by rfl) ?_ ?_ | (refine TOps.known (by rfl) ?_; refine TOps.strip env (by rfl) (by rfl) ?_ ?_) | refine TOps.on (by rfl) (by rfl) ?_)
          | ((with_reducible refine TDr.any ?_); refine TDr.frunP env (by rfl) (by rfl) ?_ ?_)
          | ((with_reducible refine Tw.any ?_); first | refine Tw.condT (by rfl) ?_ | refine Tw.condF (by rfl) ?_)
          | ((first | ((with_reducible refine TOps.any ?_); (fail_if_success refine TOps.known (by rfl) ?_); refine TOps.ask (by rfl) (fun h => ?_) (fun h => ?_)) | ((with_reducible refine TDr.any ?_); (fail_if_success refine TDr.known (by first | rfl | assumption) ?_); refine TDr.ask (by rfl) (fun h hk => ?_) (fun h => ?_)) | ((with_reducible refine Tw.any ?_); refine Tw.cond (by rfl) (fun h => ?_) (fun h => ?_))) <;> (try simp only [goS] at h) <;> (try simp only [rdi, rdy, lj, Int.toNat_natCast, Nat.add_zero] at h) <;> (try (exfalso; (try simp only [goP, reduceCtorEq] at h) <;> (first | assumption | omega | contradiction | (rcases h with ⟨_, _⟩ <;> first | contradiction | omega) | (rcases h with h | h <;> first | contradiction | omega)))))
          | ((with_reducible refine tret.any ?_); first | refine tret.ok (by rfl) ?_ | refine tret.okN (by rfl) ?_)
          | ((with_reducible refine Due.mk ?_); (first | with_reducible rfl | omega | assumption | decide | ((try simp only [goS] at *) <;> (try intro h) <;> (try intro h') <;> (try simp only [goS] at *) <;> (try simp only [rdi, rdy, lj, Int.toNat_natCast, Nat.add_zero] at *) <;> (try simp only [rng]) <;> (first | assumption | omega)) | (exact due_app0 (by omega)) | (exact due_app (by omega)) | (intros; simp; done) | (intros; simp; omega)))
          | with_reducible refine Due.mk ?_
          | omega)
        rw [← ef, el]
        exact ⟨rfl, _, _, rfl⟩
    · have eE : evenL l = l := if_neg ho
      have lE : (evenL l).length = l.length := by rw [eE]
      have eV : vals l = [] ++ pairs (evenL l) ((evenL l).length / 2) := by unfold vals; rw [if_neg ho]
      rw [eV]
      repeat' (first
        | with_reducible first | refine Tw.seq ?_ | refine Tw.reg ?_ | refine Tw.block ?_ | refine Tw.scope ?_ | refine Tw.skip ?_ | refine Tw.exit ?_ | refine Tw.ret ?_ | refine seqN ?_ | refine seqR ?_ | refine seqE ?_ | refine rndN ?_ | refine blkN ?_ | refine blkR ?_ | refine blkE1 ?_ | refine blkE0 (by kernel_rfl) ?_ | refine scpN ?_ | refine scpR ?_ | refine scpE ?_ | refine TOps.nil ?_ | exact Conj.nil | refine Conj.cons rfl ?_ | refine Conj.same ?_ | refine Conj.ask ?_ ?_ | refine Tw.regd env ?_ | refine TDr.nil ⟨by kernel_rfl, ?_⟩
        | ((with_reducible refine TOps.any ?_); first | refine TOps.frunP env (by rfl) (by rfl) ?_ ?_ | (refine TOps.known (by rfl) ?_; refine TOps.strip env (by rfl) (by rfl) ?_ ?_) | refine TOps.on (by rfl) (by rfl) ?_)
        | ((with_reducible refine TDr.any ?_); refine TDr.frunP env (by rfl) (by rfl) ?_ ?_)
        | ((with_reducible refine Tw.any ?_); first | refine Tw.condT (by rfl) ?_ | refine Tw.condF (by rfl) ?_)
        | ((first | ((with_reducible refine TOps.any ?_); (fail_if_success refine TOps.known (by rfl) ?_); refine TOps.ask (by rfl) (fun h => ?_) (fun h => ?_)) | ((with_reducible refine TDr.any ?_); (fail_if_success refine TDr.known (by first | rfl | assumption) ?_); refine TDr.ask (by rfl) (fun h hk => ?_) (fun h => ?_)) | ((with_reducible refine Tw.any ?_); refine Tw.cond (by rfl) (fun h => ?_) (fun h => ?_))) <;> (try simp only [goS] at h) <;> (try simp only [rdi, rdy, ls, q2, Int.toNat_natCast, Nat.add_zero] at h) <;> (try (exfalso; (try simp only [goP, reduceCtorEq] at h) <;> (first | assumption | omega | contradiction | (rcases h with ⟨_, _⟩ <;> first | contradiction | omega) | (rcases h with h | h <;> first | contradiction | omega)))))
        | ((with_reducible refine tret.any ?_); first | refine tret.ok (by rfl) ?_ | refine tret.okN (by rfl) ?_)
        | ((with_reducible refine Due.mk ?_); (first | with_reducible rfl | omega | assumption | decide | ((try simp only [goS] at *) <;> (try intro h) <;> (try intro h') <;> (try simp only [goS] at *) <;> (try simp only [rdi, rdy, ls, q2, Int.toNat_natCast, Nat.add_zero] at *) <;> (try simp only [rng]) <;> (first | assumption | omega)) | (exact due_app0 (by omega)) | (exact due_app (by omega)) | (intros; simp; done) | (intros; simp; omega)))
        | with_reducible refine Due.mk ?_
        | omega)
      have eq0 : strOfNums ((evenL l).drop (2 * 0)) = strOfNums l := by rw [eE, Nat.mul_zero, List.drop_zero]
      refine Tw.loopK [] (fun j : Nat => j ≤ (evenL l).length / 2) (fun j => (evenL l).length / 2 - j) (fun j => [(0, .str (strOfNums ((evenL l).drop (2 * j)))), (6, .sla 1 0 0 (0 + j))])
        (fun j => [some (.arr Ei (([] : List Int) ++ pairs (evenL l) j))]) ⟨0, by omega, TWk.fcanon env [none] (by rfl) ?_⟩ (fun j hj => ?_)
      · repeat' (first
          | exact eq0
          | with_reducible first | exact Conj.nil | refine Conj.cons rfl ?_ | refine Conj.same ?_ | refine Conj.ask ?_ ?_
          | ((with_reducible refine Due.mk ?_); (first | with_reducible rfl | omega | assumption | decide | ((try simp only [goS] at *) <;> (try intro h) <;> (try intro h') <;> (try simp only [goS] at *) <;> (try simp only [rdi, rdy, Int.toNat_natCast, Nat.add_zero] at *) <;> (try simp only [rng]) <;> (first | assumption | omega)) | (exact due_app0 (by omega)) | (exact due_app (by omega)) | (intros; simp; done) | (intros; simp; omega)))
          | with_reducible refine Due.mk ?_
          | omega)
      have lj : (([] : List Int) ++ pairs (evenL l) j).length = 0 + j := by rw [List.length_append, pairs_len]; rfl
      have sj := str_size ((evenL l).drop (2 * j))
      rw [List.length_drop] at sj
      rcases Nat.lt_or_ge j ((evenL l).length / 2) with hj2 | hj2
      · have d0 := hE (2 * j) (by omega)
        have d1 := hE (2 * j + 1) (by omega)
        have g0 : ((evenL l).drop (2 * j)).getD 0 0 = (evenL l).getD (2 * j) 0 := by rw [List.getD_eq_getElem?_getD, List.getElem?_drop, ← List.getD_eq_getElem?_getD, Nat.add_zero]
        have g1 : ((evenL l).drop (2 * j)).getD 1 0 = (evenL l).getD (2 * j + 1) 0 := by rw [List.getD_eq_getElem?_getD, List.getElem?_drop, ← List.getD_eq_getElem?_getD]
        have a0 := str_at (l := (evenL l).drop (2 * j)) (i := 0) (by rw [List.length_drop]; omega) (by rw [g0]; omega)
        have a1 := str_at (l := (evenL l).drop (2 * j)) (i := 1) (by rw [List.length_drop]; omega) (by rw [g1]; omega)
        rw [g0] at a0
        rw [g1] at a1
        have a0' : ((sat (strOfNums ((evenL l).drop (2 * j))) (Int.toNat 0) : Nat) : Int) = (evenL l).getD (2 * j) 0 := a0
        have a1' : ((sat (strOfNums ((evenL l).drop (2 * j))) (Int.toNat 1) : Nat) : Int) = (evenL l).getD (2 * j + 1) 0 := a1
        have m0 : ((evenL l).getD (2 * j) 0 - 48) % 256 = (evenL l).getD (2 * j) 0 - 48 := by omega
        have m1 : ((evenL l).getD (2 * j + 1) 0 - 48) % 256 = (evenL l).getD (2 * j + 1) 0 - 48 := by omega
        have nx : strOfNums ((evenL l).drop (2 * (j + 1))) = (strOfNums ((evenL l).drop (2 * j))).extract 2 (strOfNums ((evenL l).drop (2 * j))).size := by
          rw [str_cut, str_size, List.take_length, List.drop_drop, show 2 * (j + 1) = 2 * j + 2 by omega]
        have pn : ([] : List Int) ++ pairs (evenL l) (j + 1) = cut (([] : List Int) ++ pairs (evenL l) j) 0 (0 + j) ++ cut [10 * ((((sat (strOfNums ((evenL l).drop (2 * j))) (Int.toNat 0) : Nat) : Int) - 48) % 256) + (((sat (strOfNums ((evenL l).drop (2 * j))) (Int.toNat 1) : Nat) : Int) - 48) % 256] 0 1 := by
          rw [cut_all lj.symm, cut_one, a0', a1', m0, m1, List.append_assoc]; rfl
        repeat' (first
          | with_reducible first | refine Tw.seq ?_ | refine Tw.reg ?_ | refine Tw.block ?_ | refine Tw.scope ?_ | refine Tw.skip ?_ | refine Tw.exit ?_ | refine Tw.ret ?_ | refine seqN ?_ | refine seqR ?_ | refine seqE ?_ | refine rndN ?_ | refine blkN ?_ | refine blkR ?_ | refine blkE1 ?_ | refine blkE0 (by kernel_rfl) ?_ | refine scpN ?_ | refine scpR ?_ | refine scpE ?_ | refine TOps.nil ?_ | exact Conj.nil | refine Conj.cons rfl ?_ | refine Conj.same ?_ | refine Conj.ask ?_ ?_ | refine Tw.regd env ?_ | refine TDr.nil ⟨by kernel_rfl, ?_⟩
          | ((with_reducible refine TOps.any ?_); first | refine TOps.frunP env (by rfl) (by rfl) ?_ ?_ | (refine TOps.known (by rfl) ?_; refine TOps.strip env (by rfl) (by rfl) ?_ ?_) | refine TOps.on (by rfl) (by rfl) ?_)
          | ((with_reducible refine TDr.any ?_); refine TDr.frunP env (by rfl) (by rfl) ?_ ?_)
          | ((with_reducible refine Tw.any ?_); first | refine Tw.condT (by rfl) ?_ | refine Tw.condF (by rfl) ?_)
          | ((first | ((with_reducible refine TOps.any ?_); (fail_if_success refine TOps.known (by rfl) ?_); refine TOps.ask (by rfl) (fun h => ?_) (fun h => ?_)) | ((with_reducible refine TDr.any ?_); (fail_if_success refine TDr.known (by first | rfl | assumption) ?_); refine TDr.ask (by rfl) (fun h hk => ?_) (fun h => ?_)) | ((with_reducible refine Tw.any ?_); refine Tw.cond (by rfl) (fun h => ?_) (fun h => ?_))) <;> (try simp only [goS] at h) <;> (try simp only [rdi, rdy, sj, lj, a0', a1', m0, m1, Int.toNat_natCast, Nat.add_zero] at h) <;> (try (exfalso; (try simp only [goP, reduceCtorEq] at h) <;> (first | assumption | omega | contradiction | (rcases h with ⟨_, _⟩ <;> first | contradiction | omega) | (rcases h with h | h <;> first | contradiction | omega)))))
          | ((with_reducible refine tret.any ?_); first | refine tret.ok (by rfl) ?_ | refine tret.okN (by rfl) ?_)
          | ((with_reducible refine Due.mk ?_); (first | with_reducible rfl | omega | assumption | decide | ((try simp only [goS] at *) <;> (try intro h) <;> (try intro h') <;> (try simp only [goS] at *) <;> (try simp only [rdi, rdy, sj, lj, a0', a1', m0, m1, Int.toNat_natCast, Nat.add_zero] at *) <;> (try simp only [rng]) <;> (first | assumption | omega)) | (exact due_app0 (by omega)) | (exact due_app (by omega)) | (intros; simp; done) | (intros; simp; omega)))
          | with_reducible refine Due.mk ?_
          | omega)
        refine ⟨j + 1, by omega, by omega, TWk.fcanon env [some 2] (by rfl) ?_⟩
        repeat' (first
          | exact nx
          | exact pn
          | with_reducible first | exact Conj.nil | refine Conj.cons rfl ?_ | refine Conj.same ?_ | refine Conj.ask ?_ ?_
          | ((with_reducible refine Due.mk ?_); (first | with_reducible rfl | omega | assumption | decide | ((try simp only [goS] at *) <;> (try intro h) <;> (try intro h') <;> (try simp only [goS] at *) <;> (try simp only [rdi, rdy, Int.toNat_natCast, Nat.add_zero] at *) <;> (try simp only [rng]) <;> (first | assumption | omega)) | (exact due_app0 (by omega)) | (exact due_app (by omega)) | (intros; simp; done) | (intros; simp; omega)))
          | with_reducible refine Due.mk ?_
          | omega)
      · obtain rfl : j = (evenL l).length / 2 := by omega
        have hz : (evenL l).drop (2 * ((evenL l).length / 2)) = [] := List.drop_eq_nil_of_le (by omega)
        rw [hz] at sj ⊢
        have hV : ∀ i, i < (([] : List Int) ++ pairs (evenL l) ((evenL l).length / 2)).length → 0 ≤ (([] : List Int) ++ pairs (evenL l) ((evenL l).length / 2)).getD i 0 ∧ (([] : List Int) ++ pairs (evenL l) ((evenL l).length / 2)).getD i 0 ≤ 200 := fun i hi => by
          rw [lj] at hi
          rcases Nat.lt_or_ge i 0 with h1 | h1
          · rw [getD_app1 (by exact h1)]
            have : i = 0 := by omega
            subst this; decide
          · rw [getD_app2 (by exact h1)]
            have := pairs_bd hE (k := (evenL l).length / 2) (by omega) (i - 0) (by omega)
            exact ⟨this.1, Int.le_trans this.2 (by decide)⟩
        have sc := sum_c (([] : List Int) ++ pairs (evenL l) ((evenL l).length / 2)) hV (by rw [lj]; omega)
        have sc2 : TC R Try.prog linear_sum_f [.lst Ei (cut (([] : List Int) ++ pairs (evenL l) ((evenL l).length / 2)) 0 (0 + (evenL l).length / 2))] [] (fun v X => v = .int .i64 (chk (([] : List Int) ++ pairs (evenL l) ((evenL l).length / 2))) ∧ X = []) := by
          rw [cut_all lj.symm]; exact sc
        have ef : cut (([] : List Int) ++ pairs (evenL l) ((evenL l).length / 2)) 0 (0 + (evenL l).length / 2) ++ cut [chk (([] : List Int) ++ pairs (evenL l) ((evenL l).length / 2))] 0 1 = (([] : List Int) ++ pairs (evenL l) ((evenL l).length / 2)) ++ [chk (([] : List Int) ++ pairs (evenL l) ((evenL l).length / 2))] := by
          rw [cut_all lj.symm]; rfl
        have el : (cut (([] : List Int) ++ pairs (evenL l) ((evenL l).length / 2)) 0 (0 + (evenL l).length / 2) ++ cut [chk (([] : List Int) ++ pairs (evenL l) ((evenL l).length / 2))] 0 1).length = 0 + (evenL l).length / 2 + (cut [chk (([] : List Int) ++ pairs (evenL l) ((evenL l).length / 2))] 0 1).length := by
          rw [List.length_append, cut_all lj.symm, lj]
        repeat' (first
          | ((with_reducible refine TOps.any ?_); refine TOps.callE env (by rfl) (by rfl) (by rfl) ?_ (sc2) (by rfl) ?_)
          | with_reducible first | refine Tw.seq ?_ | refine Tw.reg ?_ | refine Tw.block ?_ | refine Tw.scope ?_ | refine Tw.skip ?_ | refine Tw.exit ?_ | refine Tw.ret ?_ | refine seqN ?_ | refine seqR ?_ | refine seqE ?_ | refine rndN ?_ | refine blkN ?_ | refine blkR ?_ | refine blkE1 ?_ | refine blkE0 (by kernel_rfl) ?_ | refine scpN ?_ | refine scpR ?_ | refine scpE ?_ | refine TOps.nil ?_ | exact Conj.nil | refine Conj.cons rfl ?_ | refine Conj.same ?_ | refine Conj.ask ?_ ?_ | refine Tw.regd env ?_ | refine TDr.nil ⟨by kernel_rfl, ?_⟩
          | ((with_reducible refine TOps.any ?_); first | refine TOps.frunP env (by rfl) (by rfl) ?_ ?_ | (refine TOps.known (by rfl) ?_; refine TOps.strip env (by rfl) (by rfl) ?_ ?_) | refine TOps.on (by rfl) (by rfl) ?_)
          | ((with_reducible refine TDr.any ?_); refine TDr.frunP env (by rfl) (by rfl) ?_ ?_)
          | ((with_reducible refine Tw.any ?_); first | refine Tw.condT (by rfl) ?_ | refine Tw.condF (by rfl) ?_)
          | ((first | ((with_reducible refine TOps.any ?_); (fail_if_success refine TOps.known (by rfl) ?_); refine TOps.ask (by rfl) (fun h => ?_) (fun h => ?_)) | ((with_reducible refine TDr.any ?_); (fail_if_success refine TDr.known (by first | rfl | assumption) ?_); refine TDr.ask (by rfl) (fun h hk => ?_) (fun h => ?_)) | ((with_reducible refine Tw.any ?_); refine Tw.cond (by rfl) (fun h => ?_) (fun h => ?_))) <;> (try simp only [goS] at h) <;> (try simp only [rdi, rdy, lj, Int.toNat_natCast, Nat.add_zero] at h) <;> (try (exfalso; (try simp only [goP, reduceCtorEq] at h) <;> (first | assumption | omega | contradiction | (rcases h with ⟨_, _⟩ <;> first | contradiction | omega) | (rcases h with h | h <;> first | contradiction | omega)))))
          | ((with_reducible refine tret.any ?_); first | refine tret.ok (by rfl) ?_ | refine tret.okN (by rfl) ?_)
          | ((with_reducible refine Due.mk ?_); (first | with_reducible rfl | omega | assumption | decide | ((try simp only [goS] at *) <;> (try intro h) <;> (try intro h') <;> (try simp only [goS] at *) <;> (try simp only [rdi, rdy, lj, Int.toNat_natCast, Nat.add_zero] at *) <;> (try simp only [rng]) <;> (first | assumption | omega)) | (exact due_app0 (by omega)) | (exact due_app (by omega)) | (intros; simp; done) | (intros; simp; omega)))
          | with_reducible refine Due.mk ?_
          | omega)
        rw [← ef, el]
        exact ⟨rfl, _, _, rfl⟩
  refine raw.wk fun v X h => ?_
  obtain ⟨rfl, a, b, rfl⟩ := h
  exact ⟨_, _, TWk.fcanon env [some 2] (by rfl) (by repeat' (first | exact trivial | refine ⟨rfl, ?_⟩)), rfl, rfl⟩

/-- The widths of a value. -/
def pat (v : Int) : List Int := let a := TB.getD v.toNat (R.d E6i); [a.1, a.2.1, a.2.2.1, a.2.2.2.1, a.2.2.2.2.1, a.2.2.2.2.2]
def patsL (l : List Int) : Nat → List Int
  | 0 => []
  | k + 1 => patsL l k ++ pat (l.getD k 0)
/-- The widths of a text. -/
def code (l : List Int) : List Int := pat 101 ++ patsL (vals l ++ [chk (vals l)] ++ [102]) (vals l ++ [chk (vals l)] ++ [102]).length ++ [2]
theorem pat_len {v : Int} : (pat v).length = 6 := rfl
theorem patsL_len {l : List Int} : ∀ {k : Nat}, (patsL l k).length = 6 * k
  | 0 => rfl
  | k + 1 => by simp only [patsL, List.length_append, patsL_len (k := k), pat_len]; omega
theorem vals_len {l : List Int} (hl : 1 ≤ l.length ∧ l.length ≤ 20) : 1 ≤ (vals l).length ∧ (vals l).length ≤ 11 := by
  unfold vals evenL
  rw [List.length_append, pairs_len]
  split
  · simp only [List.length_cons, List.length_nil]; omega
  · simp only [List.length_nil]; omega
theorem vals_bd {l : List Int} (hd : Dig l) (i : Nat) (hi : i < (vals l).length) : 0 ≤ (vals l).getD i 0 ∧ (vals l).getD i 0 ≤ 100 := by
  have hE : Dig (evenL l) := fun i hi => by
    unfold evenL at hi ⊢
    split at hi
    · rename_i h
      rw [if_pos h]
      cases i with
      | zero => show (48 : Int) ≤ 48 ∧ (48 : Int) ≤ 57; omega
      | succ i =>
        have := hd i (by simpa using hi)
        simpa using this
    · rename_i h
      rw [if_neg h]; exact hd i hi
  have hp := pairs_bd hE (k := (evenL l).length / 2) (by omega)
  unfold vals at hi ⊢
  split at hi
  · rename_i h
    rw [if_pos h]
    rw [List.length_append, pairs_len] at hi
    cases i with
    | zero => show (0 : Int) ≤ 100 ∧ (100 : Int) ≤ 100; omega
    | succ i =>
      have := hp i (by simp only [List.length_cons, List.length_nil] at hi; omega)
      show 0 ≤ (pairs (evenL l) ((evenL l).length / 2)).getD i 0 ∧ (pairs (evenL l) ((evenL l).length / 2)).getD i 0 ≤ 100
      omega
  · rename_i h
    rw [if_neg h]
    rw [List.length_append, pairs_len] at hi
    have := hp i (by simpa using hi)
    show 0 ≤ (pairs (evenL l) ((evenL l).length / 2)).getD i 0 ∧ (pairs (evenL l) ((evenL l).length / 2)).getD i 0 ≤ 100
    omega
theorem chk_bd (l : List Int) : 0 ≤ chk l ∧ chk l ≤ 100 := by unfold chk; omega

theorem encode_c (l : List Int) (hd : Dig l) (hl : 1 ≤ l.length ∧ l.length ≤ 20) :
    TC R Try.prog linear_Encode_f [.str (strOfNums l)] [] (fun v X => v = .tup [.sla 1 0 0 (code l).length, .int .i64 0] ∧ X = [some (.arr Ei (code l))]) := by
  have sc := split_c l hd hl
  have vl := vals_len hl
  have hT := TB_len
  obtain ⟨W, hW⟩ : ∃ W, W = vals l ++ [chk (vals l)] := ⟨_, rfl⟩
  have lW : W.length = (vals l).length + 1 := by rw [hW, List.length_append]; rfl
  have bW : ∀ i, i < W.length → 0 ≤ W.getD i 0 ∧ W.getD i 0 ≤ 102 := fun i hi => by
    rw [hW]
    rcases Nat.lt_or_ge i (vals l).length with h | h
    · rw [getD_app1 h]; have := vals_bd hd i h; omega
    · rw [getD_app2 h]
      have : i - (vals l).length = 0 := by omega
      rw [this]
      have := chk_bd (vals l)
      show 0 ≤ chk (vals l) ∧ chk (vals l) ≤ 102
      omega
  rw [← hW] at sc
  have ec : code l = pat 101 ++ patsL (W ++ [102]) (W ++ [102]).length ++ [2] := by unfold code; rw [← hW]
  rw [ec]
  have cW : cut W 0 W.length ++ cut [(102 : Int)] 0 1 = W ++ [102] := by rw [cut_full]; rfl
  obtain ⟨Z, hZ⟩ : ∃ Z, Z = W ++ [102] := ⟨_, rfl⟩
  have lZ : Z.length = W.length + 1 := by rw [hZ, List.length_append]; rfl
  have bZ : ∀ i, i < Z.length → 0 ≤ Z.getD i 0 ∧ Z.getD i 0 ≤ 102 := fun i hi => by
    rw [hZ]
    rcases Nat.lt_or_ge i W.length with h | h
    · rw [getD_app1 h]; exact bW i h
    · rw [getD_app2 h]
      have : i - W.length = 0 := by omega
      rw [this]; decide
  rw [← hZ] at ec cW ⊢
  have raw : TC R Try.prog linear_Encode_f [.str (strOfNums l)] [] (fun v X => v = .tup [.sla 1 3 0 (pat 101 ++ patsL Z Z.length ++ [2]).length, .int .i64 0] ∧ ∃ a b c, X = [a, b, c, some (.arr Ei (pat 101 ++ patsL Z Z.length ++ [2]))]) := by
    refine tc env linear_Encode_s (by rfl) ?_
    dsimp only [linear_Encode_c]
    repeat' (first
      | ((with_reducible refine TOps.any ?_); refine TOps.callV env (by rfl) (by rfl) (by rfl) (sc) ?_)
      | ((with_reducible refine TOps.any ?_); refine TOps.callV env (by rfl) (by rfl) (by rfl) (patterns_c) ?_)
      | with_reducible first | refine Tw.seq ?_ | refine Tw.reg ?_ | refine Tw.block ?_ | refine Tw.scope ?_ | refine Tw.skip ?_ | refine Tw.exit ?_ | refine Tw.ret ?_ | refine seqN ?_ | refine seqR ?_ | refine seqE ?_ | refine rndN ?_ | refine blkN ?_ | refine blkR ?_ | refine blkE1 ?_ | refine blkE0 (by kernel_rfl) ?_ | refine scpN ?_ | refine scpR ?_ | refine scpE ?_ | refine TOps.nil ?_ | exact Conj.nil | refine Conj.cons rfl ?_ | refine Conj.same ?_ | refine Conj.ask ?_ ?_ | refine Tw.regd env ?_ | refine TDr.nil ⟨by kernel_rfl, ?_⟩
      | ((with_reducible refine TOps.any ?_); first | refine TOps.frunP env (by rfl) (by rfl) ?_ ?_ | (refine TOps.known (by rfl) ?_; refine TOps.strip env (by rfl) (by rfl) ?_ ?_) | refine TOps.on (by rfl) (by rfl) ?_)
      | ((with_reducible refine TDr.any ?_); refine TDr.frunP env (by rfl) (by rfl) ?_ ?_)
      | ((with_reducible refine Tw.any ?_); first | refine Tw.condT (by rfl) ?_ | refine Tw.condF (by rfl) ?_)
      | ((first | ((with_reducible refine TOps.any ?_); (fail_if_success refine TOps.known (by rfl) ?_); refine TOps.ask (by rfl) (fun h => ?_) (fun h => ?_)) | ((with_reducible refine TDr.any ?_); (fail_if_success refine TDr.known (by first | rfl | assumption) ?_); refine TDr.ask (by rfl) (fun h hk => ?_) (fun h => ?_)) | ((with_reducible refine Tw.any ?_); refine Tw.cond (by rfl) (fun h => ?_) (fun h => ?_))) <;> (try simp only [goS] at h) <;> (try simp only [rdi, rdy, hT, lW, Int.toNat_natCast, Nat.add_zero] at h) <;> (try (exfalso; (try simp only [goP, reduceCtorEq] at h) <;> (first | assumption | omega | contradiction | (rcases h with ⟨_, _⟩ <;> first | contradiction | omega) | (rcases h with h | h <;> first | contradiction | omega)))))
      | ((with_reducible refine tret.any ?_); first | refine tret.ok (by rfl) ?_ | refine tret.okN (by rfl) ?_)
      | ((with_reducible refine Due.mk ?_); (first | with_reducible rfl | omega | assumption | decide | ((try simp only [goS] at *) <;> (try intro h) <;> (try intro h') <;> (try simp only [goS] at *) <;> (try simp only [rdi, rdy, hT, lW, Int.toNat_natCast, Nat.add_zero] at *) <;> (try simp only [rng]) <;> (first | assumption | omega)) | (exact due_app0 (by omega)) | (exact due_app (by omega)) | (intros; simp; done) | (intros; simp; omega)))
      | with_reducible refine Due.mk ?_
      | omega)
    refine Tw.loopK [6] (fun k : Nat => k ≤ Z.length) (fun k => Z.length - k) (fun k => [(27, .int .i64 k), (7, .sla 1 0 0 (6 + 6 * k)), (25, .sla 1 1 0 Z.length), (26, .int .i64 Z.length)])
      (fun k => [some (.arr Ei (pat 101 ++ patsL Z k)), some (.arr Ei Z)]) ⟨0, by omega, TWk.fcanon env [some 1, some 3] (by rfl) ?_⟩ (fun k hk => ?_)
    · have z0 : pat 101 ++ patsL Z 0 = pat 101 := List.append_nil _
      have z1 : Z.length = W.length + (cut [(102 : Int)] 0 1).length := lZ
      have z2 : ((Z.length : Nat) : Int) = ((W.length + (cut [(102 : Int)] 0 1).length : Nat) : Int) := congrArg _ z1
      repeat' (first
        | exact z0
        | exact z1
        | exact z2
        | exact cW.symm
        | with_reducible first | exact Conj.nil | refine Conj.cons rfl ?_ | refine Conj.same ?_ | refine Conj.ask ?_ ?_
        | ((with_reducible refine Due.mk ?_); (first | with_reducible rfl | omega | assumption | decide | ((try simp only [goS] at *) <;> (try intro h) <;> (try intro h') <;> (try simp only [goS] at *) <;> (try simp only [rdi, rdy, Int.toNat_natCast, Nat.add_zero] at *) <;> (try simp only [rng]) <;> (first | assumption | omega)) | (exact due_app0 (by omega)) | (exact due_app (by omega)) | (intros; simp; done) | (intros; simp; omega)))
        | with_reducible refine Due.mk ?_
        | omega)
    have lk : (pat 101 ++ patsL Z k).length = 6 + 6 * k := by rw [List.length_append, patsL_len]; rfl
    rcases Nat.lt_or_ge k Z.length with hk2 | hk2
    · have b := bZ k hk2
      have en : 6 + 6 * (k + 1) = 6 + 6 * k + 6 := by omega
      have pn : pat 101 ++ patsL Z (k + 1) = cut (pat 101 ++ patsL Z k) 0 (6 + 6 * k) ++ pat (Z.getD k 0) := by
        rw [cut_all lk.symm, List.append_assoc]; rfl
      repeat' (first
        | with_reducible first | refine Tw.seq ?_ | refine Tw.reg ?_ | refine Tw.block ?_ | refine Tw.scope ?_ | refine Tw.skip ?_ | refine Tw.exit ?_ | refine Tw.ret ?_ | refine seqN ?_ | refine seqR ?_ | refine seqE ?_ | refine rndN ?_ | refine blkN ?_ | refine blkR ?_ | refine blkE1 ?_ | refine blkE0 (by kernel_rfl) ?_ | refine scpN ?_ | refine scpR ?_ | refine scpE ?_ | refine TOps.nil ?_ | exact Conj.nil | refine Conj.cons rfl ?_ | refine Conj.same ?_ | refine Conj.ask ?_ ?_ | refine Tw.regd env ?_ | refine TDr.nil ⟨by kernel_rfl, ?_⟩
        | ((with_reducible refine TOps.any ?_); first | refine TOps.frunP env (by rfl) (by rfl) ?_ ?_ | (refine TOps.known (by rfl) ?_; refine TOps.strip env (by rfl) (by rfl) ?_ ?_) | refine TOps.on (by rfl) (by rfl) ?_)
        | ((with_reducible refine TDr.any ?_); refine TDr.frunP env (by rfl) (by rfl) ?_ ?_)
        | ((with_reducible refine Tw.any ?_); first | refine Tw.condT (by rfl) ?_ | refine Tw.condF (by rfl) ?_)
        | ((first | ((with_reducible refine TOps.any ?_); (fail_if_success refine TOps.known (by rfl) ?_); refine TOps.ask (by rfl) (fun h => ?_) (fun h => ?_)) | ((with_reducible refine TDr.any ?_); (fail_if_success refine TDr.known (by first | rfl | assumption) ?_); refine TDr.ask (by rfl) (fun h hk => ?_) (fun h => ?_)) | ((with_reducible refine Tw.any ?_); refine Tw.cond (by rfl) (fun h => ?_) (fun h => ?_))) <;> (try simp only [goS] at h) <;> (try simp only [rdi, rdy, hT, lk, Int.toNat_natCast, Nat.add_zero] at h) <;> (try (exfalso; (try simp only [goP, reduceCtorEq] at h) <;> (first | assumption | omega | contradiction | (rcases h with ⟨_, _⟩ <;> first | contradiction | omega) | (rcases h with h | h <;> first | contradiction | omega)))))
        | ((with_reducible refine tret.any ?_); first | refine tret.ok (by rfl) ?_ | refine tret.okN (by rfl) ?_)
        | ((with_reducible refine Due.mk ?_); (first | with_reducible rfl | omega | assumption | decide | ((try simp only [goS] at *) <;> (try intro h) <;> (try intro h') <;> (try simp only [goS] at *) <;> (try simp only [rdi, rdy, hT, lk, Int.toNat_natCast, Nat.add_zero] at *) <;> (try simp only [rng]) <;> (first | assumption | omega)) | (exact due_app0 (by omega)) | (exact due_app (by omega)) | (intros; simp; done) | (intros; simp; omega)))
        | with_reducible refine Due.mk ?_
        | omega)
      refine ⟨k + 1, by omega, by omega, TWk.fcanon env [some 2, some 1] (by rfl) ?_⟩
      repeat' (first
        | exact en
        | exact pn
        | with_reducible first | exact Conj.nil | refine Conj.cons rfl ?_ | refine Conj.same ?_ | refine Conj.ask ?_ ?_
        | ((with_reducible refine Due.mk ?_); (first | with_reducible rfl | omega | assumption | decide | ((try simp only [goS] at *) <;> (try intro h) <;> (try intro h') <;> (try simp only [goS] at *) <;> (try simp only [rdi, rdy, Int.toNat_natCast, Nat.add_zero] at *) <;> (try simp only [rng]) <;> (first | assumption | omega)) | (exact due_app0 (by omega)) | (exact due_app (by omega)) | (intros; simp; done) | (intros; simp; omega)))
        | with_reducible refine Due.mk ?_
        | omega)
    · obtain rfl : k = Z.length := by omega
      have ef : cut (pat 101 ++ patsL Z Z.length) 0 (6 + 6 * Z.length) ++ cut [(2 : Int)] 0 1 = pat 101 ++ patsL Z Z.length ++ [2] := by rw [cut_all lk.symm]; rfl
      have el : (cut (pat 101 ++ patsL Z Z.length) 0 (6 + 6 * Z.length) ++ cut [(2 : Int)] 0 1).length = 6 + 6 * Z.length + (cut [(2 : Int)] 0 1).length := by rw [List.length_append, cut_all lk.symm, lk]
      repeat' (first
        | with_reducible first | refine Tw.seq ?_ | refine Tw.reg ?_ | refine Tw.block ?_ | refine Tw.scope ?_ | refine Tw.skip ?_ | refine Tw.exit ?_ | refine Tw.ret ?_ | refine seqN ?_ | refine seqR ?_ | refine seqE ?_ | refine rndN ?_ | refine blkN ?_ | refine blkR ?_ | refine blkE1 ?_ | refine blkE0 (by kernel_rfl) ?_ | refine scpN ?_ | refine scpR ?_ | refine scpE ?_ | refine TOps.nil ?_ | exact Conj.nil | refine Conj.cons rfl ?_ | refine Conj.same ?_ | refine Conj.ask ?_ ?_ | refine Tw.regd env ?_ | refine TDr.nil ⟨by kernel_rfl, ?_⟩
        | ((with_reducible refine TOps.any ?_); first | refine TOps.frunP env (by rfl) (by rfl) ?_ ?_ | (refine TOps.known (by rfl) ?_; refine TOps.strip env (by rfl) (by rfl) ?_ ?_) | refine TOps.on (by rfl) (by rfl) ?_)
        | ((with_reducible refine TDr.any ?_); refine TDr.frunP env (by rfl) (by rfl) ?_ ?_)
        | ((with_reducible refine Tw.any ?_); first | refine Tw.condT (by rfl) ?_ | refine Tw.condF (by rfl) ?_)
        | ((first | ((with_reducible refine TOps.any ?_); (fail_if_success refine TOps.known (by rfl) ?_); refine TOps.ask (by rfl) (fun h => ?_) (fun h => ?_)) | ((with_reducible refine TDr.any ?_); (fail_if_success refine TDr.known (by first | rfl | assumption) ?_); refine TDr.ask (by rfl) (fun h hk => ?_) (fun h => ?_)) | ((with_reducible refine Tw.any ?_); refine Tw.cond (by rfl) (fun h => ?_) (fun h => ?_))) <;> (try simp only [goS] at h) <;> (try simp only [rdi, rdy, lk, Int.toNat_natCast, Nat.add_zero] at h) <;> (try (exfalso; (try simp only [goP, reduceCtorEq] at h) <;> (first | assumption | omega | contradiction | (rcases h with ⟨_, _⟩ <;> first | contradiction | omega) | (rcases h with h | h <;> first | contradiction | omega)))))
        | ((with_reducible refine tret.any ?_); first | refine tret.ok (by rfl) ?_ | refine tret.okN (by rfl) ?_)
        | ((with_reducible refine Due.mk ?_); (first | with_reducible rfl | omega | assumption | decide | ((try simp only [goS] at *) <;> (try intro h) <;> (try intro h') <;> (try simp only [goS] at *) <;> (try simp only [rdi, rdy, lk, Int.toNat_natCast, Nat.add_zero] at *) <;> (try simp only [rng]) <;> (first | assumption | omega)) | (exact due_app0 (by omega)) | (exact due_app (by omega)) | (intros; simp; done) | (intros; simp; omega)))
        | with_reducible refine Due.mk ?_
        | omega)
      rw [← ef, el]
      exact ⟨rfl, _, _, _, rfl⟩
  refine raw.wk fun v X h => ?_
  obtain ⟨rfl, a, b, c, rfl⟩ := h
  exact ⟨_, _, TWk.fcanon env [some 3] (by rfl) (by repeat' (first | exact trivial | refine ⟨rfl, ?_⟩)), rfl, rfl⟩

theorem pattern_c (v : Int) (h : 0 ≤ v ∧ v < 103) : TC R Try.prog linear_Pattern_f [.int .i64 v] [] (fun x X => x = .tup [.lst Ei (pat v), .int .i64 0] ∧ X = []) := by
  have hT := TB_len
  refine tc0 env linear_Pattern_s (by rfl) ?_
  dsimp only [linear_Pattern_c]
  repeat' (first
    | ((with_reducible refine TOps.any ?_); refine TOps.callV env (by rfl) (by rfl) (by rfl) (patterns_c) ?_)
    | ((with_reducible refine Tw.retI ?_); refine Tw.frz env 0 (by rfl) (by rfl) (by rfl) ?_ ?_ (Tw.ret ?_))
    | with_reducible first | refine Tw.seq ?_ | refine Tw.reg ?_ | refine Tw.block ?_ | refine Tw.scope ?_ | refine Tw.skip ?_ | refine Tw.exit ?_ | refine Tw.ret ?_ | refine seqN ?_ | refine seqR ?_ | refine seqE ?_ | refine rndN ?_ | refine blkN ?_ | refine blkR ?_ | refine blkE1 ?_ | refine blkE0 (by kernel_rfl) ?_ | refine scpN ?_ | refine scpR ?_ | refine scpE ?_ | refine TOps.nil ?_ | exact Conj.nil | refine Conj.cons rfl ?_ | refine Conj.same ?_ | refine Conj.ask ?_ ?_ | refine Tw.regd env ?_ | refine TDr.nil ⟨by kernel_rfl, ?_⟩
    | ((with_reducible refine TOps.any ?_); first | refine TOps.frunP env (by rfl) (by rfl) ?_ ?_ | (refine TOps.known (by rfl) ?_; refine TOps.strip env (by rfl) (by rfl) ?_ ?_) | refine TOps.on (by rfl) (by rfl) ?_)
    | ((with_reducible refine TDr.any ?_); refine TDr.frunP env (by rfl) (by rfl) ?_ ?_)
    | ((with_reducible refine Tw.any ?_); first | refine Tw.condT (by rfl) ?_ | refine Tw.condF (by rfl) ?_)
    | ((first | ((with_reducible refine TOps.any ?_); (fail_if_success refine TOps.known (by rfl) ?_); refine TOps.ask (by rfl) (fun h => ?_) (fun h => ?_)) | ((with_reducible refine TDr.any ?_); (fail_if_success refine TDr.known (by first | rfl | assumption) ?_); refine TDr.ask (by rfl) (fun h hk => ?_) (fun h => ?_)) | ((with_reducible refine Tw.any ?_); refine Tw.cond (by rfl) (fun h => ?_) (fun h => ?_))) <;> (try simp only [goS] at h) <;> (try simp only [rdi, rdy, hT, Int.toNat_natCast, Nat.add_zero] at h) <;> (try (exfalso; (try simp only [goP, reduceCtorEq] at h) <;> (first | assumption | omega | contradiction | (rcases h with ⟨_, _⟩ <;> first | contradiction | omega) | (rcases h with h | h <;> first | contradiction | omega)))))
    | ((with_reducible refine tret.any ?_); first | refine tret.ok (by rfl) ?_ | refine tret.okN (by rfl) ?_)
    | ((with_reducible refine Due.mk ?_); (first | with_reducible rfl | omega | assumption | decide | ((try simp only [goS] at *) <;> (try intro h) <;> (try intro h') <;> (try simp only [goS] at *) <;> (try simp only [rdi, rdy, hT, Int.toNat_natCast, Nat.add_zero] at *) <;> (try simp only [rng]) <;> (first | assumption | omega)) | (exact due_app0 (by omega)) | (exact due_app (by omega)) | (intros; simp; done) | (intros; simp; omega)))
    | with_reducible refine Due.mk ?_
    | omega)
  exact ⟨rfl, rfl, rfl⟩
end Go.Proofs.Ytbfflfinhigfeaa
