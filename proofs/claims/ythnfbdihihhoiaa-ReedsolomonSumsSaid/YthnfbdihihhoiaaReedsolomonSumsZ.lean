/- The law ReedsolomonSums: sums of words are words, and one changed symbol shows. -/
import Derived.Test.YthnfbdihihhoiaaRs4
import Derived.Test.YthnfbdihihhoiaaRMod
import Derived.Test.YthnfbdihihhoiaaReedsolomonW
import Derived.Test.YthnfbdihihhoiaaXReedsolomonSums0
namespace Go.Proofs.Ythnfbdihihhoiaa
open Go Go.Lite
set_option linter.unusedVariables false
set_option linter.unusedSimpArgs false
set_option maxRecDepth 100000
set_option maxHeartbeats 4000000
-- @simp rdi rdy

theorem list_btab {l : List Int} {n : Nat} (h : n ≤ l.length) (hb : ∀ i, i < n → 0 ≤ l.getD i 0 ∧ l.getD i 0 ≤ 255) : l.take n = btab n fun k => BitVec.ofInt 8 (l.getD k 0) := by
  refine is_tab 0 (by rw [List.length_take]; omega) fun i hi => ?_
  rw [by8_ofInt (hb i hi)]
  simp [List.getD_eq_getElem?_getD, List.getElem?_take, hi]
theorem hor_single (p : Nat) (e : BitVec 8) : ∀ n, hor 1#8 (fun i => if i = p then e else 0#8) n = if p < n then e else 0#8
  | 0 => by rw [if_neg (by omega)]; rfl
  | n + 1 => by
    rw [hor, hor_single p e n, mulF_one]
    by_cases h1 : p < n
    · rw [if_pos h1, if_neg (by omega), if_pos (by omega), BitVec.xor_zero]
    · by_cases h2 : n = p
      · rw [if_neg h1, if_pos h2, if_pos (by omega), BitVec.zero_xor]
      · rw [if_neg h1, if_neg h2, if_neg (by omega), BitVec.xor_zero]
theorem ReedsolomonSums_law (l1 l2 : List Int) (c d e : Int) (w1 : l1.length ≤ 9223372036854775807 ∧ ∀ y ∈ l1, Wy y) (w2 : l2.length ≤ 9223372036854775807 ∧ ∀ y ∈ l2, Wy y) (rc : rng .i64 c) (rd : rng .i64 d) (re : rng .i64 e) :
    TC R Try.prog K2_ReedsolomonSums_f [.lst Ey l1, .lst Ey l2, .int .i64 c, .int .i64 d, .int .i64 e] [] (fun v X => v = .bool true ∧ X = []) := by
  simp only [rng] at rc rd re
  obtain ⟨w1, v1⟩ := w1
  obtain ⟨w2, v2⟩ := w2
  obtain ⟨n, hn⟩ : ∃ n : Nat, min (min (l1.length : Int) (l2.length : Int)) 100 = n := ⟨(min (min (l1.length : Int) (l2.length : Int)) 100).toNat, by omega⟩
  refine tc0 env K2_ReedsolomonSums_s (by rfl) ?_
  dsimp only [K2_ReedsolomonSums_c]
  by_cases h0 : n = 0
  · subst h0
    repeat' (first
      | ((with_reducible refine TOps.any ?_); refine TOps.callV env (by rfl) (by rfl) (by rfl) (reedsolomonWorks_c) ?_)
      | with_reducible first | refine Tw.seq ?_ | refine Tw.reg ?_ | refine Tw.block ?_ | refine Tw.scope ?_ | refine Tw.skip ?_ | refine Tw.exit ?_ | refine Tw.ret ?_ | refine seqN ?_ | refine seqR ?_ | refine seqE ?_ | refine blkN ?_ | refine blkR ?_ | refine blkE1 ?_ | refine blkE0 (by kernel_rfl) ?_ | refine scpN ?_ | refine scpR ?_ | refine scpE ?_ | refine TOps.nil ?_ | exact Conj.nil | refine Conj.cons rfl ?_ | refine Conj.same ?_ | refine Conj.ask ?_ ?_ | refine Tw.regd env ?_ | refine TDr.nil ⟨by kernel_rfl, ?_⟩
      | ((with_reducible refine TOps.any ?_); first | refine TOps.frunP env (by rfl) (by rfl) ?_ ?_ | (refine TOps.known (by rfl) ?_; refine TOps.strip env (by rfl) (by rfl) ?_ ?_) | refine TOps.on (by rfl) (by rfl) ?_)
      | ((with_reducible refine TDr.any ?_); refine TDr.frunP env (by rfl) (by rfl) ?_ ?_)
      | ((with_reducible refine Tw.any ?_); first | refine Tw.condT (by rfl) ?_ | refine Tw.condF (by rfl) ?_)
      | ((first | ((with_reducible refine TOps.any ?_); (fail_if_success refine TOps.known (by rfl) ?_); refine TOps.ask (by rfl) (fun h => ?_) (fun h => ?_)) | ((with_reducible refine TDr.any ?_); (fail_if_success refine TDr.known (by first | rfl | assumption) ?_); refine TDr.ask (by rfl) (fun h hk => ?_) (fun h => ?_)) | ((with_reducible refine Tw.any ?_); refine Tw.cond (by rfl) (fun h => ?_) (fun h => ?_))) <;> (try simp only [goS] at h) <;> (try simp only [rdi, rdy, hn, Int.toNat_natCast, Nat.add_zero] at h) <;> (try (exfalso; (try simp only [goP, reduceCtorEq] at h) <;> (first | assumption | omega | contradiction | (rcases h with ⟨_, _⟩ <;> first | contradiction | omega) | (rcases h with h | h <;> first | contradiction | omega)))))
      | ((with_reducible refine tret.any ?_); first | refine tret.ok (by rfl) ?_ | refine tret.okN (by rfl) ?_)
      | ((with_reducible refine Due.mk ?_); (first | with_reducible rfl | omega | assumption | decide | ((try simp only [goS] at *) <;> (try intro h) <;> (try intro h') <;> (try simp only [goS] at *) <;> (try simp only [rdi, rdy, hn, Int.toNat_natCast, Nat.add_zero] at *) <;> (try simp only [rng]) <;> (first | assumption | omega)) | (exact due_app0 (by omega)) | (exact due_app (by omega)) | (intros; simp; done) | (intros; simp; omega)))
      | with_reducible refine Due.mk ?_
      | omega)
    all_goals exact ⟨rfl, rfl, rfl⟩
  have m1 := rMod_c c 64 (by unfold Due; omega)
  obtain ⟨t, htt⟩ : ∃ t : Nat, 1 + c % 64 = t := ⟨(1 + c % 64).toNat, by omega⟩
  have tb : 1 ≤ t ∧ t ≤ 64 := by omega
  have b1 : ∀ i, i < n → 0 ≤ l1.getD i 0 ∧ l1.getD i 0 ≤ 255 := fun i hi => by have := v1 _ (getD_mem (d := 0) (show i < l1.length by omega)); simpa [Wy, rng] using this
  have b2 : ∀ i, i < n → 0 ≤ l2.getD i 0 ∧ l2.getD i 0 ≤ 255 := fun i hi => by have := v2 _ (getD_mem (d := 0) (show i < l2.length by omega)); simpa [Wy, rng] using this
  have e1 := list_btab (l := l1) (n := n) (by omega) b1
  have e2 := list_btab (l := l2) (n := n) (by omega) b2
  generalize (fun k => BitVec.ofInt 8 (l1.getD k 0)) = f1 at *
  generalize (fun k => BitVec.ofInt 8 (l2.getD k 0)) = f2 at *
  have c1 := encode_c f1 n t (by unfold Due; omega)
  have c2 := encode_c f2 n t (by unfold Due; omega)
  rw [← e1] at c1
  rw [← e2] at c2
  have o1 : ∀ i, i < t → hor (rt i) (word rt t n f1) (n + t) = 0#8 := fun i hi => word_ok hi
  have o2 : ∀ i, i < t → hor (rt i) (word rt t n f2) (n + t) = 0#8 := fun i hi => word_ok hi
  generalize word rt t n f1 = g1 at *
  generalize word rt t n f2 = g2 at *
  obtain ⟨N, hN⟩ : ∃ N : Nat, n + t = N := ⟨_, rfl⟩
  rw [hN] at c1 c2 o1 o2
  have N1 : (btab N g1).length = N := btab_len
  have N2 : (btab N g2).length = N := btab_len
  have NN : ∀ g, (btab N g).length = N := fun _ => btab_len
  repeat' (first
    | ((with_reducible refine TOps.any ?_); refine TOps.callV env (by rfl) (by rfl) (by rfl) (reedsolomonWorks_c) ?_)
    | with_reducible first | refine Tw.seq ?_ | refine Tw.reg ?_ | refine Tw.block ?_ | refine Tw.scope ?_ | refine Tw.skip ?_ | refine Tw.exit ?_ | refine Tw.ret ?_ | refine seqN ?_ | refine seqR ?_ | refine seqE ?_ | refine blkN ?_ | refine blkR ?_ | refine blkE1 ?_ | refine blkE0 (by kernel_rfl) ?_ | refine scpN ?_ | refine scpR ?_ | refine scpE ?_ | refine TOps.nil ?_ | exact Conj.nil | refine Conj.cons rfl ?_ | refine Conj.same ?_ | refine Conj.ask ?_ ?_ | refine Tw.regd env ?_ | refine TDr.nil ⟨by kernel_rfl, ?_⟩
    | ((with_reducible refine TOps.any ?_); first | refine TOps.frunP env (by rfl) (by rfl) ?_ ?_ | (refine TOps.known (by rfl) ?_; refine TOps.strip env (by rfl) (by rfl) ?_ ?_) | refine TOps.on (by rfl) (by rfl) ?_)
    | ((with_reducible refine TDr.any ?_); refine TDr.frunP env (by rfl) (by rfl) ?_ ?_)
    | ((with_reducible refine Tw.any ?_); first | refine Tw.condT (by rfl) ?_ | refine Tw.condF (by rfl) ?_)
    | ((first | ((with_reducible refine TOps.any ?_); (fail_if_success refine TOps.known (by rfl) ?_); refine TOps.ask (by rfl) (fun h => ?_) (fun h => ?_)) | ((with_reducible refine TDr.any ?_); (fail_if_success refine TDr.known (by first | rfl | assumption) ?_); refine TDr.ask (by rfl) (fun h hk => ?_) (fun h => ?_)) | ((with_reducible refine Tw.any ?_); refine Tw.cond (by rfl) (fun h => ?_) (fun h => ?_))) <;> (try simp only [goS] at h) <;> (try simp only [rdi, rdy, hn, Int.toNat_natCast, Nat.add_zero] at h) <;> (try (exfalso; (try simp only [goP, reduceCtorEq] at h) <;> (first | assumption | omega | contradiction | (rcases h with ⟨_, _⟩ <;> first | contradiction | omega) | (rcases h with h | h <;> first | contradiction | omega)))))
    | ((with_reducible refine tret.any ?_); first | refine tret.ok (by rfl) ?_ | refine tret.okN (by rfl) ?_)
    | ((with_reducible refine Due.mk ?_); (first | with_reducible rfl | omega | assumption | decide | ((try simp only [goS] at *) <;> (try intro h) <;> (try intro h') <;> (try simp only [goS] at *) <;> (try simp only [rdi, rdy, hn, Int.toNat_natCast, Nat.add_zero] at *) <;> (try simp only [rng]) <;> (first | assumption | omega)) | (exact due_app0 (by omega)) | (exact due_app (by omega)) | (intros; simp; done) | (intros; simp; omega)))
    | with_reducible refine Due.mk ?_
    | omega)
  rw [hn]
  repeat' (first
    | ((with_reducible refine TOps.any ?_); refine TOps.callV env (by rfl) (by rfl) (by rfl) (m1) ?_)
    | with_reducible first | refine Tw.seq ?_ | refine Tw.reg ?_ | refine Tw.block ?_ | refine Tw.scope ?_ | refine Tw.skip ?_ | refine Tw.exit ?_ | refine Tw.ret ?_ | refine seqN ?_ | refine seqR ?_ | refine seqE ?_ | refine blkN ?_ | refine blkR ?_ | refine blkE1 ?_ | refine blkE0 (by kernel_rfl) ?_ | refine scpN ?_ | refine scpR ?_ | refine scpE ?_ | refine TOps.nil ?_ | exact Conj.nil | refine Conj.cons rfl ?_ | refine Conj.same ?_ | refine Conj.ask ?_ ?_ | refine Tw.regd env ?_ | refine TDr.nil ⟨by kernel_rfl, ?_⟩
    | ((with_reducible refine TOps.any ?_); first | refine TOps.frunP env (by rfl) (by rfl) ?_ ?_ | (refine TOps.known (by rfl) ?_; refine TOps.strip env (by rfl) (by rfl) ?_ ?_) | refine TOps.on (by rfl) (by rfl) ?_)
    | ((with_reducible refine TDr.any ?_); refine TDr.frunP env (by rfl) (by rfl) ?_ ?_)
    | ((with_reducible refine Tw.any ?_); first | refine Tw.condT (by rfl) ?_ | refine Tw.condF (by rfl) ?_)
    | ((first | ((with_reducible refine TOps.any ?_); (fail_if_success refine TOps.known (by rfl) ?_); refine TOps.ask (by rfl) (fun h => ?_) (fun h => ?_)) | ((with_reducible refine TDr.any ?_); (fail_if_success refine TDr.known (by first | rfl | assumption) ?_); refine TDr.ask (by rfl) (fun h hk => ?_) (fun h => ?_)) | ((with_reducible refine Tw.any ?_); refine Tw.cond (by rfl) (fun h => ?_) (fun h => ?_))) <;> (try simp only [goS] at h) <;> (try simp only [rdi, rdy, Int.toNat_natCast, Nat.add_zero] at h) <;> (try (exfalso; (try simp only [goP, reduceCtorEq] at h) <;> (first | assumption | omega | contradiction | (rcases h with ⟨_, _⟩ <;> first | contradiction | omega) | (rcases h with h | h <;> first | contradiction | omega)))))
    | ((with_reducible refine tret.any ?_); first | refine tret.ok (by rfl) ?_ | refine tret.okN (by rfl) ?_)
    | ((with_reducible refine Due.mk ?_); (first | with_reducible rfl | omega | assumption | decide | ((try simp only [goS] at *) <;> (try intro h) <;> (try intro h') <;> (try simp only [goS] at *) <;> (try simp only [rdi, rdy, Int.toNat_natCast, Nat.add_zero] at *) <;> (try simp only [rng]) <;> (first | assumption | omega)) | (exact due_app0 (by omega)) | (exact due_app (by omega)) | (intros; simp; done) | (intros; simp; omega)))
    | with_reducible refine Due.mk ?_
    | omega)
  rw [htt]
  repeat' (first
    | ((with_reducible refine TOps.any ?_); refine TOps.callV env (by rfl) (by rfl) (by rfl) (c1) ?_)
    | ((with_reducible refine TOps.any ?_); refine TOps.callV env (by rfl) (by rfl) (by rfl) (c2) ?_)
    | with_reducible first | refine Tw.seq ?_ | refine Tw.reg ?_ | refine Tw.block ?_ | refine Tw.scope ?_ | refine Tw.skip ?_ | refine Tw.exit ?_ | refine Tw.ret ?_ | refine seqN ?_ | refine seqR ?_ | refine seqE ?_ | refine blkN ?_ | refine blkR ?_ | refine blkE1 ?_ | refine blkE0 (by kernel_rfl) ?_ | refine scpN ?_ | refine scpR ?_ | refine scpE ?_ | refine TOps.nil ?_ | exact Conj.nil | refine Conj.cons rfl ?_ | refine Conj.same ?_ | refine Conj.ask ?_ ?_ | refine Tw.regd env ?_ | refine TDr.nil ⟨by kernel_rfl, ?_⟩
    | ((with_reducible refine TOps.any ?_); first | refine TOps.frunP env (by rfl) (by rfl) ?_ ?_ | (refine TOps.known (by rfl) ?_; refine TOps.strip env (by rfl) (by rfl) ?_ ?_) | refine TOps.on (by rfl) (by rfl) ?_)
    | ((with_reducible refine TDr.any ?_); refine TDr.frunP env (by rfl) (by rfl) ?_ ?_)
    | ((with_reducible refine Tw.any ?_); first | refine Tw.condT (by rfl) ?_ | refine Tw.condF (by rfl) ?_)
    | ((first | ((with_reducible refine TOps.any ?_); (fail_if_success refine TOps.known (by rfl) ?_); refine TOps.ask (by rfl) (fun h => ?_) (fun h => ?_)) | ((with_reducible refine TDr.any ?_); (fail_if_success refine TDr.known (by first | rfl | assumption) ?_); refine TDr.ask (by rfl) (fun h hk => ?_) (fun h => ?_)) | ((with_reducible refine Tw.any ?_); refine Tw.cond (by rfl) (fun h => ?_) (fun h => ?_))) <;> (try simp only [goS] at h) <;> (try simp only [rdi, rdy, N1, N2, Int.toNat_natCast, Nat.add_zero] at h) <;> (try (exfalso; (try simp only [goP, reduceCtorEq] at h) <;> (first | assumption | omega | contradiction | (rcases h with ⟨_, _⟩ <;> first | contradiction | omega) | (rcases h with h | h <;> first | contradiction | omega)))))
    | ((with_reducible refine tret.any ?_); first | refine tret.ok (by rfl) ?_ | refine tret.okN (by rfl) ?_)
    | ((with_reducible refine Due.mk ?_); (first | with_reducible rfl | omega | assumption | decide | ((try simp only [goS] at *) <;> (try intro h) <;> (try intro h') <;> (try simp only [goS] at *) <;> (try simp only [rdi, rdy, N1, N2, Int.toNat_natCast, Nat.add_zero] at *) <;> (try simp only [rng]) <;> (first | assumption | omega)) | (exact due_app0 (by omega)) | (exact due_app (by omega)) | (intros; simp; done) | (intros; simp; omega)))
    | with_reducible refine Due.mk ?_
    | omega)
  rw [N1, Int.toNat_natCast]
  refine Tw.loopK [2, 3, 4, 12, 14, 16, 76] (fun k : Nat => k ≤ N) (fun k => N - k) (fun k => [(77, .int .i64 k)]) (fun k => [some (.arr Ey (btab N fun i => if i < k then g1 i ^^^ g2 i else 0#8))])
    ⟨0, by omega, TWk.fcanon env [some 0] (by rfl) ?_⟩ (fun k hk => ?_)
  · have z : (btab N fun i => if i < 0 then g1 i ^^^ g2 i else 0#8) = List.replicate N 0 := by
      rw [btab_zero]
      exact btab_congr fun i _ => if_neg (by omega)
    repeat' (first
      | exact z
      | with_reducible first | refine Tw.seq ?_ | refine Tw.reg ?_ | refine Tw.block ?_ | refine Tw.scope ?_ | refine Tw.skip ?_ | refine Tw.exit ?_ | refine Tw.ret ?_ | refine seqN ?_ | refine seqR ?_ | refine seqE ?_ | refine blkN ?_ | refine blkR ?_ | refine blkE1 ?_ | refine blkE0 (by kernel_rfl) ?_ | refine scpN ?_ | refine scpR ?_ | refine scpE ?_ | refine TOps.nil ?_ | exact Conj.nil | refine Conj.cons rfl ?_ | refine Conj.same ?_ | refine Conj.ask ?_ ?_ | refine Tw.regd env ?_ | refine TDr.nil ⟨by kernel_rfl, ?_⟩
      | ((with_reducible refine TOps.any ?_); first | refine TOps.frunP env (by rfl) (by rfl) ?_ ?_ | (refine TOps.known (by rfl) ?_; refine TOps.strip env (by rfl) (by rfl) ?_ ?_) | refine TOps.on (by rfl) (by rfl) ?_)
      | ((with_reducible refine TDr.any ?_); refine TDr.frunP env (by rfl) (by rfl) ?_ ?_)
      | ((with_reducible refine Tw.any ?_); first | refine Tw.condT (by rfl) ?_ | refine Tw.condF (by rfl) ?_)
      | ((first | ((with_reducible refine TOps.any ?_); (fail_if_success refine TOps.known (by rfl) ?_); refine TOps.ask (by rfl) (fun h => ?_) (fun h => ?_)) | ((with_reducible refine TDr.any ?_); (fail_if_success refine TDr.known (by first | rfl | assumption) ?_); refine TDr.ask (by rfl) (fun h hk => ?_) (fun h => ?_)) | ((with_reducible refine Tw.any ?_); refine Tw.cond (by rfl) (fun h => ?_) (fun h => ?_))) <;> (try simp only [goS] at h) <;> (try simp only [rdi, rdy, Int.toNat_natCast, Nat.add_zero] at h))
      | ((with_reducible refine tret.any ?_); first | refine tret.ok (by rfl) ?_ | refine tret.okN (by rfl) ?_)
      | ((with_reducible refine Due.mk ?_); (first | with_reducible rfl | omega | assumption | decide | ((try simp only [goS] at *) <;> (try intro h) <;> (try intro h') <;> (try simp only [goS] at *) <;> (try simp only [rdi, rdy, Int.toNat_natCast, Nat.add_zero] at *) <;> (try simp only [rng]) <;> (first | assumption | omega)) | (exact due_app0 (by omega)) | (exact due_app (by omega)) | (intros; simp; done) | (intros; simp; omega)))
      | with_reducible refine Due.mk ?_
      | omega)
  rcases Nat.lt_or_ge k N with hk | hk
  · have x1 : (btab N g1).getD k 0 = by8 (g1 k) := btab_get hk
    have x2 : (btab N g2).getD k 0 = by8 (g2 k) := btab_get hk
    have y1 := by8_bd (g1 k)
    have y2 := by8_bd (g2 k)
    have r1 : (btab N fun i => if i < k then g1 i ^^^ g2 i else 0#8).set ((k : Int).toNat + 0) (bxor ((btab N g1).getD (k : Int).toNat 0) ((btab N g2).getD (k : Int).toNat 0)) = btab N fun i => if i < k + 1 then g1 i ^^^ g2 i else 0#8 := by
      rw [Int.toNat_natCast, x1, x2, by8_xor, Nat.add_zero]
      refine btab_set (by rw [if_pos (show k < k + 1 by omega)]) fun i hi hne => ?_
      by_cases h : i < k
      · rw [if_pos h, if_pos (by omega)]
      · rw [if_neg h, if_neg (by omega)]
    repeat' (first
      | with_reducible first | refine Tw.seq ?_ | refine Tw.reg ?_ | refine Tw.block ?_ | refine Tw.scope ?_ | refine Tw.skip ?_ | refine Tw.exit ?_ | refine Tw.ret ?_ | refine seqN ?_ | refine seqR ?_ | refine seqE ?_ | refine blkN ?_ | refine blkR ?_ | refine blkE1 ?_ | refine blkE0 (by kernel_rfl) ?_ | refine scpN ?_ | refine scpR ?_ | refine scpE ?_ | refine TOps.nil ?_ | exact Conj.nil | refine Conj.cons rfl ?_ | refine Conj.same ?_ | refine Conj.ask ?_ ?_ | refine Tw.regd env ?_ | refine TDr.nil ⟨by kernel_rfl, ?_⟩
      | ((with_reducible refine TOps.any ?_); first | refine TOps.frunP env (by rfl) (by rfl) ?_ ?_ | (refine TOps.known (by rfl) ?_; refine TOps.strip env (by rfl) (by rfl) ?_ ?_) | refine TOps.on (by rfl) (by rfl) ?_)
      | ((with_reducible refine TDr.any ?_); refine TDr.frunP env (by rfl) (by rfl) ?_ ?_)
      | ((with_reducible refine Tw.any ?_); first | refine Tw.condT (by rfl) ?_ | refine Tw.condF (by rfl) ?_)
      | ((first | ((with_reducible refine TOps.any ?_); (fail_if_success refine TOps.known (by rfl) ?_); refine TOps.ask (by rfl) (fun h => ?_) (fun h => ?_)) | ((with_reducible refine TDr.any ?_); (fail_if_success refine TDr.known (by first | rfl | assumption) ?_); refine TDr.ask (by rfl) (fun h hk => ?_) (fun h => ?_)) | ((with_reducible refine Tw.any ?_); refine Tw.cond (by rfl) (fun h => ?_) (fun h => ?_))) <;> (try simp only [goS] at h) <;> (try simp only [rdi, rdy, N1, N2, NN, x1, x2, Int.toNat_natCast, Nat.add_zero] at h) <;> (try (exfalso; (try simp only [goP, reduceCtorEq] at h) <;> (first | assumption | omega | contradiction | (rcases h with ⟨_, _⟩ <;> first | contradiction | omega) | (rcases h with h | h <;> first | contradiction | omega)))))
      | ((with_reducible refine tret.any ?_); first | refine tret.ok (by rfl) ?_ | refine tret.okN (by rfl) ?_)
      | ((with_reducible refine Due.mk ?_); (first | with_reducible rfl | omega | assumption | decide | ((try simp only [goS] at *) <;> (try intro h) <;> (try intro h') <;> (try simp only [goS] at *) <;> (try simp only [rdi, rdy, N1, N2, NN, x1, x2, Int.toNat_natCast, Nat.add_zero] at *) <;> (try simp only [rng]) <;> (first | assumption | omega)) | (exact due_app0 (by omega)) | (exact due_app (by omega)) | (intros; simp; done) | (intros; simp; omega)))
      | with_reducible refine Due.mk ?_
      | omega)
    refine ⟨k + 1, by omega, by omega, TWk.fcanon env [some 0] (by rfl) ?_⟩
    repeat' (first
      | exact r1.symm
      | with_reducible first | refine Tw.seq ?_ | refine Tw.reg ?_ | refine Tw.block ?_ | refine Tw.scope ?_ | refine Tw.skip ?_ | refine Tw.exit ?_ | refine Tw.ret ?_ | refine seqN ?_ | refine seqR ?_ | refine seqE ?_ | refine blkN ?_ | refine blkR ?_ | refine blkE1 ?_ | refine blkE0 (by kernel_rfl) ?_ | refine scpN ?_ | refine scpR ?_ | refine scpE ?_ | refine TOps.nil ?_ | exact Conj.nil | refine Conj.cons rfl ?_ | refine Conj.same ?_ | refine Conj.ask ?_ ?_ | refine Tw.regd env ?_ | refine TDr.nil ⟨by kernel_rfl, ?_⟩
      | ((with_reducible refine TOps.any ?_); first | refine TOps.frunP env (by rfl) (by rfl) ?_ ?_ | (refine TOps.known (by rfl) ?_; refine TOps.strip env (by rfl) (by rfl) ?_ ?_) | refine TOps.on (by rfl) (by rfl) ?_)
      | ((with_reducible refine TDr.any ?_); refine TDr.frunP env (by rfl) (by rfl) ?_ ?_)
      | ((with_reducible refine Tw.any ?_); first | refine Tw.condT (by rfl) ?_ | refine Tw.condF (by rfl) ?_)
      | ((first | ((with_reducible refine TOps.any ?_); (fail_if_success refine TOps.known (by rfl) ?_); refine TOps.ask (by rfl) (fun h => ?_) (fun h => ?_)) | ((with_reducible refine TDr.any ?_); (fail_if_success refine TDr.known (by first | rfl | assumption) ?_); refine TDr.ask (by rfl) (fun h hk => ?_) (fun h => ?_)) | ((with_reducible refine Tw.any ?_); refine Tw.cond (by rfl) (fun h => ?_) (fun h => ?_))) <;> (try simp only [goS] at h) <;> (try simp only [rdi, rdy, Int.toNat_natCast, Nat.add_zero] at h))
      | ((with_reducible refine tret.any ?_); first | refine tret.ok (by rfl) ?_ | refine tret.okN (by rfl) ?_)
      | ((with_reducible refine Due.mk ?_); (first | with_reducible rfl | omega | assumption | decide | ((try simp only [goS] at *) <;> (try intro h) <;> (try intro h') <;> (try simp only [goS] at *) <;> (try simp only [rdi, rdy, Int.toNat_natCast, Nat.add_zero] at *) <;> (try simp only [rng]) <;> (first | assumption | omega)) | (exact due_app0 (by omega)) | (exact due_app (by omega)) | (intros; simp; done) | (intros; simp; omega)))
      | with_reducible refine Due.mk ?_
      | omega)
  · obtain rfl : k = N := by omega
    have rowE : (btab k fun i => if i < k then g1 i ^^^ g2 i else 0#8) = btab k fun i => g1 i ^^^ g2 i := btab_congr fun i hi => if_pos hi
    rw [rowE]
    have z0 : ∀ i, i < t → hor (rt i) (fun i => g1 i ^^^ g2 i) k = 0#8 := fun i hi => by rw [hor_xor, o1 i hi, o2 i hi]; rfl
    have va := valid_c (fun i => g1 i ^^^ g2 i) k t (by unfold Due; omega)
    rw [decide_eq_true z0] at va
    have ct : ∀ g, cut (btab k g) 0 k = btab k g := fun _ => cut_tab
    rw [← ct] at va
    have m2 := rMod_c d k (by unfold Due; omega)
    have m3 := rMod_c e 255 (by unfold Due; omega)
    obtain ⟨p, hp⟩ : ∃ p : Nat, d % (k : Int) = p := ⟨(d % (k : Int)).toNat, by have := Int.emod_nonneg d (show (k : Int) ≠ 0 by omega); omega⟩
    have hpk : p < k := by have := Int.emod_lt_of_pos d (show (0 : Int) < (k : Int) by omega); omega
    rw [hp] at m2
    have e3 := Int.emod_nonneg e (show (255 : Int) ≠ 0 by omega)
    have e4 := Int.emod_lt_of_pos e (show (0 : Int) < 255 by omega)
    generalize e % 255 = e' at *
    obtain ⟨eb, heb⟩ : ∃ eb : BitVec 8, by8 eb = (1 + e') % 256 := ⟨BitVec.ofInt 8 ((1 + e') % 256), by8_ofInt (by omega)⟩
    have ebz : eb ≠ 0#8 := fun h => by rw [h] at heb; have : by8 0#8 = 0 := rfl; omega
    have xp : (btab k fun i => g1 i ^^^ g2 i).getD p 0 = by8 (g1 p ^^^ g2 p) := btab_get hpk
    have y1 := by8_bd (g1 p ^^^ g2 p)
    have r2 : (btab k fun i => g1 i ^^^ g2 i).set ((p : Int).toNat + 0) (bxor ((btab k fun i => g1 i ^^^ g2 i).getD ((p : Int).toNat + 0) 0) ((1 + e') % 256)) = btab k fun i => (g1 i ^^^ g2 i) ^^^ (if i = p then eb else 0#8) := by
      rw [Int.toNat_natCast]; simp only [Nat.add_zero]; rw [xp, ← heb, by8_xor]
      refine btab_set (by rw [if_pos rfl]) fun i hi hne => ?_
      rw [if_neg hne, BitVec.xor_zero]
    have bad : ¬ ∀ i, i < t → hor (rt i) (fun i => (g1 i ^^^ g2 i) ^^^ (if i = p then eb else 0#8)) k = 0#8 := fun h => by
      have h1 := h 0 (by omega)
      rw [hor_xor (f := fun i => g1 i ^^^ g2 i), z0 0 (by omega), rt_zero, hor_single, if_pos hpk, BitVec.zero_xor] at h1
      exact ebz h1
    have vb := valid_c (fun i => (g1 i ^^^ g2 i) ^^^ (if i = p then eb else 0#8)) k t (by unfold Due; omega)
    rw [decide_eq_false bad, ← ct, ← r2] at vb
    have hle : 0 + k ≤ (btab k fun i => g1 i ^^^ g2 i).length := by rw [NN]; omega
    have hle2 : 0 + k ≤ ((btab k fun i => g1 i ^^^ g2 i).set ((p : Int).toNat + 0) (bxor ((btab k fun i => g1 i ^^^ g2 i).getD ((p : Int).toNat + 0) 0) ((1 + e') % 256))).length := by rw [List.length_set, NN]; omega
    repeat' (first
      | ((with_reducible refine TOps.any ?_); refine TOps.callE env (by rfl) (by rfl) (by rfl) ?_ (va) (by rfl) ?_)
      | ((with_reducible refine TDr.any ?_); refine TDr.callE env (by first | rfl | assumption) (by rfl) (by rfl) ?_ (m2) (by rfl) (by rfl) ?_)
      | ((with_reducible refine TDr.any ?_); refine TDr.callE env (by first | rfl | assumption) (by rfl) (by rfl) ?_ (m3) (by rfl) (by rfl) ?_)
      | exact hle
      | with_reducible first | refine Tw.seq ?_ | refine Tw.reg ?_ | refine Tw.block ?_ | refine Tw.scope ?_ | refine Tw.skip ?_ | refine Tw.exit ?_ | refine Tw.ret ?_ | refine seqN ?_ | refine seqR ?_ | refine seqE ?_ | refine blkN ?_ | refine blkR ?_ | refine blkE1 ?_ | refine blkE0 (by kernel_rfl) ?_ | refine scpN ?_ | refine scpR ?_ | refine scpE ?_ | refine TOps.nil ?_ | exact Conj.nil | refine Conj.cons rfl ?_ | refine Conj.same ?_ | refine Conj.ask ?_ ?_ | refine Tw.regd env ?_ | refine TDr.nil ⟨by kernel_rfl, ?_⟩
      | ((with_reducible refine TOps.any ?_); first | refine TOps.frunP env (by rfl) (by rfl) ?_ ?_ | (refine TOps.known (by rfl) ?_; refine TOps.strip env (by rfl) (by rfl) ?_ ?_) | refine TOps.on (by rfl) (by rfl) ?_)
      | ((with_reducible refine TDr.any ?_); refine TDr.frunP env (by rfl) (by rfl) ?_ ?_)
      | ((with_reducible refine Tw.any ?_); first | refine Tw.condT (by rfl) ?_ | refine Tw.condF (by rfl) ?_)
      | ((first | ((with_reducible refine TOps.any ?_); (fail_if_success refine TOps.known (by rfl) ?_); refine TOps.ask (by rfl) (fun h => ?_) (fun h => ?_)) | ((with_reducible refine TDr.any ?_); (fail_if_success refine TDr.known (by first | rfl | assumption) ?_); refine TDr.ask (by rfl) (fun h hk => ?_) (fun h => ?_)) | ((with_reducible refine Tw.any ?_); refine Tw.cond (by rfl) (fun h => ?_) (fun h => ?_))) <;> (try simp only [goS] at h) <;> (try simp only [rdi, rdy, NN, xp, Int.toNat_natCast, Nat.add_zero] at h) <;> (try (exfalso; (try simp only [goP, reduceCtorEq] at h) <;> (first | assumption | omega | contradiction | (rcases h with ⟨_, _⟩ <;> first | contradiction | omega) | (rcases h with h | h <;> first | contradiction | omega)))))
      | ((with_reducible refine tret.any ?_); first | refine tret.ok (by rfl) ?_ | refine tret.okN (by rfl) ?_)
      | ((with_reducible refine Due.mk ?_); (first | with_reducible rfl | omega | assumption | decide | ((try simp only [goS] at *) <;> (try intro h) <;> (try intro h') <;> (try simp only [goS] at *) <;> (try simp only [rdi, rdy, NN, xp, Int.toNat_natCast, Nat.add_zero] at *) <;> (try simp only [rng]) <;> (first | assumption | omega)) | (exact due_app0 (by omega)) | (exact due_app (by omega)) | (intros; simp; done) | (intros; simp; omega)))
      | with_reducible refine Due.mk ?_
      | omega)
    repeat' (first
      | ((with_reducible refine TOps.any ?_); refine TOps.callE env (by rfl) (by rfl) (by rfl) ?_ (vb) (by rfl) ?_)
      | exact hle2
      | with_reducible first | refine Tw.seq ?_ | refine Tw.reg ?_ | refine Tw.block ?_ | refine Tw.scope ?_ | refine Tw.skip ?_ | refine Tw.exit ?_ | refine Tw.ret ?_ | refine seqN ?_ | refine seqR ?_ | refine seqE ?_ | refine blkN ?_ | refine blkR ?_ | refine blkE1 ?_ | refine blkE0 (by kernel_rfl) ?_ | refine scpN ?_ | refine scpR ?_ | refine scpE ?_ | refine TOps.nil ?_ | exact Conj.nil | refine Conj.cons rfl ?_ | refine Conj.same ?_ | refine Conj.ask ?_ ?_ | refine Tw.regd env ?_ | refine TDr.nil ⟨by kernel_rfl, ?_⟩
      | ((with_reducible refine TOps.any ?_); first | refine TOps.frunP env (by rfl) (by rfl) ?_ ?_ | (refine TOps.known (by rfl) ?_; refine TOps.strip env (by rfl) (by rfl) ?_ ?_) | refine TOps.on (by rfl) (by rfl) ?_)
      | ((with_reducible refine TDr.any ?_); refine TDr.frunP env (by rfl) (by rfl) ?_ ?_)
      | ((with_reducible refine Tw.any ?_); first | refine Tw.condT (by rfl) ?_ | refine Tw.condF (by rfl) ?_)
      | ((first | ((with_reducible refine TOps.any ?_); (fail_if_success refine TOps.known (by rfl) ?_); refine TOps.ask (by rfl) (fun h => ?_) (fun h => ?_)) | ((with_reducible refine TDr.any ?_); (fail_if_success refine TDr.known (by first | rfl | assumption) ?_); refine TDr.ask (by rfl) (fun h hk => ?_) (fun h => ?_)) | ((with_reducible refine Tw.any ?_); refine Tw.cond (by rfl) (fun h => ?_) (fun h => ?_))) <;> (try simp only [goS] at h) <;> (try simp only [rdi, rdy, Int.toNat_natCast, Nat.add_zero] at h) <;> (try (exfalso; (try simp only [goP, reduceCtorEq] at h) <;> (first | assumption | omega | contradiction | (rcases h with ⟨_, _⟩ <;> first | contradiction | omega) | (rcases h with h | h <;> first | contradiction | omega)))))
      | ((with_reducible refine tret.any ?_); first | refine tret.ok (by rfl) ?_ | refine tret.okN (by rfl) ?_)
      | ((with_reducible refine Due.mk ?_); (first | with_reducible rfl | omega | assumption | decide | ((try simp only [goS] at *) <;> (try intro h) <;> (try intro h') <;> (try simp only [goS] at *) <;> (try simp only [rdi, rdy, Int.toNat_natCast, Nat.add_zero] at *) <;> (try simp only [rng]) <;> (first | assumption | omega)) | (exact due_app0 (by omega)) | (exact due_app (by omega)) | (intros; simp; done) | (intros; simp; omega)))
      | with_reducible refine Due.mk ?_
      | omega)
    all_goals exact ⟨rfl, rfl, rfl⟩
end Go.Proofs.Ythnfbdihihhoiaa
