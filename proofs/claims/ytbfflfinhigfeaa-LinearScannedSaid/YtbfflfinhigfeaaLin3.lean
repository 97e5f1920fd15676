/- Bar codes: values become text. -/
import Derived.Test.YtbfflfinhigfeaaLin2
namespace Go.Proofs.Ytbfflfinhigfeaa
open Go Go.Lite
set_option linter.unusedVariables false
set_option linter.unusedSimpArgs false
set_option maxRecDepth 100000
set_option maxHeartbeats 4000000
-- @simp rdi rdy

theorem evenL_dig {l : List Int} (hd : Dig l) : Dig (evenL l) := fun i hi => by
  unfold evenL at hi ⊢
  split at hi
  · rename_i h
    rw [if_pos h]
    cases i with
    | zero => show (48 : Int) ≤ 48 ∧ (48 : Int) ≤ 57; omega
    | succ i =>
      have := hd i (by simpa using hi)
      simpa using this
  · rename_i h
    rw [if_neg h]; exact hd i hi

theorem digits_c (l : List Int) (hd : Dig l) (hl : 1 ≤ l.length ∧ l.length ≤ 20) :
    TC R Try.prog linear_digits_f [.lst Ei (vals l)] [] (fun v X => v = .tup [.str (strOfNums l), .int .i64 0] ∧ X = []) := by
  have vl := vals_len hl
  have hE := evenL_dig hd
  obtain ⟨E, hEE⟩ : ∃ E, E = evenL l := ⟨_, rfl⟩
  obtain ⟨K, hK⟩ : ∃ K, K = E.length / 2 := ⟨_, rfl⟩
  rw [← hEE] at hE
  refine tc0 env linear_digits_s (by rfl) ?_
  dsimp only [linear_digits_c]
  by_cases ho : l.length % 2 = 1
  · have eE : E = 48 :: l := by rw [hEE]; exact if_pos ho
    have lE : E.length = l.length + 1 := by rw [eE]; rfl
    have eV : vals l = 100 :: pairs E K := by unfold vals; rw [if_pos ho, hK, hEE]; rfl
    rw [eV]
    have g0 : (100 :: pairs E K).getD 0 0 = (100 : Int) := rfl
    have lp : (pairs E K).length = K := pairs_len
    have lp2 : (100 :: pairs E K).length = K + 1 := by rw [List.length_cons, lp]
    have e0 : E.getD 0 0 = 48 := by rw [eE]; rfl
    repeat' (first
      | with_reducible first | refine Tw.seq ?_ | refine Tw.reg ?_ | refine Tw.block ?_ | refine Tw.scope ?_ | refine Tw.skip ?_ | refine Tw.exit ?_ | refine Tw.ret ?_ | refine seqN ?_ | refine seqR ?_ | refine seqE ?_ | refine rndN ?_ | refine blkN ?_ | refine blkR ?_ | refine blkE1 ?_ | refine blkE0 (by kernel_rfl) ?_ | refine scpN ?_ | refine scpR ?_ | refine scpE ?_ | refine TOps.nil ?_ | exact Conj.nil | refine Conj.cons rfl ?_ | refine Conj.same ?_ | refine Conj.ask ?_ ?_ | refine Tw.regd env ?_ | refine TDr.nil ⟨by kernel_rfl, ?_⟩
      | ((with_reducible refine TOps.any ?_); first | refine TOps.frunP env (by rfl) (by rfl) ?_ ?_ | (refine TOps.known (by rfl) ?_; refine TOps.strip env (by rfl) (by rfl) ?_ ?_) | refine TOps.on (by rfl) (by rfl) ?_)
      | ((with_reducible refine TDr.any ?_); refine TDr.frunP env (by rfl) (by rfl) ?_ ?_)
      | ((with_reducible refine Tw.any ?_); first | refine Tw.condT (by rfl) ?_ | refine Tw.condF (by rfl) ?_)
      | ((first | ((with_reducible refine TOps.any ?_); (fail_if_success refine TOps.known (by rfl) ?_); refine TOps.ask (by rfl) (fun h => ?_) (fun h => ?_)) | ((with_reducible refine TDr.any ?_); (fail_if_success refine TDr.known (by first | rfl | assumption) ?_); refine TDr.ask (by rfl) (fun h hk => ?_) (fun h => ?_)) | ((with_reducible refine Tw.any ?_); refine Tw.cond (by rfl) (fun h => ?_) (fun h => ?_))) <;> (try simp only [goS] at h) <;> (try simp only [rdi, rdy, lp, lp2, Int.toNat_natCast, Nat.add_zero] at h) <;> (try (exfalso; (try simp only [goP, reduceCtorEq] at h) <;> (first | assumption | omega | contradiction | (rcases h with ⟨_, _⟩ <;> first | contradiction | omega) | (rcases h with h | h <;> first | contradiction | omega)))))
      | ((with_reducible refine tret.any ?_); first | refine tret.ok (by rfl) ?_ | refine tret.okN (by rfl) ?_)
      | ((with_reducible refine Due.mk ?_); (first | with_reducible rfl | omega | assumption | decide | ((try simp only [goS] at *) <;> (try intro h) <;> (try intro h') <;> (try simp only [goS] at *) <;> (try simp only [rdi, rdy, lp, lp2, Int.toNat_natCast, Nat.add_zero] at *) <;> (try simp only [rng]) <;> (first | assumption | omega)) | (exact due_app0 (by omega)) | (exact due_app (by omega)) | (intros; simp; done) | (intros; simp; omega)))
      | with_reducible refine Due.mk ?_
      | omega)
    rw [show List.drop (Int.toNat 1) (100 :: pairs E K) = pairs E K from rfl]
    refine Tw.loopK [2, 3, 4, 14, 15] (fun k : Nat => k ≤ K) (fun k => K - k) (fun k => [(16, .int .i64 k), (5, .sla 1 0 0 (2 * k))])
      (fun k => [some (.arr Ey (E.take (2 * k)))]) ⟨0, by omega, TWk.fcanon env [none] (by rfl) ?_⟩ (fun k hk => ?_)
    · repeat' (first
        | with_reducible first | exact Conj.nil | refine Conj.cons rfl ?_ | refine Conj.same ?_ | refine Conj.ask ?_ ?_
        | ((with_reducible refine Due.mk ?_); (first | with_reducible rfl | omega | assumption | decide | ((try simp only [goS] at *) <;> (try intro h) <;> (try intro h') <;> (try simp only [goS] at *) <;> (try simp only [rdi, rdy, Int.toNat_natCast, Nat.add_zero] at *) <;> (try simp only [rng]) <;> (first | assumption | omega)) | (exact due_app0 (by omega)) | (exact due_app (by omega)) | (intros; simp; done) | (intros; simp; omega)))
        | with_reducible refine Due.mk ?_
        | omega)
    have lk : (E.take (2 * k)).length = 2 * k := by rw [List.length_take]; omega
    rcases Nat.lt_or_ge k K with hk2 | hk2
    · have a0 := hE (2 * k) (by omega)
      have a1 := hE (2 * k + 1) (by omega)
      have pg := pairs_get (l := E) hk2
      have vb : 0 ≤ (pairs E K).getD k 0 ∧ (pairs E K).getD k 0 ≤ 99 := by omega
      have q1 : quo ((pairs E K).getD k 0) 10 = E.getD (2 * k) 0 - 48 := by rw [quo_nn vb.1, pg]; omega
      have q2 : rem ((pairs E K).getD k 0) 10 = E.getD (2 * k + 1) 0 - 48 := by rw [rem_nn vb.1, pg]; omega
      have u1 : (48 + (E.getD (2 * k) 0 - 48)) % 256 = E.getD (2 * k) 0 := by omega
      have u2 : (48 + (E.getD (2 * k + 1) 0 - 48)) % 256 = E.getD (2 * k + 1) 0 := by omega
      have pn : E.take (2 * (k + 1)) = cut (E.take (2 * k)) 0 (2 * k) ++ cut [(48 + quo ((pairs E K).getD k 0) 10) % 256, (48 + rem ((pairs E K).getD k 0) 10) % 256] 0 2 := by
        rw [cut_all lk.symm, q1, q2, u1, u2, show 2 * (k + 1) = 2 * k + 1 + 1 by omega, List.take_add_one, List.take_add_one, List.getElem?_eq_getElem (by omega), List.getElem?_eq_getElem (by omega), List.append_assoc]
        rw [getD_get 0 (by omega), getD_get 0 (by omega)]; rfl
      have en : 2 * (k + 1) = 2 * k + 2 := by omega
      have r1 : rng .i64 (quo ((pairs E K).getD k 0) 10) := by rw [q1]; exact ⟨by omega, by omega⟩
      have dl : (2 * k + (cut [(48 + quo ((pairs E K).getD k 0) 10) % 256, (48 + rem ((pairs E K).getD k 0) 10) % 256] 0 2).length) * 1 ≤ 140737488355328 ∧ 2 * k + (cut [(48 + quo ((pairs E K).getD k 0) 10) % 256, (48 + rem ((pairs E K).getD k 0) 10) % 256] 0 2).length ≤ 140737488355328 := by
        show (2 * k + 2) * 1 ≤ 140737488355328 ∧ 2 * k + 2 ≤ 140737488355328
        omega
      have b1 : -9223372036854775808 ≤ 48 + quo ((pairs E K).getD k 0) 10 ∧ 48 + quo ((pairs E K).getD k 0) 10 ≤ 9223372036854775807 := by rw [q1]; omega
      have b2 : -9223372036854775808 ≤ 48 + rem ((pairs E K).getD k 0) 10 ∧ 48 + rem ((pairs E K).getD k 0) 10 ≤ 9223372036854775807 := by rw [q2]; omega
      repeat' (first
        | exact r1
        | exact r1.1
        | exact r1.2
        | exact b1
        | exact b2
        | exact dl
        | with_reducible first | refine Tw.seq ?_ | refine Tw.reg ?_ | refine Tw.block ?_ | refine Tw.scope ?_ | refine Tw.skip ?_ | refine Tw.exit ?_ | refine Tw.ret ?_ | refine seqN ?_ | refine seqR ?_ | refine seqE ?_ | refine rndN ?_ | refine blkN ?_ | refine blkR ?_ | refine blkE1 ?_ | refine blkE0 (by kernel_rfl) ?_ | refine scpN ?_ | refine scpR ?_ | refine scpE ?_ | refine TOps.nil ?_ | exact Conj.nil | refine Conj.cons rfl ?_ | refine Conj.same ?_ | refine Conj.ask ?_ ?_ | refine Tw.regd env ?_ | refine TDr.nil ⟨by kernel_rfl, ?_⟩
        | ((with_reducible refine TOps.any ?_); first | refine TOps.frunP env (by rfl) (by rfl) ?_ ?_ | (refine TOps.known (by rfl) ?_; refine TOps.strip env (by rfl) (by rfl) ?_ ?_) | refine TOps.on (by rfl) (by rfl) ?_)
        | ((with_reducible refine TDr.any ?_); refine TDr.frunP env (by rfl) (by rfl) ?_ ?_)
        | ((with_reducible refine Tw.any ?_); first | refine Tw.condT (by rfl) ?_ | refine Tw.condF (by rfl) ?_)
        | ((first | ((with_reducible refine TOps.any ?_); (fail_if_success refine TOps.known (by rfl) ?_); refine TOps.ask (by rfl) (fun h => ?_) (fun h => ?_)) | ((with_reducible refine TDr.any ?_); (fail_if_success refine TDr.known (by first | rfl | assumption) ?_); refine TDr.ask (by rfl) (fun h hk => ?_) (fun h => ?_)) | ((with_reducible refine Tw.any ?_); refine Tw.cond (by rfl) (fun h => ?_) (fun h => ?_))) <;> (try simp only [goS] at h) <;> (try simp only [rdi, rdy, q1, q2, u1, u2, lk, lp, Int.toNat_natCast, Nat.add_zero] at h) <;> (try (exfalso; (try simp only [goP, reduceCtorEq] at h) <;> (first | assumption | omega | contradiction | (rcases h with ⟨_, _⟩ <;> first | contradiction | omega) | (rcases h with h | h <;> first | contradiction | omega)))))
        | ((with_reducible refine tret.any ?_); first | refine tret.ok (by rfl) ?_ | refine tret.okN (by rfl) ?_)
        | ((with_reducible refine Due.mk ?_); (first | with_reducible rfl | omega | assumption | decide | ((try simp only [goS] at *) <;> (try intro h) <;> (try intro h') <;> (try simp only [goS] at *) <;> (try simp only [rdi, rdy, q1, q2, u1, u2, lk, lp, Int.toNat_natCast, Nat.add_zero] at *) <;> (try simp only [rng]) <;> (first | assumption | omega)) | (exact due_app0 (by omega)) | (exact due_app (by omega)) | (intros; simp; done) | (intros; simp; omega)))
        | with_reducible refine Due.mk ?_
        | omega)
      refine ⟨k + 1, by omega, by omega, TWk.fcanon env [some 2] (by rfl) ?_⟩
      repeat' (first
        | exact en
        | exact pn
        | with_reducible first | exact Conj.nil | refine Conj.cons rfl ?_ | refine Conj.same ?_ | refine Conj.ask ?_ ?_
        | ((with_reducible refine Due.mk ?_); (first | with_reducible rfl | omega | assumption | decide | ((try simp only [goS] at *) <;> (try intro h) <;> (try intro h') <;> (try simp only [goS] at *) <;> (try simp only [rdi, rdy, Int.toNat_natCast, Nat.add_zero] at *) <;> (try simp only [rng]) <;> (first | assumption | omega)) | (exact due_app0 (by omega)) | (exact due_app (by omega)) | (intros; simp; done) | (intros; simp; omega)))
        | with_reducible refine Due.mk ?_
        | omega)
    · obtain rfl : k = K := by omega
      have tE : E.take (2 * k) = E := List.take_of_length_le (by omega)
      rw [tE] at lk ⊢
      repeat' (first
        | with_reducible first | refine Tw.seq ?_ | refine Tw.reg ?_ | refine Tw.block ?_ | refine Tw.scope ?_ | refine Tw.skip ?_ | refine Tw.exit ?_ | refine Tw.ret ?_ | refine seqN ?_ | refine seqR ?_ | refine seqE ?_ | refine rndN ?_ | refine blkN ?_ | refine blkR ?_ | refine blkE1 ?_ | refine blkE0 (by kernel_rfl) ?_ | refine scpN ?_ | refine scpR ?_ | refine scpE ?_ | refine TOps.nil ?_ | exact Conj.nil | refine Conj.cons rfl ?_ | refine Conj.same ?_ | refine Conj.ask ?_ ?_ | refine Tw.regd env ?_ | refine TDr.nil ⟨by kernel_rfl, ?_⟩
        | ((with_reducible refine TOps.any ?_); first | refine TOps.frunP env (by rfl) (by rfl) ?_ ?_ | (refine TOps.known (by rfl) ?_; refine TOps.strip env (by rfl) (by rfl) ?_ ?_) | refine TOps.on (by rfl) (by rfl) ?_)
        | ((with_reducible refine TDr.any ?_); refine TDr.frunP env (by rfl) (by rfl) ?_ ?_)
        | ((with_reducible refine Tw.any ?_); first | refine Tw.condT (by rfl) ?_ | refine Tw.condF (by rfl) ?_)
        | ((first | ((with_reducible refine TOps.any ?_); (fail_if_success refine TOps.known (by rfl) ?_); refine TOps.ask (by rfl) (fun h => ?_) (fun h => ?_)) | ((with_reducible refine TDr.any ?_); (fail_if_success refine TDr.known (by first | rfl | assumption) ?_); refine TDr.ask (by rfl) (fun h hk => ?_) (fun h => ?_)) | ((with_reducible refine Tw.any ?_); refine Tw.cond (by rfl) (fun h => ?_) (fun h => ?_))) <;> (try simp only [goS] at h) <;> (try simp only [rdi, rdy, lk, lp, e0, Int.toNat_natCast, Nat.add_zero] at h) <;> (try (exfalso; (try simp only [goP, reduceCtorEq] at h) <;> (first | assumption | omega | contradiction | (rcases h with ⟨_, _⟩ <;> first | contradiction | omega) | (rcases h with h | h <;> first | contradiction | omega)))))
        | ((with_reducible refine tret.any ?_); first | refine tret.ok (by rfl) ?_ | refine tret.okN (by rfl) ?_)
        | ((with_reducible refine Due.mk ?_); (first | with_reducible rfl | omega | assumption | decide | ((try simp only [goS] at *) <;> (try intro h) <;> (try intro h') <;> (try simp only [goS] at *) <;> (try simp only [rdi, rdy, lk, lp, e0, Int.toNat_natCast, Nat.add_zero] at *) <;> (try simp only [rng]) <;> (first | assumption | omega)) | (exact due_app0 (by omega)) | (exact due_app (by omega)) | (intros; simp; done) | (intros; simp; omega)))
        | with_reducible refine Due.mk ?_
        | omega)
      exact ⟨rfl, congrArg (fun z => TV.tup [TV.str (strOfNums z), TV.int IntKind.i64 0]) (by show (E.drop 1).take (2 * k - 1) = l; rw [eE, List.drop_one, List.tail_cons, List.take_of_length_le (by omega)]), rfl⟩
  · have eE : E = l := by rw [hEE]; exact if_neg ho
    have lE : E.length = l.length := by rw [eE]
    have eV : vals l = pairs E K := by unfold vals; rw [if_neg ho, hK, hEE]; rfl
    rw [eV]
    have lp : (pairs E K).length = K := pairs_len
    have a0 := hE 0 (by omega)
    have a1 := hE 1 (by omega)
    have hK1 : 0 < K := by rw [hK, lE]; omega
    have g0 : (pairs E K).getD 0 0 = 10 * (E.getD (2 * 0) 0 - 48) + (E.getD (2 * 0 + 1) 0 - 48) := pairs_get hK1
    have g1 : ¬ (pairs E K).getD 0 0 = 100 := by
      rw [g0]
      show ¬ 10 * (E.getD 0 0 - 48) + (E.getD 1 0 - 48) = 100
      omega
    repeat' (first
      | with_reducible first | refine Tw.seq ?_ | refine Tw.reg ?_ | refine Tw.block ?_ | refine Tw.scope ?_ | refine Tw.skip ?_ | refine Tw.exit ?_ | refine Tw.ret ?_ | refine seqN ?_ | refine seqR ?_ | refine seqE ?_ | refine rndN ?_ | refine blkN ?_ | refine blkR ?_ | refine blkE1 ?_ | refine blkE0 (by kernel_rfl) ?_ | refine scpN ?_ | refine scpR ?_ | refine scpE ?_ | refine TOps.nil ?_ | exact Conj.nil | refine Conj.cons rfl ?_ | refine Conj.same ?_ | refine Conj.ask ?_ ?_ | refine Tw.regd env ?_ | refine TDr.nil ⟨by kernel_rfl, ?_⟩
      | ((with_reducible refine TOps.any ?_); first | refine TOps.frunP env (by rfl) (by rfl) ?_ ?_ | (refine TOps.known (by rfl) ?_; refine TOps.strip env (by rfl) (by rfl) ?_ ?_) | refine TOps.on (by rfl) (by rfl) ?_)
      | ((with_reducible refine TDr.any ?_); refine TDr.frunP env (by rfl) (by rfl) ?_ ?_)
      | ((with_reducible refine Tw.any ?_); first | refine Tw.condT (by rfl) ?_ | refine Tw.condF (by rfl) ?_)
      | ((first | ((with_reducible refine TOps.any ?_); (fail_if_success refine TOps.known (by rfl) ?_); refine TOps.ask (by rfl) (fun h => ?_) (fun h => ?_)) | ((with_reducible refine TDr.any ?_); (fail_if_success refine TDr.known (by first | rfl | assumption) ?_); refine TDr.ask (by rfl) (fun h hk => ?_) (fun h => ?_)) | ((with_reducible refine Tw.any ?_); refine Tw.cond (by rfl) (fun h => ?_) (fun h => ?_))) <;> (try simp only [goS] at h) <;> (try simp only [rdi, rdy, lp, Int.toNat_natCast, Nat.add_zero] at h) <;> (try (exfalso; (try simp only [goP, reduceCtorEq] at h) <;> (first | assumption | omega | contradiction | (rcases h with ⟨_, _⟩ <;> first | contradiction | omega) | (rcases h with h | h <;> first | contradiction | omega)))))
      | ((with_reducible refine tret.any ?_); first | refine tret.ok (by rfl) ?_ | refine tret.okN (by rfl) ?_)
      | ((with_reducible refine Due.mk ?_); (first | with_reducible rfl | omega | assumption | decide | ((try simp only [goS] at *) <;> (try intro h) <;> (try intro h') <;> (try simp only [goS] at *) <;> (try simp only [rdi, rdy, lp, Int.toNat_natCast, Nat.add_zero] at *) <;> (try simp only [rng]) <;> (first | assumption | omega)) | (exact due_app0 (by omega)) | (exact due_app (by omega)) | (intros; simp; done) | (intros; simp; omega)))
      | with_reducible refine Due.mk ?_
      | omega)
    refine Tw.loopK [2, 3, 4, 14, 15] (fun k : Nat => k ≤ K) (fun k => K - k) (fun k => [(16, .int .i64 k), (5, .sla 1 0 0 (2 * k))])
      (fun k => [some (.arr Ey (E.take (2 * k)))]) ⟨0, by omega, TWk.fcanon env [none] (by rfl) ?_⟩ (fun k hk => ?_)
    · repeat' (first
        | with_reducible first | exact Conj.nil | refine Conj.cons rfl ?_ | refine Conj.same ?_ | refine Conj.ask ?_ ?_
        | ((with_reducible refine Due.mk ?_); (first | with_reducible rfl | omega | assumption | decide | ((try simp only [goS] at *) <;> (try intro h) <;> (try intro h') <;> (try simp only [goS] at *) <;> (try simp only [rdi, rdy, Int.toNat_natCast, Nat.add_zero] at *) <;> (try simp only [rng]) <;> (first | assumption | omega)) | (exact due_app0 (by omega)) | (exact due_app (by omega)) | (intros; simp; done) | (intros; simp; omega)))
        | with_reducible refine Due.mk ?_
        | omega)
    have lk : (E.take (2 * k)).length = 2 * k := by rw [List.length_take]; omega
    rcases Nat.lt_or_ge k K with hk2 | hk2
    · have a0 := hE (2 * k) (by omega)
      have a1 := hE (2 * k + 1) (by omega)
      have pg := pairs_get (l := E) hk2
      have vb : 0 ≤ (pairs E K).getD k 0 ∧ (pairs E K).getD k 0 ≤ 99 := by omega
      have q1 : quo ((pairs E K).getD k 0) 10 = E.getD (2 * k) 0 - 48 := by rw [quo_nn vb.1, pg]; omega
      have q2 : rem ((pairs E K).getD k 0) 10 = E.getD (2 * k + 1) 0 - 48 := by rw [rem_nn vb.1, pg]; omega
      have u1 : (48 + (E.getD (2 * k) 0 - 48)) % 256 = E.getD (2 * k) 0 := by omega
      have u2 : (48 + (E.getD (2 * k + 1) 0 - 48)) % 256 = E.getD (2 * k + 1) 0 := by omega
      have pn : E.take (2 * (k + 1)) = cut (E.take (2 * k)) 0 (2 * k) ++ cut [(48 + quo ((pairs E K).getD k 0) 10) % 256, (48 + rem ((pairs E K).getD k 0) 10) % 256] 0 2 := by
        rw [cut_all lk.symm, q1, q2, u1, u2, show 2 * (k + 1) = 2 * k + 1 + 1 by omega, List.take_add_one, List.take_add_one, List.getElem?_eq_getElem (by omega), List.getElem?_eq_getElem (by omega), List.append_assoc]
        rw [getD_get 0 (by omega), getD_get 0 (by omega)]; rfl
      have en : 2 * (k + 1) = 2 * k + 2 := by omega
      have r1 : rng .i64 (quo ((pairs E K).getD k 0) 10) := by rw [q1]; exact ⟨by omega, by omega⟩
      have dl : (2 * k + (cut [(48 + quo ((pairs E K).getD k 0) 10) % 256, (48 + rem ((pairs E K).getD k 0) 10) % 256] 0 2).length) * 1 ≤ 140737488355328 ∧ 2 * k + (cut [(48 + quo ((pairs E K).getD k 0) 10) % 256, (48 + rem ((pairs E K).getD k 0) 10) % 256] 0 2).length ≤ 140737488355328 := by
        show (2 * k + 2) * 1 ≤ 140737488355328 ∧ 2 * k + 2 ≤ 140737488355328
        omega
      have b1 : -9223372036854775808 ≤ 48 + quo ((pairs E K).getD k 0) 10 ∧ 48 + quo ((pairs E K).getD k 0) 10 ≤ 9223372036854775807 := by rw [q1]; omega
      have b2 : -9223372036854775808 ≤ 48 + rem ((pairs E K).getD k 0) 10 ∧ 48 + rem ((pairs E K).getD k 0) 10 ≤ 9223372036854775807 := by rw [q2]; omega
      repeat' (first
        | exact r1
        | exact r1.1
        | exact r1.2
        | exact b1
        | exact b2
        | exact dl
        | with_reducible first | refine Tw.seq ?_ | refine Tw.reg ?_ | refine Tw.block ?_ | refine Tw.scope ?_ | refine Tw.skip ?_ | refine Tw.exit ?_ | refine Tw.ret ?_ | refine seqN ?_ | refine seqR ?_ | refine seqE ?_ | refine rndN ?_ | refine blkN ?_ | refine blkR ?_ | refine blkE1 ?_ | refine blkE0 (by kernel_rfl) ?_ | refine scpN ?_ | refine scpR ?_ | refine scpE ?_ | refine TOps.nil ?_ | exact Conj.nil | refine Conj.cons rfl ?_ | refine Conj.same ?_ | refine Conj.ask ?_ ?_ | refine Tw.regd env ?_ | refine TDr.nil ⟨by kernel_rfl, ?_⟩
        | ((with_reducible refine TOps.any ?_); first | refine TOps.frunP env (by rfl) (by rfl) ?_ ?_ | (refine TOps.known (by rfl) ?_; refine TOps.strip env (by rfl) (by rfl) ?_ ?_) | refine TOps.on (by rfl) (by rfl) ?_)
        | ((with_reducible refine TDr.any ?_); refine TDr.frunP env (by rfl) (by rfl) ?_ ?_)
        | ((with_reducible refine Tw.any ?_); first | refine Tw.condT (by rfl) ?_ | refine Tw.condF (by rfl) ?_)
        | ((first | ((with_reducible refine TOps.any ?_); (fail_if_success refine TOps.known (by rfl) ?_); refine TOps.ask (by rfl) (fun h => ?_) (fun h => ?_)) | ((with_reducible refine TDr.any ?_); (fail_if_success refine TDr.known (by first | rfl | assumption) ?_); refine TDr.ask (by rfl) (fun h hk => ?_) (fun h => ?_)) | ((with_reducible refine Tw.any ?_); refine Tw.cond (by rfl) (fun h => ?_) (fun h => ?_))) <;> (try simp only [goS] at h) <;> (try simp only [rdi, rdy, q1, q2, u1, u2, lk, lp, Int.toNat_natCast, Nat.add_zero] at h) <;> (try (exfalso; (try simp only [goP, reduceCtorEq] at h) <;> (first | assumption | omega | contradiction | (rcases h with ⟨_, _⟩ <;> first | contradiction | omega) | (rcases h with h | h <;> first | contradiction | omega)))))
        | ((with_reducible refine tret.any ?_); first | refine tret.ok (by rfl) ?_ | refine tret.okN (by rfl) ?_)
        | ((with_reducible refine Due.mk ?_); (first | with_reducible rfl | omega | assumption | decide | ((try simp only [goS] at *) <;> (try intro h) <;> (try intro h') <;> (try simp only [goS] at *) <;> (try simp only [rdi, rdy, q1, q2, u1, u2, lk, lp, Int.toNat_natCast, Nat.add_zero] at *) <;> (try simp only [rng]) <;> (first | assumption | omega)) | (exact due_app0 (by omega)) | (exact due_app (by omega)) | (intros; simp; done) | (intros; simp; omega)))
        | with_reducible refine Due.mk ?_
        | omega)
      refine ⟨k + 1, by omega, by omega, TWk.fcanon env [some 2] (by rfl) ?_⟩
      repeat' (first
        | exact en
        | exact pn
        | with_reducible first | exact Conj.nil | refine Conj.cons rfl ?_ | refine Conj.same ?_ | refine Conj.ask ?_ ?_
        | ((with_reducible refine Due.mk ?_); (first | with_reducible rfl | omega | assumption | decide | ((try simp only [goS] at *) <;> (try intro h) <;> (try intro h') <;> (try simp only [goS] at *) <;> (try simp only [rdi, rdy, Int.toNat_natCast, Nat.add_zero] at *) <;> (try simp only [rng]) <;> (first | assumption | omega)) | (exact due_app0 (by omega)) | (exact due_app (by omega)) | (intros; simp; done) | (intros; simp; omega)))
        | with_reducible refine Due.mk ?_
        | omega)
    · obtain rfl : k = K := by omega
      have tE : E.take (2 * k) = E := List.take_of_length_le (by omega)
      rw [tE] at lk ⊢
      repeat' (first
        | with_reducible first | refine Tw.seq ?_ | refine Tw.reg ?_ | refine Tw.block ?_ | refine Tw.scope ?_ | refine Tw.skip ?_ | refine Tw.exit ?_ | refine Tw.ret ?_ | refine seqN ?_ | refine seqR ?_ | refine seqE ?_ | refine rndN ?_ | refine blkN ?_ | refine blkR ?_ | refine blkE1 ?_ | refine blkE0 (by kernel_rfl) ?_ | refine scpN ?_ | refine scpR ?_ | refine scpE ?_ | refine TOps.nil ?_ | exact Conj.nil | refine Conj.cons rfl ?_ | refine Conj.same ?_ | refine Conj.ask ?_ ?_ | refine Tw.regd env ?_ | refine TDr.nil ⟨by kernel_rfl, ?_⟩
        | ((with_reducible refine TOps.any ?_); first | refine TOps.frunP env (by rfl) (by rfl) ?_ ?_ | (refine TOps.known (by rfl) ?_; refine TOps.strip env (by rfl) (by rfl) ?_ ?_) | refine TOps.on (by rfl) (by rfl) ?_)
        | ((with_reducible refine TDr.any ?_); refine TDr.frunP env (by rfl) (by rfl) ?_ ?_)
        | ((with_reducible refine Tw.any ?_); first | refine Tw.condT (by rfl) ?_ | refine Tw.condF (by rfl) ?_)
        | ((first | ((with_reducible refine TOps.any ?_); (fail_if_success refine TOps.known (by rfl) ?_); refine TOps.ask (by rfl) (fun h => ?_) (fun h => ?_)) | ((with_reducible refine TDr.any ?_); (fail_if_success refine TDr.known (by first | rfl | assumption) ?_); refine TDr.ask (by rfl) (fun h hk => ?_) (fun h => ?_)) | ((with_reducible refine Tw.any ?_); refine Tw.cond (by rfl) (fun h => ?_) (fun h => ?_))) <;> (try simp only [goS] at h) <;> (try simp only [rdi, rdy, lk, lp, Int.toNat_natCast, Nat.add_zero] at h) <;> (try (exfalso; (try simp only [goP, reduceCtorEq] at h) <;> (first | assumption | omega | contradiction | (rcases h with ⟨_, _⟩ <;> first | contradiction | omega) | (rcases h with h | h <;> first | contradiction | omega)))))
        | ((with_reducible refine tret.any ?_); first | refine tret.ok (by rfl) ?_ | refine tret.okN (by rfl) ?_)
        | ((with_reducible refine Due.mk ?_); (first | with_reducible rfl | omega | assumption | decide | ((try simp only [goS] at *) <;> (try intro h) <;> (try intro h') <;> (try simp only [goS] at *) <;> (try simp only [rdi, rdy, lk, lp, Int.toNat_natCast, Nat.add_zero] at *) <;> (try simp only [rng]) <;> (first | assumption | omega)) | (exact due_app0 (by omega)) | (exact due_app (by omega)) | (intros; simp; done) | (intros; simp; omega)))
        | with_reducible refine Due.mk ?_
        | omega)
      exact ⟨rfl, congrArg (fun z => TV.tup [TV.str (strOfNums z), TV.int IntKind.i64 0]) (by show E.take (2 * k) = l; rw [← eE]; exact List.take_of_length_le (by omega)), rfl⟩
end Go.Proofs.Ytbfflfinhigfeaa
