/- Bar codes: the digits of a law, the reference's trial runs. -/
import Derived.Test.YtbfflfinhigfeaaLin5
import Derived.Test.YtbfflfinhigfeaaRMod
import Derived.Test.YtbfflfinhigfeaaRInts
import Derived.Test.YtbfflfinhigfeaaXLinearScanned0
namespace Go.Proofs.Ytbfflfinhigfeaa
open Go Go.Lite
set_option linter.unusedVariables false
set_option linter.unusedSimpArgs false
set_option maxRecDepth 100000
set_option maxHeartbeats 4000000
-- @simp rdi rdy

def dgF (a : List Int) (k : Nat) : Int := 48 + a.getD k 0 % 10
def dgs (a : List Int) : List Int := if min a.length 20 = 0 then [55] else tab (min a.length 20) (dgF a)
theorem dgs_dig (a : List Int) : Dig (dgs a) := fun i hi => by
  unfold dgs at hi ⊢
  split at hi
  · rename_i h
    rw [if_pos h]
    have : i = 0 := by simpa using hi
    subst this; decide
  · rename_i h
    rw [if_neg h]
    rw [tab_len] at hi
    rw [tab_get hi]
    unfold dgF; omega
theorem dgs_len (a : List Int) : 1 ≤ (dgs a).length ∧ (dgs a).length ≤ 20 := by
  unfold dgs
  split
  · decide
  · rw [tab_len]; omega

theorem digitsOf_c (a : List Int) (w1 : a.length ≤ 9223372036854775807 ∧ ∀ y ∈ a, Wi y) : TC R Try.prog K2_digitsOf_f [.lst Ei a] [] (fun v X => v = .str (strOfNums (dgs a)) ∧ X = []) := by
  obtain ⟨w1, v1⟩ := w1
  have bl : ∀ k, -9223372036854775808 ≤ a.getD k 0 ∧ a.getD k 0 ≤ 9223372036854775807 := fun k => by
    rcases Nat.lt_or_ge k a.length with h | h
    · exact v1 _ (getD_mem h)
    · rw [List.getD_eq_getElem?_getD, List.getElem?_eq_none h]; decide
  obtain ⟨n, hn⟩ : ∃ n, n = min a.length 20 := ⟨_, rfl⟩
  have hm : min (a.length : Int) 20 = (n : Int) := by omega
  have lt : (a.take n).length = n := by rw [List.length_take]; omega
  refine tc0 env K2_digitsOf_s (by rfl) ?_
  dsimp only [K2_digitsOf_c]
  repeat' (first
    | with_reducible first | refine Tw.seq ?_ | refine Tw.reg ?_ | refine Tw.block ?_ | refine Tw.scope ?_ | refine Tw.skip ?_ | refine Tw.exit ?_ | refine Tw.ret ?_ | refine seqN ?_ | refine seqR ?_ | refine seqE ?_ | refine rndN ?_ | refine blkN ?_ | refine blkR ?_ | refine blkE1 ?_ | refine blkE0 (by kernel_rfl) ?_ | refine scpN ?_ | refine scpR ?_ | refine scpE ?_ | refine TOps.nil ?_ | exact Conj.nil | refine Conj.cons rfl ?_ | refine Conj.same ?_ | refine Conj.ask ?_ ?_ | refine Tw.regd env ?_ | refine TDr.nil ⟨by kernel_rfl, ?_⟩
    | ((with_reducible refine TOps.any ?_); first | refine TOps.frunP env (by rfl) (by rfl) ?_ ?_ | (refine TOps.known (by rfl) ?_; refine TOps.strip env (by rfl) (by rfl) ?_ ?_) | refine TOps.on (by rfl) (by rfl) ?_)
    | ((with_reducible refine TDr.any ?_); refine TDr.frunP env (by rfl) (by rfl) ?_ ?_)
    | ((with_reducible refine Tw.any ?_); first | refine Tw.condT (by rfl) ?_ | refine Tw.condF (by rfl) ?_)
    | ((first | ((with_reducible refine TOps.any ?_); (fail_if_success refine TOps.known (by rfl) ?_); refine TOps.ask (by rfl) (fun h => ?_) (fun h => ?_)) | ((with_reducible refine TDr.any ?_); (fail_if_success refine TDr.known (by first | rfl | assumption) ?_); refine TDr.ask (by rfl) (fun h hk => ?_) (fun h => ?_)) | ((with_reducible refine Tw.any ?_); refine Tw.cond (by rfl) (fun h => ?_) (fun h => ?_))) <;> (try simp only [goS] at h) <;> (try simp only [rdi, rdy, hm, lt, Int.toNat_natCast, Nat.add_zero] at h) <;> (try (exfalso; (try simp only [goP, reduceCtorEq] at h) <;> (first | assumption | omega | contradiction | (rcases h with ⟨_, _⟩ <;> first | contradiction | omega) | (rcases h with h | h <;> first | contradiction | omega)))))
    | ((with_reducible refine tret.any ?_); first | refine tret.ok (by rfl) ?_ | refine tret.okN (by rfl) ?_)
    | ((with_reducible refine Due.mk ?_); (first | with_reducible rfl | omega | assumption | decide | ((try simp only [goS] at *) <;> (try intro h) <;> (try intro h') <;> (try simp only [goS] at *) <;> (try simp only [rdi, rdy, hm, lt, Int.toNat_natCast, Nat.add_zero] at *) <;> (try simp only [rng]) <;> (first | assumption | omega)) | (exact due_app0 (by omega)) | (exact due_app (by omega)) | (intros; simp; done) | (intros; simp; omega)))
    | with_reducible refine Due.mk ?_
    | omega)
  rw [hm, Int.toNat_natCast, lt]
  refine Tw.loopK [2, 10, 11] (fun k : Nat => k ≤ n) (fun k => n - k) (fun k => [(12, .int .i64 k), (3, .str (strOfNums (tab k (dgF a))))])
    (fun _ => []) ⟨0, by omega, TWk.fcanon env [] (by rfl) ?_⟩ (fun k hk => ?_)
  · repeat' (first
      | exact rfl
      | with_reducible first | exact Conj.nil | refine Conj.cons rfl ?_ | refine Conj.same ?_ | refine Conj.ask ?_ ?_
      | ((with_reducible refine Due.mk ?_); (first | with_reducible rfl | omega | assumption | decide | ((try simp only [goS] at *) <;> (try intro h) <;> (try intro h') <;> (try simp only [goS] at *) <;> (try simp only [rdi, rdy, Int.toNat_natCast, Nat.add_zero] at *) <;> (try simp only [rng]) <;> (first | assumption | omega)) | (exact due_app0 (by omega)) | (exact due_app (by omega)) | (intros; simp; done) | (intros; simp; omega)))
      | with_reducible refine Due.mk ?_
      | omega)
  have sk := str_size (tab k (dgF a))
  rw [tab_len] at sk
  rcases Nat.lt_or_ge k n with hk2 | hk2
  · have m1 := rMod_c (a.getD k 0) 10 (by have := bl k; unfold Due; omega)
    have gk : (a.take n).getD k 0 = a.getD k 0 := by
      rw [List.getD_eq_getElem?_getD, List.getElem?_take, if_pos hk2, ← List.getD_eq_getElem?_getD]
    have m1' : TC R Try.prog R2_Mod_f [.int .i64 ((a.take n).getD k 0), .int .i64 10] [] (fun v X => v = .int .i64 (a.getD k 0 % 10) ∧ X = []) := by rw [gk]; exact m1
    have u1 : (48 + a.getD k 0 % 10) % 256 = 48 + a.getD k 0 % 10 := by omega
    have nx : strOfNums (tab (k + 1) (dgF a)) = strOfNums (tab k (dgF a)) ++ strOfNums (cut [(48 + a.getD k 0 % 10) % 256] 0 1) := by
      rw [str_app, cut_one, u1, tab_succ]; rfl
    have s1 : (strOfNums (cut [(48 + a.getD k 0 % 10) % 256] 0 1)).size = 1 := str_size _
    have dz : (((strOfNums (tab k (dgF a))).size + (strOfNums (cut [(48 + a.getD k 0 % 10) % 256] 0 1)).size : Nat) : Int) ≤ 9223372036854775807 := by rw [sk, s1]; omega
    repeat' (first
      | ((with_reducible refine TOps.any ?_); refine TOps.callV env (by rfl) (by rfl) (by rfl) (m1') ?_)
      | exact dz
      | with_reducible first | refine Tw.seq ?_ | refine Tw.reg ?_ | refine Tw.block ?_ | refine Tw.scope ?_ | refine Tw.skip ?_ | refine Tw.exit ?_ | refine Tw.ret ?_ | refine seqN ?_ | refine seqR ?_ | refine seqE ?_ | refine rndN ?_ | refine blkN ?_ | refine blkR ?_ | refine blkE1 ?_ | refine blkE0 (by kernel_rfl) ?_ | refine scpN ?_ | refine scpR ?_ | refine scpE ?_ | refine TOps.nil ?_ | exact Conj.nil | refine Conj.cons rfl ?_ | refine Conj.same ?_ | refine Conj.ask ?_ ?_ | refine Tw.regd env ?_ | refine TDr.nil ⟨by kernel_rfl, ?_⟩
      | ((with_reducible refine TOps.any ?_); first | refine TOps.frunP env (by rfl) (by rfl) ?_ ?_ | (refine TOps.known (by rfl) ?_; refine TOps.strip env (by rfl) (by rfl) ?_ ?_) | refine TOps.on (by rfl) (by rfl) ?_)
      | ((with_reducible refine TDr.any ?_); refine TDr.frunP env (by rfl) (by rfl) ?_ ?_)
      | ((with_reducible refine Tw.any ?_); first | refine Tw.condT (by rfl) ?_ | refine Tw.condF (by rfl) ?_)
      | ((first | ((with_reducible refine TOps.any ?_); (fail_if_success refine TOps.known (by rfl) ?_); refine TOps.ask (by rfl) (fun h => ?_) (fun h => ?_)) | ((with_reducible refine TDr.any ?_); (fail_if_success refine TDr.known (by first | rfl | assumption) ?_); refine TDr.ask (by rfl) (fun h hk => ?_) (fun h => ?_)) | ((with_reducible refine Tw.any ?_); refine Tw.cond (by rfl) (fun h => ?_) (fun h => ?_))) <;> (try simp only [goS] at h) <;> (try simp only [rdi, rdy, Int.toNat_natCast, Nat.add_zero] at h))
      | ((with_reducible refine tret.any ?_); first | refine tret.ok (by rfl) ?_ | refine tret.okN (by rfl) ?_)
      | ((with_reducible refine Due.mk ?_); (first | with_reducible rfl | omega | assumption | decide | ((try simp only [goS] at *) <;> (try intro h) <;> (try intro h') <;> (try simp only [goS] at *) <;> (try simp only [rdi, rdy, Int.toNat_natCast, Nat.add_zero] at *) <;> (try simp only [rng]) <;> (first | assumption | omega)) | (exact due_app0 (by omega)) | (exact due_app (by omega)) | (intros; simp; done) | (intros; simp; omega)))
      | with_reducible refine Due.mk ?_
      | omega)
    refine ⟨k + 1, by omega, by omega, TWk.fcanon env [] (by rfl) ?_⟩
    repeat' (first
      | exact nx
      | with_reducible first | exact Conj.nil | refine Conj.cons rfl ?_ | refine Conj.same ?_ | refine Conj.ask ?_ ?_
      | ((with_reducible refine Due.mk ?_); (first | with_reducible rfl | omega | assumption | decide | ((try simp only [goS] at *) <;> (try intro h) <;> (try intro h') <;> (try simp only [goS] at *) <;> (try simp only [rdi, rdy, Int.toNat_natCast, Nat.add_zero] at *) <;> (try simp only [rng]) <;> (first | assumption | omega)) | (exact due_app0 (by omega)) | (exact due_app (by omega)) | (intros; simp; done) | (intros; simp; omega)))
      | with_reducible refine Due.mk ?_
      | omega)
  · obtain rfl : k = n := by omega
    by_cases h0 : min a.length 20 = 0
    · have k0 : k = 0 := by omega
      have ed : dgs a = [55] := if_pos h0
      rw [ed, k0]
      have e0 : strOfNums (tab 0 (dgF a)) = ⟨#[]⟩ := rfl
      rw [e0]
      repeat' (first
        | with_reducible first | refine Tw.seq ?_ | refine Tw.reg ?_ | refine Tw.block ?_ | refine Tw.scope ?_ | refine Tw.skip ?_ | refine Tw.exit ?_ | refine Tw.ret ?_ | refine seqN ?_ | refine seqR ?_ | refine seqE ?_ | refine rndN ?_ | refine blkN ?_ | refine blkR ?_ | refine blkE1 ?_ | refine blkE0 (by kernel_rfl) ?_ | refine scpN ?_ | refine scpR ?_ | refine scpE ?_ | refine TOps.nil ?_ | exact Conj.nil | refine Conj.cons rfl ?_ | refine Conj.same ?_ | refine Conj.ask ?_ ?_ | refine Tw.regd env ?_ | refine TDr.nil ⟨by kernel_rfl, ?_⟩
        | ((with_reducible refine TOps.any ?_); first | refine TOps.frunP env (by rfl) (by rfl) ?_ ?_ | (refine TOps.known (by rfl) ?_; refine TOps.strip env (by rfl) (by rfl) ?_ ?_) | refine TOps.on (by rfl) (by rfl) ?_)
        | ((with_reducible refine TDr.any ?_); refine TDr.frunP env (by rfl) (by rfl) ?_ ?_)
        | ((with_reducible refine Tw.any ?_); first | refine Tw.condT (by rfl) ?_ | refine Tw.condF (by rfl) ?_)
        | ((first | ((with_reducible refine TOps.any ?_); (fail_if_success refine TOps.known (by rfl) ?_); refine TOps.ask (by rfl) (fun h => ?_) (fun h => ?_)) | ((with_reducible refine TDr.any ?_); (fail_if_success refine TDr.known (by first | rfl | assumption) ?_); refine TDr.ask (by rfl) (fun h hk => ?_) (fun h => ?_)) | ((with_reducible refine Tw.any ?_); refine Tw.cond (by rfl) (fun h => ?_) (fun h => ?_))) <;> (try simp only [goS] at h) <;> (try simp only [rdi, rdy, Int.toNat_natCast, Nat.add_zero] at h) <;> (try (exfalso; (try simp only [goP, reduceCtorEq] at h) <;> (first | assumption | omega | contradiction | (rcases h with ⟨_, _⟩ <;> first | contradiction | omega) | (rcases h with h | h <;> first | contradiction | omega)))))
        | ((with_reducible refine tret.any ?_); first | refine tret.ok (by rfl) ?_ | refine tret.okN (by rfl) ?_)
        | ((with_reducible refine Due.mk ?_); (first | with_reducible rfl | omega | assumption | decide | ((try simp only [goS] at *) <;> (try intro h) <;> (try intro h') <;> (try simp only [goS] at *) <;> (try simp only [rdi, rdy, Int.toNat_natCast, Nat.add_zero] at *) <;> (try simp only [rng]) <;> (first | assumption | omega)) | (exact due_app0 (by omega)) | (exact due_app (by omega)) | (intros; simp; done) | (intros; simp; omega)))
        | with_reducible refine Due.mk ?_
        | omega)
      exact ⟨rfl, rfl, rfl⟩
    · have ed : dgs a = tab k (dgF a) := by unfold dgs; rw [if_neg h0, ← hn]
      rw [ed]
      have ne : ¬ strOfNums (tab k (dgF a)) = ⟨#[]⟩ := fun h => by
        rw [h] at sk
        have : (⟨#[]⟩ : ByteArray).size = 0 := rfl
        omega
      repeat' (first
        | with_reducible first | refine Tw.seq ?_ | refine Tw.reg ?_ | refine Tw.block ?_ | refine Tw.scope ?_ | refine Tw.skip ?_ | refine Tw.exit ?_ | refine Tw.ret ?_ | refine seqN ?_ | refine seqR ?_ | refine seqE ?_ | refine rndN ?_ | refine blkN ?_ | refine blkR ?_ | refine blkE1 ?_ | refine blkE0 (by kernel_rfl) ?_ | refine scpN ?_ | refine scpR ?_ | refine scpE ?_ | refine TOps.nil ?_ | exact Conj.nil | refine Conj.cons rfl ?_ | refine Conj.same ?_ | refine Conj.ask ?_ ?_ | refine Tw.regd env ?_ | refine TDr.nil ⟨by kernel_rfl, ?_⟩
        | ((with_reducible refine TOps.any ?_); first | refine TOps.frunP env (by rfl) (by rfl) ?_ ?_ | (refine TOps.known (by rfl) ?_; refine TOps.strip env (by rfl) (by rfl) ?_ ?_) | refine TOps.on (by rfl) (by rfl) ?_)
        | ((with_reducible refine TDr.any ?_); refine TDr.frunP env (by rfl) (by rfl) ?_ ?_)
        | ((with_reducible refine Tw.any ?_); first | refine Tw.condT (by rfl) ?_ | refine Tw.condF (by rfl) ?_)
        | ((first | ((with_reducible refine TOps.any ?_); (fail_if_success refine TOps.known (by rfl) ?_); refine TOps.ask (by rfl) (fun h => ?_) (fun h => ?_)) | ((with_reducible refine TDr.any ?_); (fail_if_success refine TDr.known (by first | rfl | assumption) ?_); refine TDr.ask (by rfl) (fun h hk => ?_) (fun h => ?_)) | ((with_reducible refine Tw.any ?_); refine Tw.cond (by rfl) (fun h => ?_) (fun h => ?_))) <;> (try simp only [goS] at h) <;> (try simp only [rdi, rdy, ne, Int.toNat_natCast, Nat.add_zero] at h) <;> (try (exfalso; (try simp only [goP, reduceCtorEq] at h) <;> (first | assumption | omega | contradiction | (rcases h with ⟨_, _⟩ <;> first | contradiction | omega) | (rcases h with h | h <;> first | contradiction | omega)))))
        | ((with_reducible refine tret.any ?_); first | refine tret.ok (by rfl) ?_ | refine tret.okN (by rfl) ?_)
        | ((with_reducible refine Due.mk ?_); (first | with_reducible rfl | omega | assumption | decide | ((try simp only [goS] at *) <;> (try intro h) <;> (try intro h') <;> (try simp only [goS] at *) <;> (try simp only [rdi, rdy, ne, Int.toNat_natCast, Nat.add_zero] at *) <;> (try simp only [rng]) <;> (first | assumption | omega)) | (exact due_app0 (by omega)) | (exact due_app (by omega)) | (intros; simp; done) | (intros; simp; omega)))
        | with_reducible refine Due.mk ?_
        | omega)
      exact ⟨rfl, rfl, rfl⟩

theorem wd_of {l w : List Int} (hl : 1 ≤ l.length ∧ l.length ≤ 20) (hlen : w.length = 6 * ((vals l).length + 3) + 1) (hb : ∀ i, i < w.length → 1 ≤ w.getD i 0 ∧ w.getD i 0 ≤ 1024) : WdOk w ((vals l).length + 3) :=
  ⟨by have := vals_len hl; omega, hlen, hb⟩
theorem vals_tab {l : List Int} : vals l = tab ((vals l).length + 3 - 3) fun i => GV l (i + 1) :=
  is_tab 0 (by omega) fun i hi => by rw [GV_vals (by omega)]
theorem read_ok (l : List Int) (hd : Dig l) (hl : 1 ≤ l.length ∧ l.length ≤ 20) (w : List Int) (s g : Int) (hs : 0 < s) (hg : Grp w ((vals l).length + 3) (GV l) s g) (hlen : w.length = 6 * ((vals l).length + 3) + 1) (hb : ∀ i, i < w.length → 1 ≤ w.getD i 0 ∧ w.getD i 0 ≤ 1024) :
    TC R Try.prog linear_Decode_f [.lst Ei w] [] (fun v X => v = .tup [.str (strOfNums l), .int .i64 0] ∧ X = []) :=
  decode_ok w _ (GV l) (wd_of hl hlen hb) (fun i hi => grp_val hs hg (fun i hi => GV_bd hd hi) hi) (fun i hi => GV_bd hd hi) rfl GV_stop (vals l) l vals_tab GV_chk.symm hd hl rfl
end Go.Proofs.Ytbfflfinhigfeaa
