/- The law LinearSubstitutions. -/
import Derived.Test.YtbfflfinhigfeaaLinW
import Derived.Test.YtbfflfinhigfeaaXLinearSubstitutions0
namespace Go.Proofs.Ytbfflfinhigfeaa
open Go Go.Lite
set_option linter.unusedVariables false
set_option linter.unusedSimpArgs false
set_option maxRecDepth 100000
set_option maxHeartbeats 4000000
-- @simp rdi rdy

/-- The sum with one value replaced. -/
theorem wsum_set {l : List Int} {j : Nat} {x : Int} (hj : j < l.length) : ∀ k, wsum (l.set j x) k = wsum l k + (if j < k then ((j : Int) + 1) * (x - l.getD j 0) else 0)
  | 0 => by simp [wsum]
  | k + 1 => by
    simp only [wsum]
    rw [wsum_set hj k]
    by_cases e : j = k
    · subst e
      rw [getD_set_eq hj, if_neg (by omega), if_pos (by omega)]
      grind
    · rw [getD_set_ne e]
      by_cases h : j < k
      · rw [if_pos h, if_pos (by omega)]; omega
      · rw [if_neg h, if_neg (by omega)]; omega
theorem prime101 : ∀ a : Fin 12, ∀ d : Fin 201, a.val ≠ 0 → d.val ≠ 100 → ((a.val : Int) * ((d.val : Int) - 100)) % 101 ≠ 0 := by decide +kernel
theorem chk_set {l : List Int} {j : Nat} {x : Int} (hj : j < l.length) (hl : l.length ≤ 11) (hx : 0 ≤ x ∧ x ≤ 100) (hb : 0 ≤ l.getD j 0 ∧ l.getD j 0 ≤ 100) (hne : x ≠ l.getD j 0) : chk (l.set j x) ≠ chk l := by
  unfold chk
  rw [List.length_set, wsum_set hj, if_pos hj]
  have h := prime101 ⟨j + 1, by omega⟩ ⟨(x - l.getD j 0 + 100).toNat, by omega⟩ (by simp) (by simp only; omega)
  simp only at h
  have e1 : (((x - l.getD j 0 + 100).toNat : Nat) : Int) - 100 = x - l.getD j 0 := by omega
  have e2 : (((j + 1 : Nat)) : Int) = (j : Int) + 1 := by omega
  rw [e1, e2] at h
  generalize ((j : Int) + 1) * (x - l.getD j 0) = d at *
  omega
/-- One group replaced. -/
def GS (l : List Int) (κ : Nat) (x : Int) (i : Nat) : Int := if i = κ then x else GV l i

theorem GS_sum {l : List Int} (hd : Dig l) (hl : 1 ≤ l.length ∧ l.length ≤ 20) {κ : Nat} {x : Int} (hκ : 1 ≤ κ ∧ κ ≤ (vals l).length + 1) (hx : 0 ≤ x ∧ x ≤ 100) (hne : x ≠ GV l κ) (V : List Int) (hV : V = tab (vals l).length fun i => GS l κ x (i + 1)) :
    chk V ≠ GS l κ x ((vals l).length + 1) := by
  have vl := vals_len hl
  rcases Nat.lt_or_ge (vals l).length κ with h | h
  · obtain rfl : κ = (vals l).length + 1 := by omega
    have e : V = vals l := by
      rw [hV]
      refine (is_tab 0 rfl fun i hi => ?_).symm
      unfold GS
      rw [if_neg (by omega), GV_vals hi]
    rw [e]
    unfold GS
    rw [if_pos rfl]
    rw [GV_chk] at hne
    exact fun h => hne h.symm
  · obtain ⟨j, rfl⟩ : ∃ j, κ = j + 1 := ⟨κ - 1, by omega⟩
    have e : V = (vals l).set j x := by
      rw [hV]
      refine (is_tab 0 (List.length_set ..) fun i hi => ?_).symm
      unfold GS
      by_cases e : j = i
      · subst e; rw [getD_set_eq (by omega), if_pos rfl]
      · rw [getD_set_ne e, if_neg (by omega), GV_vals hi]
    rw [e]
    unfold GS
    rw [if_neg (by omega), GV_chk]
    rw [GV_vals (by omega)] at hne
    exact chk_set (by omega) vl.2 hx (vals_bd hd j (by omega)) hne
theorem LinearSubstitutions_law (a : List Int) (at0 by0 : Int) (wa : a.length ≤ 9223372036854775807 ∧ ∀ y ∈ a, Wi y) (ra : rng .i64 at0) (rb : rng .i64 by0) :
    TC R Try.prog K2_LinearSubstitutions_f [.lst Ei a, .int .i64 at0, .int .i64 by0] [] (fun v X => v = .bool true ∧ X = []) := by
  have ra' : -9223372036854775808 ≤ at0 ∧ at0 ≤ 9223372036854775807 := ra
  have rb' : -9223372036854775808 ≤ by0 ∧ by0 ≤ 9223372036854775807 := rb
  have do1 := digitsOf_c a wa
  have hd := dgs_dig a
  have hl := dgs_len a
  generalize dgs a = l at *
  have ec := encode_c l hd hl
  have cl := code_len (l := l)
  have cg := fun i k => code_get (l := l) (i := i) (k := k)
  have cb := code_bd hd
  have vl := vals_len hl
  obtain ⟨m, hm⟩ : ∃ m, m = (vals l).length + 3 := ⟨_, rfl⟩
  rw [← hm] at cl
  have m2 := rMod_c by0 101 (by unfold Due; omega)
  obtain ⟨x, hx⟩ : ∃ x, x = by0 % 101 := ⟨_, rfl⟩
  have hx2 : 0 ≤ x ∧ x ≤ 100 := by omega
  rw [← hx] at m2
  have pc := pattern_c x (by omega)
  obtain ⟨n, hn⟩ : ∃ n, n = (code l).length := ⟨_, rfl⟩
  have q1 : quo ((n : Int) - 1) 6 = (m : Int) := by rw [quo_nn (by omega)]; omega
  have q2 : rem (n : Int) 6 = 1 := by rw [rem_nn (by omega)]; omega
  have m1 := rMod_c at0 ((m : Int) - 2) (by unfold Due; omega)
  have gb1 := Int.emod_nonneg at0 (show (m : Int) - 2 ≠ 0 by omega)
  have gb2 := Int.emod_lt_of_pos at0 (show 0 < (m : Int) - 2 by omega)
  obtain ⟨κ, hκ⟩ : ∃ κ : Nat, 1 + at0 % ((m : Int) - 2) = κ := ⟨(1 + at0 % ((m : Int) - 2)).toNat, by omega⟩
  have hκ2 : 1 ≤ κ ∧ κ ≤ m - 2 := by omega
  have m1' : TC R Try.prog R2_Mod_f [.int .i64 at0, .int .i64 (quo ((n : Int) - 1) 6 - 2)] [] (fun v X => v = .int .i64 ((κ : Int) - 1) ∧ X = []) := by
    rw [q1, show (κ : Int) - 1 = at0 % ((m : Int) - 2) by omega]; exact m1
  rw [← hn] at ec cl cb
  generalize code l = C at *
  obtain ⟨o, ho⟩ : ∃ o, o + 1 = 6 * κ := ⟨6 * κ - 1, by omega⟩
  have o1 : (6 * (1 + ((κ : Int) - 1))).toNat = o + 1 := by omega
  have o2 : (6 * (1 + ((κ : Int) - 1)) + 6).toNat = o + 1 + 6 := by omega
  have lpx : (pat x).length = 6 := pat_len
  have si : TC R Try.prog R2_SameInts_f [.lst Ei (pat x), .lst Ei (cut C (o + 1 + 0) (o + 1 + 6 - (o + 1)))] [] (fun v X => v = .bool (decide (pat x = cut C (6 * κ) 6)) ∧ X = []) := by
    rw [Nat.add_zero, Nat.add_sub_cancel_left, ← ho]
    exact sameInts_c _ _ (by unfold Due; rw [lpx]; decide)
  refine tc0 env K2_LinearSubstitutions_s (by rfl) ?_
  dsimp only [K2_LinearSubstitutions_c]
  by_cases hq : pat x = cut C (6 * κ) 6
  · rw [decide_eq_true hq] at si
    repeat' (first
      | ((with_reducible refine TOps.any ?_); refine TOps.callV env (by rfl) (by rfl) (by rfl) (works_c) ?_)
      | ((with_reducible refine TOps.any ?_); refine TOps.callV env (by rfl) (by rfl) (by rfl) (do1) ?_)
      | ((with_reducible refine TOps.any ?_); refine TOps.callV env (by rfl) (by rfl) (by rfl) (ec) ?_)
      | ((with_reducible refine TOps.any ?_); refine TOps.callV env (by rfl) (by rfl) (by rfl) (m1') ?_)
      | ((with_reducible refine TOps.any ?_); refine TOps.callV env (by rfl) (by rfl) (by rfl) (m2) ?_)
      | ((with_reducible refine TOps.any ?_); refine TOps.callV env (by rfl) (by rfl) (by rfl) (pc) ?_)
      | with_reducible first | refine Tw.seq ?_ | refine Tw.reg ?_ | refine Tw.block ?_ | refine Tw.scope ?_ | refine Tw.skip ?_ | refine Tw.exit ?_ | refine Tw.ret ?_ | refine seqN ?_ | refine seqR ?_ | refine seqE ?_ | refine rndN ?_ | refine blkN ?_ | refine blkR ?_ | refine blkE1 ?_ | refine blkE0 (by kernel_rfl) ?_ | refine scpN ?_ | refine scpR ?_ | refine scpE ?_ | refine TOps.nil ?_ | exact Conj.nil | refine Conj.cons rfl ?_ | refine Conj.same ?_ | refine Conj.ask ?_ ?_ | refine Tw.regd env ?_ | refine TDr.nil ⟨by kernel_rfl, ?_⟩
      | ((with_reducible refine TOps.any ?_); first | refine TOps.frunP env (by rfl) (by rfl) ?_ ?_ | (refine TOps.known (by rfl) ?_; refine TOps.strip env (by rfl) (by rfl) ?_ ?_) | refine TOps.on (by rfl) (by rfl) ?_)
      | ((with_reducible refine TDr.any ?_); refine TDr.frunP env (by rfl) (by rfl) ?_ ?_)
      | ((with_reducible refine Tw.any ?_); first | refine Tw.condT (by rfl) ?_ | refine Tw.condF (by rfl) ?_)
      | ((first | ((with_reducible refine TOps.any ?_); (fail_if_success refine TOps.known (by rfl) ?_); refine TOps.ask (by rfl) (fun h => ?_) (fun h => ?_)) | ((with_reducible refine TDr.any ?_); (fail_if_success refine TDr.known (by first | rfl | assumption) ?_); refine TDr.ask (by rfl) (fun h hk => ?_) (fun h => ?_)) | ((with_reducible refine Tw.any ?_); refine Tw.cond (by rfl) (fun h => ?_) (fun h => ?_))) <;> (try simp only [goS] at h) <;> (try simp only [rdi, rdy, q1, q2, lpx, o1, o2, Int.toNat_natCast, Nat.add_zero] at h) <;> (try (exfalso; (try simp only [goP, reduceCtorEq] at h) <;> (first | assumption | omega | contradiction | (rcases h with ⟨_, _⟩ <;> first | contradiction | omega) | (rcases h with h | h <;> first | contradiction | omega)))))
      | ((with_reducible refine tret.any ?_); first | refine tret.ok (by rfl) ?_ | refine tret.okN (by rfl) ?_)
      | ((with_reducible refine Due.mk ?_); (first | with_reducible rfl | omega | assumption | decide | ((try simp only [goS] at *) <;> (try intro h) <;> (try intro h') <;> (try simp only [goS] at *) <;> (try simp only [rdi, rdy, q1, q2, lpx, o1, o2, Int.toNat_natCast, Nat.add_zero] at *) <;> (try simp only [rng]) <;> (first | assumption | omega)) | (exact due_app0 (by omega)) | (exact due_app (by omega)) | (intros; simp; done) | (intros; simp; omega)))
      | with_reducible refine Due.mk ?_
      | omega)
    rw [o1, o2]
    repeat' (first
      | ((with_reducible refine TOps.any ?_); refine TOps.callE env (by rfl) (by rfl) (by rfl) ?_ (si) (by rfl) ?_)
      | with_reducible first | refine Tw.seq ?_ | refine Tw.reg ?_ | refine Tw.block ?_ | refine Tw.scope ?_ | refine Tw.skip ?_ | refine Tw.exit ?_ | refine Tw.ret ?_ | refine seqN ?_ | refine seqR ?_ | refine seqE ?_ | refine rndN ?_ | refine blkN ?_ | refine blkR ?_ | refine blkE1 ?_ | refine blkE0 (by kernel_rfl) ?_ | refine scpN ?_ | refine scpR ?_ | refine scpE ?_ | refine TOps.nil ?_ | exact Conj.nil | refine Conj.cons rfl ?_ | refine Conj.same ?_ | refine Conj.ask ?_ ?_ | refine Tw.regd env ?_ | refine TDr.nil ⟨by kernel_rfl, ?_⟩
      | ((with_reducible refine TOps.any ?_); first | refine TOps.frunP env (by rfl) (by rfl) ?_ ?_ | (refine TOps.known (by rfl) ?_; refine TOps.strip env (by rfl) (by rfl) ?_ ?_) | refine TOps.on (by rfl) (by rfl) ?_)
      | ((with_reducible refine TDr.any ?_); refine TDr.frunP env (by rfl) (by rfl) ?_ ?_)
      | ((with_reducible refine Tw.any ?_); first | refine Tw.condT (by rfl) ?_ | refine Tw.condF (by rfl) ?_)
      | ((first | ((with_reducible refine TOps.any ?_); (fail_if_success refine TOps.known (by rfl) ?_); refine TOps.ask (by rfl) (fun h => ?_) (fun h => ?_)) | ((with_reducible refine TDr.any ?_); (fail_if_success refine TDr.known (by first | rfl | assumption) ?_); refine TDr.ask (by rfl) (fun h hk => ?_) (fun h => ?_)) | ((with_reducible refine Tw.any ?_); refine Tw.cond (by rfl) (fun h => ?_) (fun h => ?_))) <;> (try simp only [goS] at h) <;> (try simp only [rdi, rdy, q1, q2, lpx, o1, o2, Int.toNat_natCast, Nat.add_zero] at h) <;> (try (exfalso; (try simp only [goP, reduceCtorEq] at h) <;> (first | assumption | omega | contradiction | (rcases h with ⟨_, _⟩ <;> first | contradiction | omega) | (rcases h with h | h <;> first | contradiction | omega)))))
      | ((with_reducible refine tret.any ?_); first | refine tret.ok (by rfl) ?_ | refine tret.okN (by rfl) ?_)
      | ((with_reducible refine Due.mk ?_); (first | with_reducible rfl | omega | assumption | decide | ((try simp only [goS] at *) <;> (try intro h) <;> (try intro h') <;> (try simp only [goS] at *) <;> (try simp only [rdi, rdy, q1, q2, lpx, o1, o2, Int.toNat_natCast, Nat.add_zero] at *) <;> (try simp only [rng]) <;> (first | assumption | omega)) | (exact due_app0 (by omega)) | (exact due_app (by omega)) | (intros; simp; done) | (intros; simp; omega)))
      | with_reducible refine Due.mk ?_
      | omega)
    exact ⟨rfl, rfl, rfl⟩
  · rw [decide_eq_false hq] at si
    have hne : x ≠ GV l κ := fun e => hq (ext_getD 0 (by rw [lpx, cut_length (by omega)]) fun k hk => by
      rw [lpx] at hk
      rw [cut_eq, getD_sub hk, cg κ k (by omega) hk, e])
    obtain ⟨C2, hC2⟩ : ∃ C2, C2 = spl C (pat x) (6 * κ) := ⟨_, rfl⟩
    have l2 : C2.length = n := by rw [hC2, spl_len (by rw [lpx]; omega), ← hn]
    have gs : ∀ i, i < m → ∀ k, k < 6 → C2.getD (6 * i + k) 0 = (pat (GS l κ x i)).getD k 0 := fun i hi k hk => by
      rw [hC2]
      unfold GS
      by_cases e : i = κ
      · subst e
        rw [spl_in (by rw [lpx]; omega) (by rw [lpx]; omega), if_pos rfl, Nat.add_sub_cancel_left]
      · rw [spl_out (by rw [lpx]; omega) (by rw [lpx]; omega), if_neg e, cg i k (by omega) hk]
    have grp : Grp C2 m (GS l κ x) 1 0 := fun i hi k hk => by
      rw [gs i hi k hk]; split <;> omega
    have gb : ∀ i, i < m → 0 ≤ GS l κ x i ∧ GS l κ x i ≤ 102 := fun i hi => by
      unfold GS
      split
      · omega
      · exact GV_bd hd (by omega)
    have b2 : ∀ i, i < C2.length → 1 ≤ C2.getD i 0 ∧ C2.getD i 0 ≤ 1024 := fun i hi => by
      rw [l2] at hi
      rcases Nat.lt_or_ge i (6 * m) with h | h
      · have g1 := gs (i / 6) (by omega) (i % 6) (by omega)
        rw [show 6 * (i / 6) + i % 6 = i by omega] at g1
        have g2 := gb (i / 6) (by omega)
        rw [g1]
        obtain ⟨v, hv⟩ : ∃ v : Nat, GS l κ x (i / 6) = v := ⟨(GS l κ x (i / 6)).toNat, by omega⟩
        rw [hv]
        have := pat_rng v (by omega) (i % 6) (by omega)
        omega
      · rw [hC2, spl_out (by rw [lpx]; omega) (by rw [lpx]; omega)]
        have := cb i (by omega)
        omega
    have wd : WdOk C2 m := by rw [hm]; exact wd_of hl (by rw [l2, cl, hm]) b2
    have ds := decode_sum C2 m (GS l κ x) wd (fun i hi => grp_val (by omega) grp gb hi) gb (by unfold GS; rw [if_neg (by omega)]; rfl) (by unfold GS; rw [if_neg (by omega), hm]; exact GV_stop) (tab (m - 3) fun i => GS l κ x (i + 1)) rfl
      (by
        have h := GS_sum hd hl (κ := κ) (x := x) (by omega) hx2 hne (tab (m - 3) fun i => GS l κ x (i + 1)) (by rw [hm]; rfl)
        rw [hm] at h ⊢
        exact h)
    repeat' (first
      | ((with_reducible refine TOps.any ?_); refine TOps.callV env (by rfl) (by rfl) (by rfl) (works_c) ?_)
      | ((with_reducible refine TOps.any ?_); refine TOps.callV env (by rfl) (by rfl) (by rfl) (do1) ?_)
      | ((with_reducible refine TOps.any ?_); refine TOps.callV env (by rfl) (by rfl) (by rfl) (ec) ?_)
      | ((with_reducible refine TOps.any ?_); refine TOps.callV env (by rfl) (by rfl) (by rfl) (m1') ?_)
      | ((with_reducible refine TOps.any ?_); refine TOps.callV env (by rfl) (by rfl) (by rfl) (m2) ?_)
      | ((with_reducible refine TOps.any ?_); refine TOps.callV env (by rfl) (by rfl) (by rfl) (pc) ?_)
      | with_reducible first | refine Tw.seq ?_ | refine Tw.reg ?_ | refine Tw.block ?_ | refine Tw.scope ?_ | refine Tw.skip ?_ | refine Tw.exit ?_ | refine Tw.ret ?_ | refine seqN ?_ | refine seqR ?_ | refine seqE ?_ | refine rndN ?_ | refine blkN ?_ | refine blkR ?_ | refine blkE1 ?_ | refine blkE0 (by kernel_rfl) ?_ | refine scpN ?_ | refine scpR ?_ | refine scpE ?_ | refine TOps.nil ?_ | exact Conj.nil | refine Conj.cons rfl ?_ | refine Conj.same ?_ | refine Conj.ask ?_ ?_ | refine Tw.regd env ?_ | refine TDr.nil ⟨by kernel_rfl, ?_⟩
      | ((with_reducible refine TOps.any ?_); first | refine TOps.frunP env (by rfl) (by rfl) ?_ ?_ | (refine TOps.known (by rfl) ?_; refine TOps.strip env (by rfl) (by rfl) ?_ ?_) | refine TOps.on (by rfl) (by rfl) ?_)
      | ((with_reducible refine TDr.any ?_); refine TDr.frunP env (by rfl) (by rfl) ?_ ?_)
      | ((with_reducible refine Tw.any ?_); first | refine Tw.condT (by rfl) ?_ | refine Tw.condF (by rfl) ?_)
      | ((first | ((with_reducible refine TOps.any ?_); (fail_if_success refine TOps.known (by rfl) ?_); refine TOps.ask (by rfl) (fun h => ?_) (fun h => ?_)) | ((with_reducible refine TDr.any ?_); (fail_if_success refine TDr.known (by first | rfl | assumption) ?_); refine TDr.ask (by rfl) (fun h hk => ?_) (fun h => ?_)) | ((with_reducible refine Tw.any ?_); refine Tw.cond (by rfl) (fun h => ?_) (fun h => ?_))) <;> (try simp only [goS] at h) <;> (try simp only [rdi, rdy, q1, q2, lpx, o1, o2, Int.toNat_natCast, Nat.add_zero] at h) <;> (try (exfalso; (try simp only [goP, reduceCtorEq] at h) <;> (first | assumption | omega | contradiction | (rcases h with ⟨_, _⟩ <;> first | contradiction | omega) | (rcases h with h | h <;> first | contradiction | omega)))))
      | ((with_reducible refine tret.any ?_); first | refine tret.ok (by rfl) ?_ | refine tret.okN (by rfl) ?_)
      | ((with_reducible refine Due.mk ?_); (first | with_reducible rfl | omega | assumption | decide | ((try simp only [goS] at *) <;> (try intro h) <;> (try intro h') <;> (try simp only [goS] at *) <;> (try simp only [rdi, rdy, q1, q2, lpx, o1, o2, Int.toNat_natCast, Nat.add_zero] at *) <;> (try simp only [rng]) <;> (first | assumption | omega)) | (exact due_app0 (by omega)) | (exact due_app (by omega)) | (intros; simp; done) | (intros; simp; omega)))
      | with_reducible refine Due.mk ?_
      | omega)
    rw [o1, o2]
    repeat' (first
      | ((with_reducible refine TOps.any ?_); refine TOps.callE env (by rfl) (by rfl) (by rfl) ?_ (si) (by rfl) ?_)
      | with_reducible first | refine Tw.seq ?_ | refine Tw.reg ?_ | refine Tw.block ?_ | refine Tw.scope ?_ | refine Tw.skip ?_ | refine Tw.exit ?_ | refine Tw.ret ?_ | refine seqN ?_ | refine seqR ?_ | refine seqE ?_ | refine rndN ?_ | refine blkN ?_ | refine blkR ?_ | refine blkE1 ?_ | refine blkE0 (by kernel_rfl) ?_ | refine scpN ?_ | refine scpR ?_ | refine scpE ?_ | refine TOps.nil ?_ | exact Conj.nil | refine Conj.cons rfl ?_ | refine Conj.same ?_ | refine Conj.ask ?_ ?_ | refine Tw.regd env ?_ | refine TDr.nil ⟨by kernel_rfl, ?_⟩
      | ((with_reducible refine TOps.any ?_); first | refine TOps.frunP env (by rfl) (by rfl) ?_ ?_ | (refine TOps.known (by rfl) ?_; refine TOps.strip env (by rfl) (by rfl) ?_ ?_) | refine TOps.on (by rfl) (by rfl) ?_)
      | ((with_reducible refine TDr.any ?_); refine TDr.frunP env (by rfl) (by rfl) ?_ ?_)
      | ((with_reducible refine Tw.any ?_); first | refine Tw.condT (by rfl) ?_ | refine Tw.condF (by rfl) ?_)
      | ((first | ((with_reducible refine TOps.any ?_); (fail_if_success refine TOps.known (by rfl) ?_); refine TOps.ask (by rfl) (fun h => ?_) (fun h => ?_)) | ((with_reducible refine TDr.any ?_); (fail_if_success refine TDr.known (by first | rfl | assumption) ?_); refine TDr.ask (by rfl) (fun h hk => ?_) (fun h => ?_)) | ((with_reducible refine Tw.any ?_); refine Tw.cond (by rfl) (fun h => ?_) (fun h => ?_))) <;> (try simp only [goS] at h) <;> (try simp only [rdi, rdy, q1, q2, lpx, o1, o2, Int.toNat_natCast, Nat.add_zero] at h) <;> (try (exfalso; (try simp only [goP, reduceCtorEq] at h) <;> (first | assumption | omega | contradiction | (rcases h with ⟨_, _⟩ <;> first | contradiction | omega) | (rcases h with h | h <;> first | contradiction | omega)))))
      | ((with_reducible refine tret.any ?_); first | refine tret.ok (by rfl) ?_ | refine tret.okN (by rfl) ?_)
      | ((with_reducible refine Due.mk ?_); (first | with_reducible rfl | omega | assumption | decide | ((try simp only [goS] at *) <;> (try intro h) <;> (try intro h') <;> (try simp only [goS] at *) <;> (try simp only [rdi, rdy, q1, q2, lpx, o1, o2, Int.toNat_natCast, Nat.add_zero] at *) <;> (try simp only [rng]) <;> (first | assumption | omega)) | (exact due_app0 (by omega)) | (exact due_app (by omega)) | (intros; simp; done) | (intros; simp; omega)))
      | with_reducible refine Due.mk ?_
      | omega)
    have mn : (pat x).length.min (n - (6 * (1 + ((κ : Int) - 1))).toNat) = 6 := by
      rw [o1, lpx]
      show min 6 (n - (o + 1)) = 6
      omega
    have e7 : C.take ((6 * (1 + ((κ : Int) - 1))).toNat + 0) ++ (pat x).take ((pat x).length.min (n - (6 * (1 + ((κ : Int) - 1))).toNat)) ++ C.drop ((6 * (1 + ((κ : Int) - 1))).toNat + 0 + (pat x).length.min (n - (6 * (1 + ((κ : Int) - 1))).toNat)) = C2 := by
      rw [mn, o1, Nat.add_zero, hC2, List.take_of_length_le (l := pat x) (by rw [lpx]; omega), ho]
      unfold spl
      rw [lpx]
    refine TOps.frz env 0 (e := Ei) (xs := C2) (by rfl) (congrArg (fun z => some (TRow.arr Ei z)) e7) (by rfl) ?_ ?_ ?_
    · repeat' (first
        | with_reducible first | exact Conj.nil | refine Conj.cons rfl ?_ | refine Conj.same ?_ | refine Conj.ask ?_ ?_
        | ((with_reducible refine Due.mk ?_); (first | with_reducible rfl | omega | assumption | decide | ((try simp only [goS] at *) <;> (try intro h) <;> (try intro h') <;> (try simp only [goS] at *) <;> (try simp only [rdi, rdy, l2, o1, o2, Int.toNat_natCast, Nat.add_zero] at *) <;> (try simp only [rng]) <;> (first | assumption | omega)) | (exact due_app0 (by omega)) | (exact due_app (by omega)) | (intros; simp; done) | (intros; simp; omega)))
        | with_reducible refine Due.mk ?_
        | omega)
    · repeat' (first
        | with_reducible first | exact Conj.nil | refine Conj.cons rfl ?_ | refine Conj.same ?_ | refine Conj.ask ?_ ?_
        | ((with_reducible refine Due.mk ?_); (first | with_reducible rfl | omega | assumption | decide | ((try simp only [goS] at *) <;> (try intro h) <;> (try intro h') <;> (try simp only [goS] at *) <;> (try simp only [rdi, rdy, l2, o1, o2, Int.toNat_natCast, Nat.add_zero] at *) <;> (try simp only [rng]) <;> (first | assumption | omega)) | (exact due_app0 (by omega)) | (exact due_app (by omega)) | (intros; simp; done) | (intros; simp; omega)))
        | with_reducible refine Due.mk ?_
        | omega)
    rw [cut_all l2.symm]
    repeat' (first
      | ((with_reducible refine TOps.any ?_); refine TOps.callV env (by rfl) (by rfl) (by rfl) (ds) ?_)
      | with_reducible first | refine Tw.seq ?_ | refine Tw.reg ?_ | refine Tw.block ?_ | refine Tw.scope ?_ | refine Tw.skip ?_ | refine Tw.exit ?_ | refine Tw.ret ?_ | refine seqN ?_ | refine seqR ?_ | refine seqE ?_ | refine rndN ?_ | refine blkN ?_ | refine blkR ?_ | refine blkE1 ?_ | refine blkE0 (by kernel_rfl) ?_ | refine scpN ?_ | refine scpR ?_ | refine scpE ?_ | refine TOps.nil ?_ | exact Conj.nil | refine Conj.cons rfl ?_ | refine Conj.same ?_ | refine Conj.ask ?_ ?_ | refine Tw.regd env ?_ | refine TDr.nil ⟨by kernel_rfl, ?_⟩
      | ((with_reducible refine TOps.any ?_); first | refine TOps.frunP env (by rfl) (by rfl) ?_ ?_ | (refine TOps.known (by rfl) ?_; refine TOps.strip env (by rfl) (by rfl) ?_ ?_) | refine TOps.on (by rfl) (by rfl) ?_)
      | ((with_reducible refine TDr.any ?_); refine TDr.frunP env (by rfl) (by rfl) ?_ ?_)
      | ((with_reducible refine Tw.any ?_); first | refine Tw.condT (by rfl) ?_ | refine Tw.condF (by rfl) ?_)
      | ((first | ((with_reducible refine TOps.any ?_); (fail_if_success refine TOps.known (by rfl) ?_); refine TOps.ask (by rfl) (fun h => ?_) (fun h => ?_)) | ((with_reducible refine TDr.any ?_); (fail_if_success refine TDr.known (by first | rfl | assumption) ?_); refine TDr.ask (by rfl) (fun h hk => ?_) (fun h => ?_)) | ((with_reducible refine Tw.any ?_); refine Tw.cond (by rfl) (fun h => ?_) (fun h => ?_))) <;> (try simp only [goS] at h) <;> (try simp only [rdi, rdy, Int.toNat_natCast, Nat.add_zero] at h) <;> (try (exfalso; (try simp only [goP, reduceCtorEq] at h) <;> (first | assumption | omega | contradiction | (rcases h with ⟨_, _⟩ <;> first | contradiction | omega) | (rcases h with h | h <;> first | contradiction | omega)))))
      | ((with_reducible refine tret.any ?_); first | refine tret.ok (by rfl) ?_ | refine tret.okN (by rfl) ?_)
      | ((with_reducible refine Due.mk ?_); (first | with_reducible rfl | omega | assumption | decide | ((try simp only [goS] at *) <;> (try intro h) <;> (try intro h') <;> (try simp only [goS] at *) <;> (try simp only [rdi, rdy, Int.toNat_natCast, Nat.add_zero] at *) <;> (try simp only [rng]) <;> (first | assumption | omega)) | (exact due_app0 (by omega)) | (exact due_app (by omega)) | (intros; simp; done) | (intros; simp; omega)))
      | with_reducible refine Due.mk ?_
      | omega)
    refine ⟨rfl, congrArg TV.bool ?_, rfl⟩
    simp
end Go.Proofs.Ytbfflfinhigfeaa
