import Derived.Test.YtfgaefpdccdfiaaCurve2
namespace Go.Proofs.Ytfgaefpdccdfiaa
open Go Go.Lite
set_option linter.unusedVariables false
set_option linter.unusedSimpArgs false
set_option maxRecDepth 100000
set_option maxHeartbeats 4000000
-- @simp rd2i

theorem at_c (c : List (Int × Int)) (x : Int) : TC R Try.prog curve_At_f [.agg [.lst E2i c], .int .i64 x] [] (fun v X => v = .tup [.int .i64 (if check c = 0 ∧ 0 ≤ x ∧ x ≤ 65280 then raw c x else 0), .int .i64 (if check c = 0 then if 0 ≤ x ∧ x ≤ 65280 then 0 else 3 else check c)] ∧ X = []) := by
  refine tc0 env curve_At_s (by rfl) ?_
  dsimp only [curve_At_c]
  repeat' (first
    | ((with_reducible refine TOps.any ?_); refine TOps.callV env (by rfl) (by rfl) (by rfl) (check_c _) ?_)
    | ((with_reducible refine TOps.any ?_); refine TOps.callV env (by rfl) (by rfl) (by rfl) (raw_c _ _ (check_ok (by assumption)) ?_) ?_)
    | with_reducible first | refine Tw.seq ?_ | refine Tw.reg ?_ | refine Tw.block ?_ | refine Tw.scope ?_ | refine Tw.skip ?_ | refine Tw.exit ?_ | refine Tw.ret ?_ | refine seqN ?_ | refine seqR ?_ | refine seqE ?_ | refine blkN ?_ | refine blkR ?_ | refine blkE1 ?_ | refine blkE0 (by kernel_rfl) ?_ | refine scpN ?_ | refine scpR ?_ | refine scpE ?_ | refine TOps.nil ?_ | exact Conj.nil | refine Conj.cons rfl ?_ | refine Conj.same ?_ | refine Conj.ask ?_ ?_ | refine Tw.regd env ?_ | refine TDr.nil ⟨by kernel_rfl, ?_⟩
    | ((with_reducible refine TOps.any ?_); first | refine TOps.frunP env (by rfl) (by rfl) ?_ ?_ | refine TOps.strip env (by rfl) (by rfl) ?_ ?_)
    | ((with_reducible refine TDr.any ?_); refine TDr.frunP env (by rfl) (by rfl) ?_ ?_)
    | ((with_reducible refine Tw.any ?_); first | refine Tw.condT (by rfl) ?_ | refine Tw.condF (by rfl) ?_)
    | ((first | ((with_reducible refine TOps.any ?_); (fail_if_success refine TOps.known (by rfl) ?_); refine TOps.ask (by rfl) (fun h => ?_) (fun h => ?_)) | ((with_reducible refine TDr.any ?_); (fail_if_success refine TDr.known (by first | rfl | assumption) ?_); refine TDr.ask (by rfl) (fun h hk => ?_) (fun h => ?_)) | ((with_reducible refine Tw.any ?_); refine Tw.cond (by rfl) (fun h => ?_) (fun h => ?_))) <;> (try simp only [goS] at h) <;> (try simp only [rd2i, Int.toNat_natCast, Nat.add_zero] at h))
    | ((with_reducible refine tret.any ?_); first | refine tret.ok (by rfl) ?_ | refine tret.okN (by rfl) ?_)
    | ((with_reducible refine Due.mk ?_); (first | with_reducible rfl | omega | assumption | decide | ((try simp only [goS] at *) <;> (try intro h) <;> (try intro h') <;> (try simp only [goS] at *) <;> (try simp only [rd2i, Int.toNat_natCast, Nat.add_zero] at *) <;> (try simp only [rng]) <;> (first | assumption | omega)) | (exact due_app0 (by omega)) | (exact due_app (by omega)) | (intros; simp; done) | (intros; simp; omega)))
    | with_reducible refine Due.mk ?_
    | omega)
  · refine ⟨rfl, ?_, rfl⟩; rw [if_neg (by omega), if_neg (by omega)]
  · refine ⟨rfl, ?_, rfl⟩; rw [if_neg (by omega), if_pos (by omega), if_neg (by omega)]
  · refine ⟨rfl, ?_, rfl⟩; rw [if_pos (by omega), if_pos (by omega), if_pos (by omega)]

theorem near_mono {a b d : Int} (hd : 0 < d) (h : a ≤ b) : near a d ≤ near b d := Int.ediv_le_ediv (by omega) (by omega)
theorem near_full {k d : Int} (hd : 0 < d) : near (k * d) d = k := by
  unfold near
  refine div_is (q := k) (r := d) (by omega) (by rw [Int.mul_assoc, Int.mul_comm d k]) (by omega) (by omega)
theorem near_zero {d : Int} (hd : 0 < d) : near 0 d = 0 := by have := near_full (k := 0) hd; rwa [Int.zero_mul] at this

/-- The part of the curve that holds x. -/
theorem seg_has {c : List (Int × Int)} (v : Valid c) {x : Int} (hx : 0 ≤ x ∧ x ≤ 65280) : seg c x (c.length - 2) + 1 < c.length ∧ (c.getD (seg c x (c.length - 2)) (0, 0)).1 ≤ x ∧ x ≤ (c.getD (seg c x (c.length - 2) + 1) (0, 0)).1 := by
  have hl := v.len
  have key : ∀ n, n + 1 < c.length → seg c x n ≤ n ∧ (c.getD (seg c x n) (0, 0)).1 ≤ x ∧ (x ≤ (c.getD (n + 1) (0, 0)).1 → x ≤ (c.getD (seg c x n + 1) (0, 0)).1) := by
    intro n
    induction n with
    | zero => intro h; have := v.first; simp only [seg]; omega
    | succ n ih =>
      intro h
      simp only [seg]
      split
      · exact ⟨by omega, by assumption, id⟩
      · obtain ⟨h1, h2, h3⟩ := ih (by omega)
        exact ⟨by omega, h2, fun _ => h3 (by omega)⟩
  obtain ⟨h1, h2, h3⟩ := key (c.length - 2) (by omega)
  refine ⟨by omega, h2, h3 ?_⟩
  have := v.last
  rw [show c.length - 2 + 1 = c.length - 1 by omega]
  omega

theorem rawAt_bd {c : List (Int × Int)} (v : Valid c) {x : Int} {i : Nat} (hi : i + 1 < c.length) (h : (c.getD i (0, 0)).1 ≤ x ∧ x ≤ (c.getD (i + 1) (0, 0)).1) : (c.getD i (0, 0)).2 ≤ rawAt c x i ∧ rawAt c x i ≤ (c.getD (i + 1) (0, 0)).2 := by
  have h1 := v.ord i hi
  have := near_bd (n := ((c.getD (i + 1) (0, 0)).2 - (c.getD i (0, 0)).2) * (x - (c.getD i (0, 0)).1)) (d := (c.getD (i + 1) (0, 0)).1 - (c.getD i (0, 0)).1) (k := (c.getD (i + 1) (0, 0)).2 - (c.getD i (0, 0)).2) (by omega)
    (Int.mul_nonneg (by omega) (by omega)) (Int.mul_le_mul_of_nonneg_left (by omega) (by omega))
  unfold rawAt
  omega

theorem raw_bd {c : List (Int × Int)} (v : Valid c) {x : Int} (hx : 0 ≤ x ∧ x ≤ 65280) : 0 ≤ raw c x ∧ raw c x ≤ (c.getD (c.length - 1) (0, 0)).2 := by
  obtain ⟨h1, h2, h3⟩ := seg_has v hx
  have h4 := rawAt_bd v h1 ⟨h2, h3⟩
  have h5 := v.rg (seg c x (c.length - 2)) (by omega)
  have h6 := v.mono (c.length - 1 - (seg c x (c.length - 2) + 1)) (seg c x (c.length - 2) + 1) (by omega)
  rw [show seg c x (c.length - 2) + 1 + (c.length - 1 - (seg c x (c.length - 2) + 1)) = c.length - 1 by omega] at h6
  unfold raw
  omega

theorem raw_mono {c : List (Int × Int)} (v : Valid c) {x y : Int} (hx : 0 ≤ x ∧ x ≤ 65280) (hy : y ≤ 65280) (h : x ≤ y) : raw c x ≤ raw c y := by
  obtain ⟨h1, h2, h3⟩ := seg_has v hx
  obtain ⟨k1, k2, k3⟩ := seg_has v (x := y) ⟨by omega, hy⟩
  unfold raw
  generalize seg c x (c.length - 2) = i at *
  generalize seg c y (c.length - 2) = j at *
  have h4 := rawAt_bd v h1 ⟨h2, h3⟩
  have k4 := rawAt_bd v k1 ⟨k2, k3⟩
  rcases Nat.lt_trichotomy i j with hij | hij | hij
  · have := v.mono (j - (i + 1)) (i + 1) (by omega)
    rw [show i + 1 + (j - (i + 1)) = j by omega] at this
    omega
  · subst hij
    have := v.ord i h1
    have := near_mono (d := (c.getD (i + 1) (0, 0)).1 - (c.getD i (0, 0)).1) (by omega) (Int.mul_le_mul_of_nonneg_left (show x - (c.getD i (0, 0)).1 ≤ y - (c.getD i (0, 0)).1 by omega) (show 0 ≤ (c.getD (i + 1) (0, 0)).2 - (c.getD i (0, 0)).2 by omega))
    unfold rawAt
    omega
  · -- x is in a later part than y: both are the point between
    have h7 := v.mono (i - (j + 1)) (j + 1) (by omega)
    rw [show j + 1 + (i - (j + 1)) = i by omega] at h7
    have e1 : x = (c.getD i (0, 0)).1 := by omega
    have e2 : i = j + 1 := by
      by_cases e : i = j + 1
      · exact e
      · omega
    subst e2
    have hx' := v.ord (j + 1) h1
    have hj := v.ord j k1
    have e3 : y = (c.getD (j + 1) (0, 0)).1 := by omega
    unfold rawAt
    rw [e1, e3, Int.sub_self, Int.mul_zero, near_zero (by omega), near_full (by omega)]
    omega

theorem raw_last {c : List (Int × Int)} (v : Valid c) : raw c 65280 = (c.getD (c.length - 1) (0, 0)).2 := by
  have hl := v.len
  have h2 := v.ord (c.length - 2) (by omega)
  have h3 := v.last
  rw [show c.length - 2 + 1 = c.length - 1 by omega] at h2
  unfold raw
  rw [seg_is v (i := c.length - 2) (by omega) _ (by omega) (by omega) (by omega)]
  unfold rawAt
  rw [show c.length - 2 + 1 = c.length - 1 by omega, h3, near_full (by omega)]
  omega

theorem least_c (c : List (Int × Int)) (y : Int) (v : Valid c) (hy : Due (y ≤ (c.getD (c.length - 1) (0, 0)).2)) : TC R Try.prog curve_least_f [.agg [.lst E2i c], .int .i64 y] [] (fun w X => ∃ x, (0 ≤ x ∧ x ≤ 65280 ∧ y ≤ raw c x ∧ (x = 0 ∨ raw c (x - 1) < y)) ∧ w = .int .i64 x ∧ X = []) := by
  dsimp only [Due] at hy
  refine tc0 env curve_least_s (by rfl) ?_
  dsimp only [curve_least_c]
  repeat' (first
    | with_reducible first | refine Tw.seq ?_ | refine Tw.reg ?_ | refine Tw.block ?_ | refine Tw.scope ?_ | refine Tw.skip ?_ | refine Tw.exit ?_ | refine Tw.ret ?_ | refine seqN ?_ | refine seqR ?_ | refine seqE ?_ | refine blkN ?_ | refine blkR ?_ | refine blkE1 ?_ | refine blkE0 (by kernel_rfl) ?_ | refine scpN ?_ | refine scpR ?_ | refine scpE ?_ | refine TOps.nil ?_ | exact Conj.nil | refine Conj.cons rfl ?_ | refine Conj.same ?_ | refine Conj.ask ?_ ?_ | refine Tw.regd env ?_ | refine TDr.nil ⟨by kernel_rfl, ?_⟩
    | ((with_reducible refine TOps.any ?_); first | refine TOps.frunP env (by rfl) (by rfl) ?_ ?_ | refine TOps.strip env (by rfl) (by rfl) ?_ ?_)
    | ((with_reducible refine TDr.any ?_); refine TDr.frunP env (by rfl) (by rfl) ?_ ?_)
    | ((with_reducible refine Tw.any ?_); first | refine Tw.condT (by rfl) ?_ | refine Tw.condF (by rfl) ?_)
    | ((first | ((with_reducible refine TOps.any ?_); (fail_if_success refine TOps.known (by rfl) ?_); refine TOps.ask (by rfl) (fun h => ?_) (fun h => ?_)) | ((with_reducible refine TDr.any ?_); (fail_if_success refine TDr.known (by first | rfl | assumption) ?_); refine TDr.ask (by rfl) (fun h hk => ?_) (fun h => ?_)) | ((with_reducible refine Tw.any ?_); refine Tw.cond (by rfl) (fun h => ?_) (fun h => ?_))) <;> (try simp only [goS] at h) <;> (try simp only [rd2i, Int.toNat_natCast, Nat.add_zero] at h))
    | ((with_reducible refine tret.any ?_); first | refine tret.ok (by rfl) ?_ | refine tret.okN (by rfl) ?_)
    | ((with_reducible refine Due.mk ?_); (first | with_reducible rfl | omega | assumption | decide | ((try simp only [goS] at *) <;> (try intro h) <;> (try intro h') <;> (try simp only [goS] at *) <;> (try simp only [rd2i, Int.toNat_natCast, Nat.add_zero] at *) <;> (try simp only [rng]) <;> (first | assumption | omega)) | (exact due_app0 (by omega)) | (exact due_app (by omega)) | (intros; simp; done) | (intros; simp; omega)))
    | with_reducible refine Due.mk ?_
    | omega)
  refine Tw.loopK [1, 2] (fun p : Int × Int => -1 ≤ p.1 ∧ p.1 < p.2 ∧ p.2 ≤ 65280 ∧ y ≤ raw c p.2 ∧ (p.1 = -1 ∨ raw c p.1 < y)) (fun p => (p.2 - p.1).toNat) (fun p => [(5, .int .i64 p.1), (6, .int .i64 p.2)]) (fun _ => [some (.cells [.lst E2i c])]) ⟨(-1, 65280), ?_, TWk.fcanon env [some 0] (by rfl) ?_⟩ (fun p hp => ?_)
  · dsimp only; rw [raw_last v]; omega
  · repeat' (first
      | with_reducible first | refine Tw.seq ?_ | refine Tw.reg ?_ | refine Tw.block ?_ | refine Tw.scope ?_ | refine Tw.skip ?_ | refine Tw.exit ?_ | refine Tw.ret ?_ | refine seqN ?_ | refine seqR ?_ | refine seqE ?_ | refine blkN ?_ | refine blkR ?_ | refine blkE1 ?_ | refine blkE0 (by kernel_rfl) ?_ | refine scpN ?_ | refine scpR ?_ | refine scpE ?_ | refine TOps.nil ?_ | exact Conj.nil | refine Conj.cons rfl ?_ | refine Conj.same ?_ | refine Conj.ask ?_ ?_ | refine Tw.regd env ?_ | refine TDr.nil ⟨by kernel_rfl, ?_⟩
      | ((with_reducible refine TOps.any ?_); first | refine TOps.frunP env (by rfl) (by rfl) ?_ ?_ | refine TOps.strip env (by rfl) (by rfl) ?_ ?_)
      | ((with_reducible refine TDr.any ?_); refine TDr.frunP env (by rfl) (by rfl) ?_ ?_)
      | ((with_reducible refine Tw.any ?_); first | refine Tw.condT (by rfl) ?_ | refine Tw.condF (by rfl) ?_)
      | ((first | ((with_reducible refine TOps.any ?_); (fail_if_success refine TOps.known (by rfl) ?_); refine TOps.ask (by rfl) (fun h => ?_) (fun h => ?_)) | ((with_reducible refine TDr.any ?_); (fail_if_success refine TDr.known (by first | rfl | assumption) ?_); refine TDr.ask (by rfl) (fun h hk => ?_) (fun h => ?_)) | ((with_reducible refine Tw.any ?_); refine Tw.cond (by rfl) (fun h => ?_) (fun h => ?_))) <;> (try simp only [goS] at h) <;> (try simp only [rd2i, Int.toNat_natCast, Nat.add_zero] at h))
      | ((with_reducible refine tret.any ?_); first | refine tret.ok (by rfl) ?_ | refine tret.okN (by rfl) ?_)
      | ((with_reducible refine Due.mk ?_); (first | with_reducible rfl | omega | assumption | decide | ((try simp only [goS] at *) <;> (try intro h) <;> (try intro h') <;> (try simp only [goS] at *) <;> (try simp only [rd2i, Int.toNat_natCast, Nat.add_zero] at *) <;> (try simp only [rng]) <;> (first | assumption | omega)) | (exact due_app0 (by omega)) | (exact due_app (by omega)) | (intros; simp; done) | (intros; simp; omega)))
      | with_reducible refine Due.mk ?_
      | omega)
  obtain ⟨l, u⟩ := p
  dsimp only at hp ⊢
  obtain ⟨m, hq, hm⟩ : ∃ m, quo (l + u) 2 = m ∧ (0 ≤ l + u → m = (l + u) / 2) := ⟨_, rfl, fun h => quo_nn h⟩
  repeat' (first
    | ((with_reducible refine TOps.any ?_); refine TOps.callV env (by rfl) (by rfl) (by rfl) (raw_c _ _ v ?_) ?_)
    | with_reducible first | refine Tw.seq ?_ | refine Tw.reg ?_ | refine Tw.block ?_ | refine Tw.scope ?_ | refine Tw.skip ?_ | refine Tw.exit ?_ | refine Tw.ret ?_ | refine seqN ?_ | refine seqR ?_ | refine seqE ?_ | refine blkN ?_ | refine blkR ?_ | refine blkE1 ?_ | refine blkE0 (by kernel_rfl) ?_ | refine scpN ?_ | refine scpR ?_ | refine scpE ?_ | refine TOps.nil ?_ | exact Conj.nil | refine Conj.cons rfl ?_ | refine Conj.same ?_ | refine Conj.ask ?_ ?_ | refine Tw.regd env ?_ | refine TDr.nil ⟨by kernel_rfl, ?_⟩
    | ((with_reducible refine TOps.any ?_); first | refine TOps.frunP env (by rfl) (by rfl) ?_ ?_ | refine TOps.strip env (by rfl) (by rfl) ?_ ?_)
    | ((with_reducible refine TDr.any ?_); refine TDr.frunP env (by rfl) (by rfl) ?_ ?_)
    | ((with_reducible refine Tw.any ?_); first | refine Tw.condT (by rfl) ?_ | refine Tw.condF (by rfl) ?_)
    | ((first | ((with_reducible refine TOps.any ?_); (fail_if_success refine TOps.known (by rfl) ?_); refine TOps.ask (by rfl) (fun h => ?_) (fun h => ?_)) | ((with_reducible refine TDr.any ?_); (fail_if_success refine TDr.known (by first | rfl | assumption) ?_); refine TDr.ask (by rfl) (fun h hk => ?_) (fun h => ?_)) | ((with_reducible refine Tw.any ?_); refine Tw.cond (by rfl) (fun h => ?_) (fun h => ?_))) <;> (try simp only [goS] at h) <;> (try simp only [rd2i, hq, Int.toNat_natCast, Nat.add_zero] at h))
    | ((with_reducible refine tret.any ?_); first | refine tret.ok (by rfl) ?_ | refine tret.okN (by rfl) ?_)
    | ((with_reducible refine Due.mk ?_); (first | with_reducible rfl | omega | assumption | decide | ((try simp only [goS] at *) <;> (try intro h) <;> (try intro h') <;> (try simp only [goS] at *) <;> (try simp only [rd2i, hq, Int.toNat_natCast, Nat.add_zero] at *) <;> (try simp only [rng]) <;> (first | assumption | omega)) | (exact due_app0 (by omega)) | (exact due_app (by omega)) | (intros; simp; done) | (intros; simp; omega)))
    | with_reducible refine Due.mk ?_
    | omega)
  · refine ⟨(l, m), ?_, ?_, TWk.fcanon env [some 0] (by rfl) ?_⟩
    · dsimp only; omega
    · dsimp only; omega
    · repeat' (first
        | with_reducible first | refine Tw.seq ?_ | refine Tw.reg ?_ | refine Tw.block ?_ | refine Tw.scope ?_ | refine Tw.skip ?_ | refine Tw.exit ?_ | refine Tw.ret ?_ | refine seqN ?_ | refine seqR ?_ | refine seqE ?_ | refine blkN ?_ | refine blkR ?_ | refine blkE1 ?_ | refine blkE0 (by kernel_rfl) ?_ | refine scpN ?_ | refine scpR ?_ | refine scpE ?_ | refine TOps.nil ?_ | exact Conj.nil | refine Conj.cons rfl ?_ | refine Conj.same ?_ | refine Conj.ask ?_ ?_ | refine Tw.regd env ?_ | refine TDr.nil ⟨by kernel_rfl, ?_⟩
        | ((with_reducible refine TOps.any ?_); first | refine TOps.frunP env (by rfl) (by rfl) ?_ ?_ | refine TOps.strip env (by rfl) (by rfl) ?_ ?_)
        | ((with_reducible refine TDr.any ?_); refine TDr.frunP env (by rfl) (by rfl) ?_ ?_)
        | ((with_reducible refine Tw.any ?_); first | refine Tw.condT (by rfl) ?_ | refine Tw.condF (by rfl) ?_)
        | ((first | ((with_reducible refine TOps.any ?_); (fail_if_success refine TOps.known (by rfl) ?_); refine TOps.ask (by rfl) (fun h => ?_) (fun h => ?_)) | ((with_reducible refine TDr.any ?_); (fail_if_success refine TDr.known (by first | rfl | assumption) ?_); refine TDr.ask (by rfl) (fun h hk => ?_) (fun h => ?_)) | ((with_reducible refine Tw.any ?_); refine Tw.cond (by rfl) (fun h => ?_) (fun h => ?_))) <;> (try simp only [goS] at h) <;> (try simp only [rd2i, hq, Int.toNat_natCast, Nat.add_zero] at h))
        | ((with_reducible refine tret.any ?_); first | refine tret.ok (by rfl) ?_ | refine tret.okN (by rfl) ?_)
        | ((with_reducible refine Due.mk ?_); (first | with_reducible rfl | omega | assumption | decide | ((try simp only [goS] at *) <;> (try intro h) <;> (try intro h') <;> (try simp only [goS] at *) <;> (try simp only [rd2i, hq, Int.toNat_natCast, Nat.add_zero] at *) <;> (try simp only [rng]) <;> (first | assumption | omega)) | (exact due_app0 (by omega)) | (exact due_app (by omega)) | (intros; simp; done) | (intros; simp; omega)))
        | with_reducible refine Due.mk ?_
        | omega)
  · refine ⟨(m, u), ?_, ?_, TWk.fcanon env [some 0] (by rfl) ?_⟩
    · dsimp only; omega
    · dsimp only; omega
    · repeat' (first
        | with_reducible first | refine Tw.seq ?_ | refine Tw.reg ?_ | refine Tw.block ?_ | refine Tw.scope ?_ | refine Tw.skip ?_ | refine Tw.exit ?_ | refine Tw.ret ?_ | refine seqN ?_ | refine seqR ?_ | refine seqE ?_ | refine blkN ?_ | refine blkR ?_ | refine blkE1 ?_ | refine blkE0 (by kernel_rfl) ?_ | refine scpN ?_ | refine scpR ?_ | refine scpE ?_ | refine TOps.nil ?_ | exact Conj.nil | refine Conj.cons rfl ?_ | refine Conj.same ?_ | refine Conj.ask ?_ ?_ | refine Tw.regd env ?_ | refine TDr.nil ⟨by kernel_rfl, ?_⟩
        | ((with_reducible refine TOps.any ?_); first | refine TOps.frunP env (by rfl) (by rfl) ?_ ?_ | refine TOps.strip env (by rfl) (by rfl) ?_ ?_)
        | ((with_reducible refine TDr.any ?_); refine TDr.frunP env (by rfl) (by rfl) ?_ ?_)
        | ((with_reducible refine Tw.any ?_); first | refine Tw.condT (by rfl) ?_ | refine Tw.condF (by rfl) ?_)
        | ((first | ((with_reducible refine TOps.any ?_); (fail_if_success refine TOps.known (by rfl) ?_); refine TOps.ask (by rfl) (fun h => ?_) (fun h => ?_)) | ((with_reducible refine TDr.any ?_); (fail_if_success refine TDr.known (by first | rfl | assumption) ?_); refine TDr.ask (by rfl) (fun h hk => ?_) (fun h => ?_)) | ((with_reducible refine Tw.any ?_); refine Tw.cond (by rfl) (fun h => ?_) (fun h => ?_))) <;> (try simp only [goS] at h) <;> (try simp only [rd2i, hq, Int.toNat_natCast, Nat.add_zero] at h))
        | ((with_reducible refine tret.any ?_); first | refine tret.ok (by rfl) ?_ | refine tret.okN (by rfl) ?_)
        | ((with_reducible refine Due.mk ?_); (first | with_reducible rfl | omega | assumption | decide | ((try simp only [goS] at *) <;> (try intro h) <;> (try intro h') <;> (try simp only [goS] at *) <;> (try simp only [rd2i, hq, Int.toNat_natCast, Nat.add_zero] at *) <;> (try simp only [rng]) <;> (first | assumption | omega)) | (exact due_app0 (by omega)) | (exact due_app (by omega)) | (intros; simp; done) | (intros; simp; omega)))
        | with_reducible refine Due.mk ?_
        | omega)
  · refine ⟨rfl, u, ⟨by omega, by omega, by omega, ?_⟩, rfl, rfl⟩
    rcases hp.2.2.2.2 with h1 | h1
    · left; omega
    · right; rw [show u - 1 = l by omega]; exact h1

theorem inverse_c (c : List (Int × Int)) (y : Int) : TC R Try.prog curve_Inverse_f [.agg [.lst E2i c], .int .i64 y] [] (fun w X => (∃ x e, w = .tup [.int .i64 x, .int .i64 e] ∧ ((e ≠ 0 ∧ x = 0) ∨ (e = 0 ∧ check c = 0 ∧ 0 ≤ y ∧ y ≤ 65280 ∧ y ≤ (c.getD (c.length - 1) (0, 0)).2 ∧ 0 ≤ x ∧ x ≤ 65280 ∧ y ≤ raw c x ∧ (x = 0 ∨ raw c (x - 1) < y)))) ∧ X = []) := by
  have hl : check c = 0 → 2 ≤ c.length ∧ c.length ≤ 33 := fun h => (check_ok h).len
  refine tc0 env curve_Inverse_s (by rfl) ?_
  dsimp only [curve_Inverse_c]
  repeat' (first
    | ((with_reducible refine TOps.any ?_); refine TOps.callV env (by rfl) (by rfl) (by rfl) (check_c _) ?_)
    | with_reducible first | refine Tw.seq ?_ | refine Tw.reg ?_ | refine Tw.block ?_ | refine Tw.scope ?_ | refine Tw.skip ?_ | refine Tw.exit ?_ | refine Tw.ret ?_ | refine seqN ?_ | refine seqR ?_ | refine seqE ?_ | refine blkN ?_ | refine blkR ?_ | refine blkE1 ?_ | refine blkE0 (by kernel_rfl) ?_ | refine scpN ?_ | refine scpR ?_ | refine scpE ?_ | refine TOps.nil ?_ | exact Conj.nil | refine Conj.cons rfl ?_ | refine Conj.same ?_ | refine Conj.ask ?_ ?_ | refine Tw.regd env ?_ | refine TDr.nil ⟨by kernel_rfl, ?_⟩
    | ((with_reducible refine TOps.any ?_); first | refine TOps.frunP env (by rfl) (by rfl) ?_ ?_ | refine TOps.strip env (by rfl) (by rfl) ?_ ?_)
    | ((with_reducible refine TDr.any ?_); refine TDr.frunP env (by rfl) (by rfl) ?_ ?_)
    | ((with_reducible refine Tw.any ?_); first | refine Tw.condT (by rfl) ?_ | refine Tw.condF (by rfl) ?_)
    | ((first | ((with_reducible refine TOps.any ?_); (fail_if_success refine TOps.known (by rfl) ?_); refine TOps.ask (by rfl) (fun h => ?_) (fun h => ?_)) | ((with_reducible refine TDr.any ?_); (fail_if_success refine TDr.known (by first | rfl | assumption) ?_); refine TDr.ask (by rfl) (fun h hk => ?_) (fun h => ?_)) | ((with_reducible refine Tw.any ?_); refine Tw.cond (by rfl) (fun h => ?_) (fun h => ?_))) <;> (try simp only [goS] at h) <;> (try simp only [rd2i, Int.toNat_natCast, Nat.add_zero] at h))
    | ((with_reducible refine tret.any ?_); first | refine tret.ok (by rfl) ?_ | refine tret.okN (by rfl) ?_)
    | ((with_reducible refine Due.mk ?_); (first | with_reducible rfl | omega | assumption | decide | ((try simp only [goS] at *) <;> (try intro h) <;> (try intro h') <;> (try simp only [goS] at *) <;> (try simp only [rd2i, Int.toNat_natCast, Nat.add_zero] at *) <;> (try simp only [rng]) <;> (first | assumption | omega)) | (exact due_app0 (by omega)) | (exact due_app (by omega)) | (intros; simp; done) | (intros; simp; omega)))
    | with_reducible refine Due.mk ?_
    | omega)
  · exact ⟨rfl, ⟨0, check c, rfl, .inl ⟨h, rfl⟩⟩, rfl⟩
  · exact ⟨rfl, ⟨0, 3, rfl, .inl ⟨by omega, rfl⟩⟩, rfl⟩
  · exact ⟨rfl, ⟨0, 8, rfl, .inl ⟨by omega, rfl⟩⟩, rfl⟩
  have e : ((c.length : Int) - 1).toNat = c.length - 1 := by omega
  rw [e] at h
  refine TOps.call env (by rfl) (by rfl) (by rfl) (least_c _ _ (check_ok (by assumption)) ?_) ?_
  · exact h
  rintro _ _ ⟨x, hx, rfl, rfl⟩
  repeat' (first
    | with_reducible first | refine Tw.seq ?_ | refine Tw.reg ?_ | refine Tw.block ?_ | refine Tw.scope ?_ | refine Tw.skip ?_ | refine Tw.exit ?_ | refine Tw.ret ?_ | refine seqN ?_ | refine seqR ?_ | refine seqE ?_ | refine blkN ?_ | refine blkR ?_ | refine blkE1 ?_ | refine blkE0 (by kernel_rfl) ?_ | refine scpN ?_ | refine scpR ?_ | refine scpE ?_ | refine TOps.nil ?_ | exact Conj.nil | refine Conj.cons rfl ?_ | refine Conj.same ?_ | refine Conj.ask ?_ ?_ | refine Tw.regd env ?_ | refine TDr.nil ⟨by kernel_rfl, ?_⟩
    | ((with_reducible refine TOps.any ?_); first | refine TOps.frunP env (by rfl) (by rfl) ?_ ?_ | refine TOps.strip env (by rfl) (by rfl) ?_ ?_)
    | ((with_reducible refine TDr.any ?_); refine TDr.frunP env (by rfl) (by rfl) ?_ ?_)
    | ((with_reducible refine Tw.any ?_); first | refine Tw.condT (by rfl) ?_ | refine Tw.condF (by rfl) ?_)
    | ((first | ((with_reducible refine TOps.any ?_); (fail_if_success refine TOps.known (by rfl) ?_); refine TOps.ask (by rfl) (fun h => ?_) (fun h => ?_)) | ((with_reducible refine TDr.any ?_); (fail_if_success refine TDr.known (by first | rfl | assumption) ?_); refine TDr.ask (by rfl) (fun h hk => ?_) (fun h => ?_)) | ((with_reducible refine Tw.any ?_); refine Tw.cond (by rfl) (fun h => ?_) (fun h => ?_))) <;> (try simp only [goS] at h) <;> (try simp only [rd2i, Int.toNat_natCast, Nat.add_zero] at h))
    | ((with_reducible refine tret.any ?_); first | refine tret.ok (by rfl) ?_ | refine tret.okN (by rfl) ?_)
    | ((with_reducible refine Due.mk ?_); (first | with_reducible rfl | omega | assumption | decide | ((try simp only [goS] at *) <;> (try intro h) <;> (try intro h') <;> (try simp only [goS] at *) <;> (try simp only [rd2i, Int.toNat_natCast, Nat.add_zero] at *) <;> (try simp only [rng]) <;> (first | assumption | omega)) | (exact due_app0 (by omega)) | (exact due_app (by omega)) | (intros; simp; done) | (intros; simp; omega)))
    | with_reducible refine Due.mk ?_
    | omega)
  exact ⟨rfl, ⟨x, 0, rfl, .inr (by omega)⟩, rfl⟩
end Go.Proofs.Ytfgaefpdccdfiaa
