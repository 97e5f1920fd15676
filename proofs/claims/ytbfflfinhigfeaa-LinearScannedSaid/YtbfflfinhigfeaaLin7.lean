/- Bar codes: a row of bars is read as its widths. -/
import Derived.Test.YtbfflfinhigfeaaLin6
import Derived.Test.YtbfflfinhigfeaaBits2
namespace Go.Proofs.Ytbfflfinhigfeaa
open Go Go.Lite
set_option linter.unusedVariables false
set_option linter.unusedSimpArgs false
set_option maxRecDepth 100000
set_option maxHeartbeats 4000000
-- @simp rdi rdy

/-- Where width j begins. -/
def pre (U : Nat → Nat) : Nat → Nat
  | 0 => 0
  | j + 1 => pre U j + U j
theorem pre_mono {U : Nat → Nat} {i j : Nat} (h : i ≤ j) : pre U i ≤ pre U j := by
  induction j with
  | zero => have : i = 0 := by omega
            subst this; exact Nat.le_refl _
  | succ j ih =>
    rcases Nat.lt_or_ge i (j + 1) with h1 | h1
    · have := ih (by omega)
      show pre U i ≤ pre U j + U j
      omega
    · have : i = j + 1 := by omega
      subst this; exact Nat.le_refl _
theorem pre_lt {U : Nat → Nat} {n i j : Nat} (hU : ∀ k, k < n → 1 ≤ U k) (h : i < j) (hj : j ≤ n) : pre U i < pre U j := by
  have h1 : pre U (i + 1) ≤ pre U j := pre_mono h
  have h2 := hU i (by omega)
  have h3 : pre U (i + 1) = pre U i + U i := rfl
  omega
/-- The pixels of the bars among the first n widths. -/
def barN (U : Nat → Nat) : Nat → Nat → Bool
  | 0, _ => false
  | n + 1, x => barN U n x || (decide (n % 2 = 0) && decide (pre U n ≤ x) && decide (x < pre U (n + 1)))
theorem barN_out {U : Nat → Nat} {x : Nat} : ∀ {n : Nat}, pre U n ≤ x → barN U n x = false
  | 0, _ => rfl
  | n + 1, h => by
    have h1 : pre U n ≤ pre U (n + 1) := pre_mono (by omega)
    simp only [barN]
    rw [barN_out (by omega), decide_eq_false (show ¬ x < pre U (n + 1) by omega)]
    simp
theorem barN_at {U : Nat → Nat} {j x : Nat} (h1 : pre U j ≤ x) (h2 : x < pre U (j + 1)) : ∀ {n : Nat}, j < n → barN U n x = decide (j % 2 = 0)
  | n + 1, h => by
    simp only [barN]
    rcases Nat.lt_or_ge j n with h3 | h3
    · have h4 : pre U (j + 1) ≤ pre U n := pre_mono h3
      rw [barN_at h1 h2 h3, decide_eq_false (show ¬ pre U n ≤ x by omega)]
      simp
    · obtain rfl : j = n := by omega
      rw [barN_out h1, decide_eq_true h1, decide_eq_true h2]
      simp


theorem iterW (U : Nat → Nat) (m n w k : Nat) (d : List Int) (yy : Nat) (hn : n = 2 * m + 1) (hU : ∀ i, i < n → 1 ≤ U i) (hw2 : pre U n = w) (hk : BmOk w k d) (hp : ∀ x : Nat, x < w → px w k d x yy = barN U n x) (y : YY)
    (hok : YOk R y 32 [11] (.reg linear_Row_r4) (.block 1 (.seq (.seq (.reg linear_Row_r5) (.cond (.tmp 13) (.reg linear_Row_r6) .skip)) (.seq (.reg linear_Row_r7) (.reg linear_Row_r8)))) [(6, .ptr 2 0), (5, .ptr 1 0), (0, .ptr 0 0), (1, .int .i64 yy), (10, .fn bitmap_Row_1_f [.ptr 3 0, .ptr 4 0])]) :
    TCY R Try.prog bitmap_Row_1_f y [.yld y.l, .ptr 3 0, .ptr 4 0] [some (.cells [.int .i64 w, .int .i64 k, .lst Ey d]), some (.cells [.nils]), some (.cells [.int .i64 (-1)]), some (.cells [.ptr 0 0]), some (.cells [.int .i64 yy])]
    (fun v X => v = .tup [] ∧ X = [some (.cells [.int .i64 w, .int .i64 k, .lst Ey d]), some (.cells [.sla 1 5 0 (2 * m + 1)]), some (.cells [.int .i64 (pre U (2 * m + 1))]), some (.cells [.ptr 0 0]), some (.cells [.int .i64 yy]), some (.arr Ei (tab (2 * m + 1) fun i => (U i : Int)))]) := by
  have hw := hk.w1
  have mw : m ≤ 1024 := by
    have : ∀ i, i ≤ n → i ≤ pre U i := fun i => by
      induction i with
      | zero => intro _; exact Nat.zero_le _
      | succ i ih =>
        intro h
        have h1 := ih (by omega)
        have h2 := hU i (by omega)
        show i + 1 ≤ pre U i + U i
        omega
    have := this n (Nat.le_refl _)
    omega
  refine tcy env bitmap_Row_1_s (by rfl) ?_
  dsimp only [bitmap_Row_1_c]
  repeat' (first
    | with_reducible first | refine Tw.seq ?_ | refine Tw.reg ?_ | refine Tw.block ?_ | refine Tw.scope ?_ | refine Tw.skip ?_ | refine Tw.exit ?_ | refine Tw.ret ?_ | refine seqN ?_ | refine seqR ?_ | refine seqE ?_ | refine rndN ?_ | refine blkN ?_ | refine blkR ?_ | refine blkE1 ?_ | refine blkE0 (by kernel_rfl) ?_ | refine scpN ?_ | refine scpR ?_ | refine scpE ?_ | refine TOps.nil ?_ | exact Conj.nil | refine Conj.cons rfl ?_ | refine Conj.same ?_ | refine Conj.ask ?_ ?_ | refine Tw.regd env ?_ | refine TDr.nil ⟨by kernel_rfl, ?_⟩
    | ((with_reducible refine TOps.any ?_); first | refine TOps.frunP env (by rfl) (by rfl) ?_ ?_ | (refine TOps.known (by rfl) ?_; refine TOps.strip env (by rfl) (by rfl) ?_ ?_) | refine TOps.on (by rfl) (by rfl) ?_)
    | ((with_reducible refine TDr.any ?_); refine TDr.frunP env (by rfl) (by rfl) ?_ ?_)
    | ((with_reducible refine Tw.any ?_); first | refine Tw.condT (by rfl) ?_ | refine Tw.condF (by rfl) ?_)
    | ((first | ((with_reducible refine TOps.any ?_); (fail_if_success refine TOps.known (by rfl) ?_); refine TOps.ask (by rfl) (fun h => ?_) (fun h => ?_)) | ((with_reducible refine TDr.any ?_); (fail_if_success refine TDr.known (by first | rfl | assumption) ?_); refine TDr.ask (by rfl) (fun h hk => ?_) (fun h => ?_)) | ((with_reducible refine Tw.any ?_); refine Tw.cond (by rfl) (fun h => ?_) (fun h => ?_))) <;> (try simp only [goS] at h) <;> (try simp only [rdi, rdy, Int.toNat_natCast, Nat.add_zero] at h))
    | ((with_reducible refine tret.any ?_); first | refine tret.ok (by rfl) ?_ | refine tret.okN (by rfl) ?_)
    | ((with_reducible refine Due.mk ?_); (first | with_reducible rfl | omega | assumption | decide | ((try simp only [goS] at *) <;> (try intro h) <;> (try intro h') <;> (try simp only [goS] at *) <;> (try simp only [rdi, rdy, Int.toNat_natCast, Nat.add_zero] at *) <;> (try simp only [rng]) <;> (first | assumption | omega)) | (exact due_app0 (by omega)) | (exact due_app (by omega)) | (intros; simp; done) | (intros; simp; omega)))
    | with_reducible refine Due.mk ?_
    | omega)
  refine Tw.loopK [0, 1, 2] (fun i : Nat × Nat => i.1 ≤ m + 1 ∧ (1 ≤ i.1 → pre U (2 * i.1 - 1) ≤ i.2) ∧ (i.1 ≤ m → i.2 ≤ pre U (2 * i.1)) ∧ (i.1 = m + 1 → i.2 = w)) (fun i => w - i.2) (fun i => [(4, .int .i64 i.2)])
    (fun i => match i.1 with
      | 0 => [some (.cells [.int .i64 w, .int .i64 k, .lst Ey d]), some (.cells [.nils]), some (.cells [.int .i64 (-1)]), some (.cells [.ptr 0 0]), some (.cells [.int .i64 yy])]
      | j + 1 => [some (.cells [.int .i64 w, .int .i64 k, .lst Ey d]), some (.cells [.sla 1 5 0 (2 * j + 1)]), some (.cells [.int .i64 (pre U (2 * j + 1))]), some (.cells [.ptr 0 0]), some (.cells [.int .i64 yy]), some (.arr Ei (tab (2 * j + 1) fun i => (U i : Int)))]) ⟨(0, 0), ⟨by simp, by simp, by simp, by simp⟩, TWk.fcanon env [some 0, some 1, some 2, some 3, some 4] (by rfl) ?_⟩ (fun i hi => ?_)
  · repeat' (first
      | with_reducible first | exact Conj.nil | refine Conj.cons rfl ?_ | refine Conj.same ?_ | refine Conj.ask ?_ ?_
      | ((with_reducible refine Due.mk ?_); (first | with_reducible rfl | omega | assumption | decide | ((try simp only [goS] at *) <;> (try intro h) <;> (try intro h') <;> (try simp only [goS] at *) <;> (try simp only [rdi, rdy, Int.toNat_natCast, Nat.add_zero] at *) <;> (try simp only [rng]) <;> (first | assumption | omega)) | (exact due_app0 (by omega)) | (exact due_app (by omega)) | (intros; simp; done) | (intros; simp; omega)))
      | with_reducible refine Due.mk ?_
      | omega)
  obtain ⟨q, x⟩ := i
  obtain ⟨hq, h1, h2, h3⟩ := hi
  simp only at hq h1 h2 h3
  rcases q with _ | j
  · have x0 : x = 0 := by have := h2 (by omega); simpa [pre] using this
    subst x0
    have hlt : pre U (2 * 0) < pre U (2 * 0 + 1) := pre_lt hU (by omega) (by omega)
    have hle : pre U (2 * 0 + 1) ≤ w := by rw [← hw2]; exact pre_mono (by omega)
    have p0 : pre U (2 * 0) = 0 := rfl
    · skip
      have hin : ∀ z : Nat, pre U (2 * (0)) ≤ z → z < pre U (2 * (0) + 1) → px w k d z yy = true := fun z h1 h2 => by
        rw [hp z (by omega), barN_at (j := 2 * (0)) h1 h2 (by omega)]; simp
      have fcx := is_c w k d (pre U (2 * (0))) yy hk
      rw [hin _ (Nat.le_refl _) hlt] at fcx
      repeat' (first
        | ((with_reducible refine TOps.any ?_); refine TOps.callE env (by rfl) (by rfl) (by rfl) ?_ (fcx) (by rfl) ?_)
        | with_reducible first | refine Tw.seq ?_ | refine Tw.reg ?_ | refine Tw.block ?_ | refine Tw.scope ?_ | refine Tw.skip ?_ | refine Tw.exit ?_ | refine Tw.ret ?_ | refine seqN ?_ | refine seqR ?_ | refine seqE ?_ | refine rndN ?_ | refine blkN ?_ | refine blkR ?_ | refine blkE1 ?_ | refine blkE0 (by kernel_rfl) ?_ | refine scpN ?_ | refine scpR ?_ | refine scpE ?_ | refine TOps.nil ?_ | exact Conj.nil | refine Conj.cons rfl ?_ | refine Conj.same ?_ | refine Conj.ask ?_ ?_ | refine Tw.regd env ?_ | refine TDr.nil ⟨by kernel_rfl, ?_⟩
        | ((with_reducible refine TOps.any ?_); first | refine TOps.frunP env (by rfl) (by rfl) ?_ ?_ | (refine TOps.known (by rfl) ?_; refine TOps.strip env (by rfl) (by rfl) ?_ ?_) | refine TOps.on (by rfl) (by rfl) ?_)
        | ((with_reducible refine TDr.any ?_); refine TDr.frunP env (by rfl) (by rfl) ?_ ?_)
        | ((with_reducible refine Tw.any ?_); first | refine Tw.condT (by rfl) ?_ | refine Tw.condF (by rfl) ?_)
        | ((first | ((with_reducible refine TOps.any ?_); (fail_if_success refine TOps.known (by rfl) ?_); refine TOps.ask (by rfl) (fun h => ?_) (fun h => ?_)) | ((with_reducible refine TDr.any ?_); (fail_if_success refine TDr.known (by first | rfl | assumption) ?_); refine TDr.ask (by rfl) (fun h hk => ?_) (fun h => ?_)) | ((with_reducible refine Tw.any ?_); refine Tw.cond (by rfl) (fun h => ?_) (fun h => ?_))) <;> (try simp only [goS] at h) <;> (try simp only [rdi, rdy, Int.toNat_natCast, Nat.add_zero] at h) <;> (try (exfalso; (try simp only [goP, reduceCtorEq] at h) <;> (first | assumption | omega | contradiction | (rcases h with ⟨_, _⟩ <;> first | contradiction | omega) | (rcases h with h | h <;> first | contradiction | omega)))))
        | ((with_reducible refine tret.any ?_); first | refine tret.ok (by rfl) ?_ | refine tret.okN (by rfl) ?_)
        | ((with_reducible refine Due.mk ?_); (first | with_reducible rfl | omega | assumption | decide | ((try simp only [goS] at *) <;> (try intro h) <;> (try intro h') <;> (try simp only [goS] at *) <;> (try simp only [rdi, rdy, Int.toNat_natCast, Nat.add_zero] at *) <;> (try simp only [rng]) <;> (first | assumption | omega)) | (exact due_app0 (by omega)) | (exact due_app (by omega)) | (intros; simp; done) | (intros; simp; omega)))
        | with_reducible refine Due.mk ?_
        | omega)
      refine Tw.loopK [0, 1, 2, 5] (fun z : Nat => pre U (2 * (0)) ≤ z ∧ z ≤ pre U (2 * (0) + 1)) (fun z => w - z) (fun z => [(4, .int .i64 z)])
        (fun z => [some (.cells [.int .i64 w, .int .i64 k, .lst Ey d]), some (.cells [.nils]), some (.cells [.int .i64 (-1)]), some (.cells [.ptr 0 0]), some (.cells [.int .i64 yy])]) ⟨pre U (2 * (0)), ⟨Nat.le_refl _, by omega⟩, TWk.fcanon env [some 0, some 1, some 2, some 3, some 4] (by rfl) ?_⟩ (fun z hz => ?_)
      · repeat' (first
          | with_reducible first | exact Conj.nil | refine Conj.cons rfl ?_ | refine Conj.same ?_ | refine Conj.ask ?_ ?_
          | ((with_reducible refine Due.mk ?_); (first | with_reducible rfl | omega | assumption | decide | ((try simp only [goS] at *) <;> (try intro h) <;> (try intro h') <;> (try simp only [goS] at *) <;> (try simp only [rdi, rdy, Int.toNat_natCast, Nat.add_zero] at *) <;> (try simp only [rng]) <;> (first | assumption | omega)) | (exact due_app0 (by omega)) | (exact due_app (by omega)) | (intros; simp; done) | (intros; simp; omega)))
          | with_reducible refine Due.mk ?_
          | omega)
      obtain ⟨hz1, hz2⟩ := hz
      rcases Nat.lt_or_ge z (pre U (2 * (0) + 1)) with hz3 | hz3
      · have fc := is_c w k d z yy hk
        rw [hin z hz1 hz3] at fc
        repeat' (first
          | ((with_reducible refine TOps.any ?_); refine TOps.callE env (by rfl) (by rfl) (by rfl) ?_ (fc) (by rfl) ?_)
          | with_reducible first | refine Tw.seq ?_ | refine Tw.reg ?_ | refine Tw.block ?_ | refine Tw.scope ?_ | refine Tw.skip ?_ | refine Tw.exit ?_ | refine Tw.ret ?_ | refine seqN ?_ | refine seqR ?_ | refine seqE ?_ | refine rndN ?_ | refine blkN ?_ | refine blkR ?_ | refine blkE1 ?_ | refine blkE0 (by kernel_rfl) ?_ | refine scpN ?_ | refine scpR ?_ | refine scpE ?_ | refine TOps.nil ?_ | exact Conj.nil | refine Conj.cons rfl ?_ | refine Conj.same ?_ | refine Conj.ask ?_ ?_ | refine Tw.regd env ?_ | refine TDr.nil ⟨by kernel_rfl, ?_⟩
          | ((with_reducible refine TOps.any ?_); first | refine TOps.frunP env (by rfl) (by rfl) ?_ ?_ | (refine TOps.known (by rfl) ?_; refine TOps.strip env (by rfl) (by rfl) ?_ ?_) | refine TOps.on (by rfl) (by rfl) ?_)
          | ((with_reducible refine TDr.any ?_); refine TDr.frunP env (by rfl) (by rfl) ?_ ?_)
          | ((with_reducible refine Tw.any ?_); first | refine Tw.condT (by rfl) ?_ | refine Tw.condF (by rfl) ?_)
          | ((first | ((with_reducible refine TOps.any ?_); (fail_if_success refine TOps.known (by rfl) ?_); refine TOps.ask (by rfl) (fun h => ?_) (fun h => ?_)) | ((with_reducible refine TDr.any ?_); (fail_if_success refine TDr.known (by first | rfl | assumption) ?_); refine TDr.ask (by rfl) (fun h hk => ?_) (fun h => ?_)) | ((with_reducible refine Tw.any ?_); refine Tw.cond (by rfl) (fun h => ?_) (fun h => ?_))) <;> (try simp only [goS] at h) <;> (try simp only [rdi, rdy, Int.toNat_natCast, Nat.add_zero] at h) <;> (try (exfalso; (try simp only [goP, reduceCtorEq] at h) <;> (first | assumption | omega | contradiction | (rcases h with ⟨_, _⟩ <;> first | contradiction | omega) | (rcases h with h | h <;> first | contradiction | omega)))))
          | ((with_reducible refine tret.any ?_); first | refine tret.ok (by rfl) ?_ | refine tret.okN (by rfl) ?_)
          | ((with_reducible refine Due.mk ?_); (first | with_reducible rfl | omega | assumption | decide | ((try simp only [goS] at *) <;> (try intro h) <;> (try intro h') <;> (try simp only [goS] at *) <;> (try simp only [rdi, rdy, Int.toNat_natCast, Nat.add_zero] at *) <;> (try simp only [rng]) <;> (first | assumption | omega)) | (exact due_app0 (by omega)) | (exact due_app (by omega)) | (intros; simp; done) | (intros; simp; omega)))
          | with_reducible refine Due.mk ?_
          | omega)
        refine ⟨z + 1, ⟨by omega, by omega⟩, by omega, TWk.fcanon env [some 0, some 1, some 2, some 3, some 4] (by rfl) ?_⟩
        repeat' (first
          | with_reducible first | exact Conj.nil | refine Conj.cons rfl ?_ | refine Conj.same ?_ | refine Conj.ask ?_ ?_
          | ((with_reducible refine Due.mk ?_); (first | with_reducible rfl | omega | assumption | decide | ((try simp only [goS] at *) <;> (try intro h) <;> (try intro h') <;> (try simp only [goS] at *) <;> (try simp only [rdi, rdy, Int.toNat_natCast, Nat.add_zero] at *) <;> (try simp only [rng]) <;> (first | assumption | omega)) | (exact due_app0 (by omega)) | (exact due_app (by omega)) | (intros; simp; done) | (intros; simp; omega)))
          | with_reducible refine Due.mk ?_
          | omega)
      · have ez : z = pre U (2 * (0) + 1) := by omega
        subst ez
        have hend : ¬ ((pre U (2 * (0) + 1) : Nat) : Int) < (w : Int) ∨ px w k d (pre U (2 * (0) + 1)) yy = false := by
          rcases Nat.lt_or_ge (2 * (0) + 1) n with h5 | h5
          · right
            have h6 := pre_lt hU (show 2 * (0) + 1 < 2 * (0) + 2 by omega) (by omega)
            have h7 : pre U (2 * (0) + 2) ≤ w := by rw [← hw2]; exact pre_mono (by omega)
            rw [hp _ (by omega), barN_at (j := 2 * (0) + 1) (Nat.le_refl _) h6 (by omega)]; simp
          · left
            have : 2 * (0) + 1 = n := by omega
            rw [this, hw2]; omega
        have e1 : tab (2 * 0 + 1) (fun i => (U i : Int)) = cut [((pre U (2 * 0 + 1) : Nat) : Int) - ((pre U (2 * 0) : Nat) : Int)] 0 1 := by
          have : pre U (2 * 0 + 1) = pre U (2 * 0) + U 0 := rfl
          rw [show ((pre U (2 * 0 + 1) : Nat) : Int) - ((pre U (2 * 0) : Nat) : Int) = (U 0 : Int) by omega]; rfl
        have fc := is_c w k d (pre U (2 * (0) + 1)) yy hk
        have stepI : (0) + 1 ≤ m + 1 ∧ (1 ≤ (0) + 1 → pre U (2 * ((0) + 1) - 1) ≤ pre U (2 * (0) + 1)) ∧ ((0) + 1 ≤ m → pre U (2 * (0) + 1) ≤ pre U (2 * ((0) + 1))) ∧ ((0) + 1 = m + 1 → pre U (2 * (0) + 1) = w) := by
          refine ⟨by omega, fun _ => Nat.le_refl _, fun _ => pre_mono (by omega), fun h => ?_⟩
          rw [← hw2]; exact congrArg _ (by omega)
        rcases Nat.lt_or_ge (pre U (2 * (0) + 1)) w with hzw | hzw
        · have hfalse : px w k d (pre U (2 * (0) + 1)) yy = false := by
            rcases hend with h | h
            · exact absurd (by omega) h
            · exact h
          rw [hfalse] at fc
          repeat' (first
            | ((with_reducible refine TOps.any ?_); refine TOps.callE env (by rfl) (by rfl) (by rfl) ?_ (fc) (by rfl) ?_)
            | ((with_reducible refine TOps.any ?_); refine TOps.yld rfl (hok) (by rfl) (by rfl) (by rfl) (by rfl) ?_)
            | with_reducible first | refine Tw.seq ?_ | refine Tw.reg ?_ | refine Tw.block ?_ | refine Tw.scope ?_ | refine Tw.skip ?_ | refine Tw.exit ?_ | refine Tw.ret ?_ | refine seqN ?_ | refine seqR ?_ | refine seqE ?_ | refine rndN ?_ | refine blkN ?_ | refine blkR ?_ | refine blkE1 ?_ | refine blkE0 (by kernel_rfl) ?_ | refine scpN ?_ | refine scpR ?_ | refine scpE ?_ | refine TOps.nil ?_ | exact Conj.nil | refine Conj.cons rfl ?_ | refine Conj.same ?_ | refine Conj.ask ?_ ?_ | refine Tw.regd env ?_ | refine TDr.nil ⟨by kernel_rfl, ?_⟩
            | ((with_reducible refine TOps.any ?_); first | refine TOps.frunP env (by rfl) (by rfl) ?_ ?_ | (refine TOps.known (by rfl) ?_; refine TOps.strip env (by rfl) (by rfl) ?_ ?_) | refine TOps.on (by rfl) (by rfl) ?_)
            | ((with_reducible refine TDr.any ?_); refine TDr.frunP env (by rfl) (by rfl) ?_ ?_)
            | ((with_reducible refine Tw.any ?_); first | refine Tw.condT (by rfl) ?_ | refine Tw.condF (by rfl) ?_)
            | ((first | ((with_reducible refine TOps.any ?_); (fail_if_success refine TOps.known (by rfl) ?_); refine TOps.ask (by rfl) (fun h => ?_) (fun h => ?_)) | ((with_reducible refine TDr.any ?_); (fail_if_success refine TDr.known (by first | rfl | assumption) ?_); refine TDr.ask (by rfl) (fun h hk => ?_) (fun h => ?_)) | ((with_reducible refine Tw.any ?_); refine Tw.cond (by rfl) (fun h => ?_) (fun h => ?_))) <;> (try simp only [goS] at h) <;> (try simp only [rdi, rdy, Int.toNat_natCast, Nat.add_zero] at h) <;> (try (exfalso; (try simp only [goP, reduceCtorEq] at h) <;> (first | assumption | omega | contradiction | (rcases h with ⟨_, _⟩ <;> first | contradiction | omega) | (rcases h with h | h <;> first | contradiction | omega)))))
            | ((with_reducible refine tret.any ?_); first | refine tret.ok (by rfl) ?_ | refine tret.okN (by rfl) ?_)
            | ((with_reducible refine Due.mk ?_); (first | with_reducible rfl | omega | assumption | decide | ((try simp only [goS] at *) <;> (try intro h) <;> (try intro h') <;> (try simp only [goS] at *) <;> (try simp only [rdi, rdy, Int.toNat_natCast, Nat.add_zero] at *) <;> (try simp only [rng]) <;> (first | assumption | omega)) | (exact due_app0 (by omega)) | (exact due_app (by omega)) | (intros; simp; done) | (intros; simp; omega)))
            | with_reducible refine Due.mk ?_
            | omega)
          refine ⟨((0) + 1, pre U (2 * (0) + 1)), stepI, by simp only; omega, TWk.fcanon env [some 0, some 1, some 2, some 3, some 4, some 7] (by rfl) ?_⟩
          repeat' (first
            | exact e1
            | exact rfl
            | with_reducible first | exact Conj.nil | refine Conj.cons rfl ?_ | refine Conj.same ?_ | refine Conj.ask ?_ ?_
            | ((with_reducible refine Due.mk ?_); (first | with_reducible rfl | omega | assumption | decide | ((try simp only [goS] at *) <;> (try intro h) <;> (try intro h') <;> (try simp only [goS] at *) <;> (try simp only [rdi, rdy, Int.toNat_natCast, Nat.add_zero] at *) <;> (try simp only [rng]) <;> (first | assumption | omega)) | (exact due_app0 (by omega)) | (exact due_app (by omega)) | (intros; simp; done) | (intros; simp; omega)))
            | with_reducible refine Due.mk ?_
            | omega)
        · repeat' (first
            | ((with_reducible refine TOps.any ?_); refine TOps.yld rfl (hok) (by rfl) (by rfl) (by rfl) (by rfl) ?_)
            | with_reducible first | refine Tw.seq ?_ | refine Tw.reg ?_ | refine Tw.block ?_ | refine Tw.scope ?_ | refine Tw.skip ?_ | refine Tw.exit ?_ | refine Tw.ret ?_ | refine seqN ?_ | refine seqR ?_ | refine seqE ?_ | refine rndN ?_ | refine blkN ?_ | refine blkR ?_ | refine blkE1 ?_ | refine blkE0 (by kernel_rfl) ?_ | refine scpN ?_ | refine scpR ?_ | refine scpE ?_ | refine TOps.nil ?_ | exact Conj.nil | refine Conj.cons rfl ?_ | refine Conj.same ?_ | refine Conj.ask ?_ ?_ | refine Tw.regd env ?_ | refine TDr.nil ⟨by kernel_rfl, ?_⟩
            | ((with_reducible refine TOps.any ?_); first | refine TOps.frunP env (by rfl) (by rfl) ?_ ?_ | (refine TOps.known (by rfl) ?_; refine TOps.strip env (by rfl) (by rfl) ?_ ?_) | refine TOps.on (by rfl) (by rfl) ?_)
            | ((with_reducible refine TDr.any ?_); refine TDr.frunP env (by rfl) (by rfl) ?_ ?_)
            | ((with_reducible refine Tw.any ?_); first | refine Tw.condT (by rfl) ?_ | refine Tw.condF (by rfl) ?_)
            | ((first | ((with_reducible refine TOps.any ?_); (fail_if_success refine TOps.known (by rfl) ?_); refine TOps.ask (by rfl) (fun h => ?_) (fun h => ?_)) | ((with_reducible refine TDr.any ?_); (fail_if_success refine TDr.known (by first | rfl | assumption) ?_); refine TDr.ask (by rfl) (fun h hk => ?_) (fun h => ?_)) | ((with_reducible refine Tw.any ?_); refine Tw.cond (by rfl) (fun h => ?_) (fun h => ?_))) <;> (try simp only [goS] at h) <;> (try simp only [rdi, rdy, Int.toNat_natCast, Nat.add_zero] at h) <;> (try (exfalso; (try simp only [goP, reduceCtorEq] at h) <;> (first | assumption | omega | contradiction | (rcases h with ⟨_, _⟩ <;> first | contradiction | omega) | (rcases h with h | h <;> first | contradiction | omega)))))
            | ((with_reducible refine tret.any ?_); first | refine tret.ok (by rfl) ?_ | refine tret.okN (by rfl) ?_)
            | ((with_reducible refine Due.mk ?_); (first | with_reducible rfl | omega | assumption | decide | ((try simp only [goS] at *) <;> (try intro h) <;> (try intro h') <;> (try simp only [goS] at *) <;> (try simp only [rdi, rdy, Int.toNat_natCast, Nat.add_zero] at *) <;> (try simp only [rng]) <;> (first | assumption | omega)) | (exact due_app0 (by omega)) | (exact due_app (by omega)) | (intros; simp; done) | (intros; simp; omega)))
            | with_reducible refine Due.mk ?_
            | omega)
          refine ⟨((0) + 1, pre U (2 * (0) + 1)), stepI, by simp only; omega, TWk.fcanon env [some 0, some 1, some 2, some 3, some 4, some 7] (by rfl) ?_⟩
          repeat' (first
            | exact e1
            | exact rfl
            | with_reducible first | exact Conj.nil | refine Conj.cons rfl ?_ | refine Conj.same ?_ | refine Conj.ask ?_ ?_
            | ((with_reducible refine Due.mk ?_); (first | with_reducible rfl | omega | assumption | decide | ((try simp only [goS] at *) <;> (try intro h) <;> (try intro h') <;> (try simp only [goS] at *) <;> (try simp only [rdi, rdy, Int.toNat_natCast, Nat.add_zero] at *) <;> (try simp only [rng]) <;> (first | assumption | omega)) | (exact due_app0 (by omega)) | (exact due_app (by omega)) | (intros; simp; done) | (intros; simp; omega)))
            | with_reducible refine Due.mk ?_
            | omega)
  rcases Nat.lt_or_ge x w with hx | hx
  · have hj : j + 1 ≤ m := by
      rcases Nat.lt_or_ge m (j + 1) with h | h
      · exact absurd (h3 (by omega)) (by omega)
      · exact h
    have h1' : pre U (2 * j + 1) ≤ x := h1 (by omega)
    have h2' : x ≤ pre U (2 * (j + 1)) := h2 hj
    rcases Nat.lt_or_ge x (pre U (2 * (j + 1))) with hs | hs
    · have fc := is_c w k d x yy hk
      rw [hp x hx, barN_at (j := 2 * j + 1) h1' hs (by omega), decide_eq_false (by omega)] at fc
      repeat' (first
        | ((with_reducible refine TOps.any ?_); refine TOps.callE env (by rfl) (by rfl) (by rfl) ?_ (fc) (by rfl) ?_)
        | with_reducible first | refine Tw.seq ?_ | refine Tw.reg ?_ | refine Tw.block ?_ | refine Tw.scope ?_ | refine Tw.skip ?_ | refine Tw.exit ?_ | refine Tw.ret ?_ | refine seqN ?_ | refine seqR ?_ | refine seqE ?_ | refine rndN ?_ | refine blkN ?_ | refine blkR ?_ | refine blkE1 ?_ | refine blkE0 (by kernel_rfl) ?_ | refine scpN ?_ | refine scpR ?_ | refine scpE ?_ | refine TOps.nil ?_ | exact Conj.nil | refine Conj.cons rfl ?_ | refine Conj.same ?_ | refine Conj.ask ?_ ?_ | refine Tw.regd env ?_ | refine TDr.nil ⟨by kernel_rfl, ?_⟩
        | ((with_reducible refine TOps.any ?_); first | refine TOps.frunP env (by rfl) (by rfl) ?_ ?_ | (refine TOps.known (by rfl) ?_; refine TOps.strip env (by rfl) (by rfl) ?_ ?_) | refine TOps.on (by rfl) (by rfl) ?_)
        | ((with_reducible refine TDr.any ?_); refine TDr.frunP env (by rfl) (by rfl) ?_ ?_)
        | ((with_reducible refine Tw.any ?_); first | refine Tw.condT (by rfl) ?_ | refine Tw.condF (by rfl) ?_)
        | ((first | ((with_reducible refine TOps.any ?_); (fail_if_success refine TOps.known (by rfl) ?_); refine TOps.ask (by rfl) (fun h => ?_) (fun h => ?_)) | ((with_reducible refine TDr.any ?_); (fail_if_success refine TDr.known (by first | rfl | assumption) ?_); refine TDr.ask (by rfl) (fun h hk => ?_) (fun h => ?_)) | ((with_reducible refine Tw.any ?_); refine Tw.cond (by rfl) (fun h => ?_) (fun h => ?_))) <;> (try simp only [goS] at h) <;> (try simp only [rdi, rdy, Int.toNat_natCast, Nat.add_zero] at h) <;> (try (exfalso; (try simp only [goP, reduceCtorEq] at h) <;> (first | assumption | omega | contradiction | (rcases h with ⟨_, _⟩ <;> first | contradiction | omega) | (rcases h with h | h <;> first | contradiction | omega)))))
        | ((with_reducible refine tret.any ?_); first | refine tret.ok (by rfl) ?_ | refine tret.okN (by rfl) ?_)
        | ((with_reducible refine Due.mk ?_); (first | with_reducible rfl | omega | assumption | decide | ((try simp only [goS] at *) <;> (try intro h) <;> (try intro h') <;> (try simp only [goS] at *) <;> (try simp only [rdi, rdy, Int.toNat_natCast, Nat.add_zero] at *) <;> (try simp only [rng]) <;> (first | assumption | omega)) | (exact due_app0 (by omega)) | (exact due_app (by omega)) | (intros; simp; done) | (intros; simp; omega)))
        | with_reducible refine Due.mk ?_
        | omega)
      refine ⟨(j + 1, x + 1), ⟨by simp only; omega, fun _ => by show pre U (2 * j + 1) ≤ x + 1; omega, fun _ => hs, fun h => by simp only at h; omega⟩, by simp only; omega, TWk.fcanon env [some 0, some 1, some 2, some 3, some 4, some 5] (by rfl) ?_⟩
      repeat' (first
        | with_reducible first | exact Conj.nil | refine Conj.cons rfl ?_ | refine Conj.same ?_ | refine Conj.ask ?_ ?_
        | ((with_reducible refine Due.mk ?_); (first | with_reducible rfl | omega | assumption | decide | ((try simp only [goS] at *) <;> (try intro h) <;> (try intro h') <;> (try simp only [goS] at *) <;> (try simp only [rdi, rdy, Int.toNat_natCast, Nat.add_zero] at *) <;> (try simp only [rng]) <;> (first | assumption | omega)) | (exact due_app0 (by omega)) | (exact due_app (by omega)) | (intros; simp; done) | (intros; simp; omega)))
        | with_reducible refine Due.mk ?_
        | omega)
    · have ex : x = pre U (2 * (j + 1)) := by omega
      subst ex
      have hlt : pre U (2 * (j + 1)) < pre U (2 * (j + 1) + 1) := pre_lt hU (by omega) (by omega)
      have hle : pre U (2 * (j + 1) + 1) ≤ w := by rw [← hw2]; exact pre_mono (by omega)
      have lt1 : (tab (2 * j + 1) fun i => (U i : Int)).length = 2 * j + 1 := tab_len
      have hin : ∀ z : Nat, pre U (2 * (j + 1)) ≤ z → z < pre U (2 * (j + 1) + 1) → px w k d z yy = true := fun z h1 h2 => by
        rw [hp z (by omega), barN_at (j := 2 * (j + 1)) h1 h2 (by omega)]; simp
      have fcx := is_c w k d (pre U (2 * (j + 1))) yy hk
      rw [hin _ (Nat.le_refl _) hlt] at fcx
      repeat' (first
        | ((with_reducible refine TOps.any ?_); refine TOps.callE env (by rfl) (by rfl) (by rfl) ?_ (fcx) (by rfl) ?_)
        | with_reducible first | refine Tw.seq ?_ | refine Tw.reg ?_ | refine Tw.block ?_ | refine Tw.scope ?_ | refine Tw.skip ?_ | refine Tw.exit ?_ | refine Tw.ret ?_ | refine seqN ?_ | refine seqR ?_ | refine seqE ?_ | refine rndN ?_ | refine blkN ?_ | refine blkR ?_ | refine blkE1 ?_ | refine blkE0 (by kernel_rfl) ?_ | refine scpN ?_ | refine scpR ?_ | refine scpE ?_ | refine TOps.nil ?_ | exact Conj.nil | refine Conj.cons rfl ?_ | refine Conj.same ?_ | refine Conj.ask ?_ ?_ | refine Tw.regd env ?_ | refine TDr.nil ⟨by kernel_rfl, ?_⟩
        | ((with_reducible refine TOps.any ?_); first | refine TOps.frunP env (by rfl) (by rfl) ?_ ?_ | (refine TOps.known (by rfl) ?_; refine TOps.strip env (by rfl) (by rfl) ?_ ?_) | refine TOps.on (by rfl) (by rfl) ?_)
        | ((with_reducible refine TDr.any ?_); refine TDr.frunP env (by rfl) (by rfl) ?_ ?_)
        | ((with_reducible refine Tw.any ?_); first | refine Tw.condT (by rfl) ?_ | refine Tw.condF (by rfl) ?_)
        | ((first | ((with_reducible refine TOps.any ?_); (fail_if_success refine TOps.known (by rfl) ?_); refine TOps.ask (by rfl) (fun h => ?_) (fun h => ?_)) | ((with_reducible refine TDr.any ?_); (fail_if_success refine TDr.known (by first | rfl | assumption) ?_); refine TDr.ask (by rfl) (fun h hk => ?_) (fun h => ?_)) | ((with_reducible refine Tw.any ?_); refine Tw.cond (by rfl) (fun h => ?_) (fun h => ?_))) <;> (try simp only [goS] at h) <;> (try simp only [rdi, rdy, Int.toNat_natCast, Nat.add_zero] at h) <;> (try (exfalso; (try simp only [goP, reduceCtorEq] at h) <;> (first | assumption | omega | contradiction | (rcases h with ⟨_, _⟩ <;> first | contradiction | omega) | (rcases h with h | h <;> first | contradiction | omega)))))
        | ((with_reducible refine tret.any ?_); first | refine tret.ok (by rfl) ?_ | refine tret.okN (by rfl) ?_)
        | ((with_reducible refine Due.mk ?_); (first | with_reducible rfl | omega | assumption | decide | ((try simp only [goS] at *) <;> (try intro h) <;> (try intro h') <;> (try simp only [goS] at *) <;> (try simp only [rdi, rdy, Int.toNat_natCast, Nat.add_zero] at *) <;> (try simp only [rng]) <;> (first | assumption | omega)) | (exact due_app0 (by omega)) | (exact due_app (by omega)) | (intros; simp; done) | (intros; simp; omega)))
        | with_reducible refine Due.mk ?_
        | omega)
      refine Tw.loopK [0, 1, 2, 5] (fun z : Nat => pre U (2 * (j + 1)) ≤ z ∧ z ≤ pre U (2 * (j + 1) + 1)) (fun z => w - z) (fun z => [(4, .int .i64 z)])
        (fun z => [some (.cells [.int .i64 w, .int .i64 k, .lst Ey d]), some (.cells [.sla 1 5 0 (2 * j + 1)]), some (.cells [.int .i64 (pre U (2 * j + 1))]), some (.cells [.ptr 0 0]), some (.cells [.int .i64 yy]), some (.arr Ei (tab (2 * j + 1) fun i => (U i : Int)))]) ⟨pre U (2 * (j + 1)), ⟨Nat.le_refl _, by omega⟩, TWk.fcanon env [some 0, some 1, some 2, some 3, some 4, some 5] (by rfl) ?_⟩ (fun z hz => ?_)
      · repeat' (first
          | with_reducible first | exact Conj.nil | refine Conj.cons rfl ?_ | refine Conj.same ?_ | refine Conj.ask ?_ ?_
          | ((with_reducible refine Due.mk ?_); (first | with_reducible rfl | omega | assumption | decide | ((try simp only [goS] at *) <;> (try intro h) <;> (try intro h') <;> (try simp only [goS] at *) <;> (try simp only [rdi, rdy, Int.toNat_natCast, Nat.add_zero] at *) <;> (try simp only [rng]) <;> (first | assumption | omega)) | (exact due_app0 (by omega)) | (exact due_app (by omega)) | (intros; simp; done) | (intros; simp; omega)))
          | with_reducible refine Due.mk ?_
          | omega)
      obtain ⟨hz1, hz2⟩ := hz
      rcases Nat.lt_or_ge z (pre U (2 * (j + 1) + 1)) with hz3 | hz3
      · have fc := is_c w k d z yy hk
        rw [hin z hz1 hz3] at fc
        repeat' (first
          | ((with_reducible refine TOps.any ?_); refine TOps.callE env (by rfl) (by rfl) (by rfl) ?_ (fc) (by rfl) ?_)
          | with_reducible first | refine Tw.seq ?_ | refine Tw.reg ?_ | refine Tw.block ?_ | refine Tw.scope ?_ | refine Tw.skip ?_ | refine Tw.exit ?_ | refine Tw.ret ?_ | refine seqN ?_ | refine seqR ?_ | refine seqE ?_ | refine rndN ?_ | refine blkN ?_ | refine blkR ?_ | refine blkE1 ?_ | refine blkE0 (by kernel_rfl) ?_ | refine scpN ?_ | refine scpR ?_ | refine scpE ?_ | refine TOps.nil ?_ | exact Conj.nil | refine Conj.cons rfl ?_ | refine Conj.same ?_ | refine Conj.ask ?_ ?_ | refine Tw.regd env ?_ | refine TDr.nil ⟨by kernel_rfl, ?_⟩
          | ((with_reducible refine TOps.any ?_); first | refine TOps.frunP env (by rfl) (by rfl) ?_ ?_ | (refine TOps.known (by rfl) ?_; refine TOps.strip env (by rfl) (by rfl) ?_ ?_) | refine TOps.on (by rfl) (by rfl) ?_)
          | ((with_reducible refine TDr.any ?_); refine TDr.frunP env (by rfl) (by rfl) ?_ ?_)
          | ((with_reducible refine Tw.any ?_); first | refine Tw.condT (by rfl) ?_ | refine Tw.condF (by rfl) ?_)
          | ((first | ((with_reducible refine TOps.any ?_); (fail_if_success refine TOps.known (by rfl) ?_); refine TOps.ask (by rfl) (fun h => ?_) (fun h => ?_)) | ((with_reducible refine TDr.any ?_); (fail_if_success refine TDr.known (by first | rfl | assumption) ?_); refine TDr.ask (by rfl) (fun h hk => ?_) (fun h => ?_)) | ((with_reducible refine Tw.any ?_); refine Tw.cond (by rfl) (fun h => ?_) (fun h => ?_))) <;> (try simp only [goS] at h) <;> (try simp only [rdi, rdy, Int.toNat_natCast, Nat.add_zero] at h) <;> (try (exfalso; (try simp only [goP, reduceCtorEq] at h) <;> (first | assumption | omega | contradiction | (rcases h with ⟨_, _⟩ <;> first | contradiction | omega) | (rcases h with h | h <;> first | contradiction | omega)))))
          | ((with_reducible refine tret.any ?_); first | refine tret.ok (by rfl) ?_ | refine tret.okN (by rfl) ?_)
          | ((with_reducible refine Due.mk ?_); (first | with_reducible rfl | omega | assumption | decide | ((try simp only [goS] at *) <;> (try intro h) <;> (try intro h') <;> (try simp only [goS] at *) <;> (try simp only [rdi, rdy, Int.toNat_natCast, Nat.add_zero] at *) <;> (try simp only [rng]) <;> (first | assumption | omega)) | (exact due_app0 (by omega)) | (exact due_app (by omega)) | (intros; simp; done) | (intros; simp; omega)))
          | with_reducible refine Due.mk ?_
          | omega)
        refine ⟨z + 1, ⟨by omega, by omega⟩, by omega, TWk.fcanon env [some 0, some 1, some 2, some 3, some 4, some 5] (by rfl) ?_⟩
        repeat' (first
          | with_reducible first | exact Conj.nil | refine Conj.cons rfl ?_ | refine Conj.same ?_ | refine Conj.ask ?_ ?_
          | ((with_reducible refine Due.mk ?_); (first | with_reducible rfl | omega | assumption | decide | ((try simp only [goS] at *) <;> (try intro h) <;> (try intro h') <;> (try simp only [goS] at *) <;> (try simp only [rdi, rdy, Int.toNat_natCast, Nat.add_zero] at *) <;> (try simp only [rng]) <;> (first | assumption | omega)) | (exact due_app0 (by omega)) | (exact due_app (by omega)) | (intros; simp; done) | (intros; simp; omega)))
          | with_reducible refine Due.mk ?_
          | omega)
      · have ez : z = pre U (2 * (j + 1) + 1) := by omega
        subst ez
        have hend : ¬ ((pre U (2 * (j + 1) + 1) : Nat) : Int) < (w : Int) ∨ px w k d (pre U (2 * (j + 1) + 1)) yy = false := by
          rcases Nat.lt_or_ge (2 * (j + 1) + 1) n with h5 | h5
          · right
            have h6 := pre_lt hU (show 2 * (j + 1) + 1 < 2 * (j + 1) + 2 by omega) (by omega)
            have h7 : pre U (2 * (j + 1) + 2) ≤ w := by rw [← hw2]; exact pre_mono (by omega)
            rw [hp _ (by omega), barN_at (j := 2 * (j + 1) + 1) (Nat.le_refl _) h6 (by omega)]; simp
          · left
            have : 2 * (j + 1) + 1 = n := by omega
            rw [this, hw2]; omega
        have d1 : (2 * j + 1 + (cut [((pre U (2 * (j + 1)) : Nat) : Int) - ((pre U (2 * j + 1) : Nat) : Int)] 0 1).length) * 8 ≤ 140737488355328 ∧ 2 * j + 1 + (cut [((pre U (2 * (j + 1)) : Nat) : Int) - ((pre U (2 * j + 1) : Nat) : Int)] 0 1).length ≤ 140737488355328 := by rw [cut_one]; simp only [List.length_singleton]; omega
        have d2 : 0 + (2 * j + 1 + (cut [((pre U (2 * (j + 1)) : Nat) : Int) - ((pre U (2 * j + 1) : Nat) : Int)] 0 1).length) ≤ (cut (tab (2 * j + 1) fun i => (U i : Int)) 0 (2 * j + 1) ++ cut [((pre U (2 * (j + 1)) : Nat) : Int) - ((pre U (2 * j + 1) : Nat) : Int)] 0 1).length := by rw [List.length_append, cut_tab, tab_len]; omega
        have d3 : (2 * j + 1 + (cut [((pre U (2 * (j + 1)) : Nat) : Int) - ((pre U (2 * j + 1) : Nat) : Int)] 0 1).length + (cut [((pre U (2 * (j + 1) + 1) : Nat) : Int) - ((pre U (2 * (j + 1)) : Nat) : Int)] 0 1).length) * 8 ≤ 140737488355328 ∧ 2 * j + 1 + (cut [((pre U (2 * (j + 1)) : Nat) : Int) - ((pre U (2 * j + 1) : Nat) : Int)] 0 1).length + (cut [((pre U (2 * (j + 1) + 1) : Nat) : Int) - ((pre U (2 * (j + 1)) : Nat) : Int)] 0 1).length ≤ 140737488355328 := by rw [cut_one, cut_one]; simp only [List.length_singleton]; omega
        have e1 : tab (2 * (j + 1) + 1) (fun i => (U i : Int)) = cut (cut (tab (2 * j + 1) fun i => (U i : Int)) 0 (2 * j + 1) ++ cut [((pre U (2 * (j + 1)) : Nat) : Int) - ((pre U (2 * j + 1) : Nat) : Int)] 0 1) 0 (2 * j + 1 + (cut [((pre U (2 * (j + 1)) : Nat) : Int) - ((pre U (2 * j + 1) : Nat) : Int)] 0 1).length) ++ cut [((pre U (2 * (j + 1) + 1) : Nat) : Int) - ((pre U (2 * (j + 1)) : Nat) : Int)] 0 1 := by
          have p1 : pre U (2 * (j + 1)) = pre U (2 * j + 1) + U (2 * j + 1) := rfl
          have p2 : pre U (2 * (j + 1) + 1) = pre U (2 * (j + 1)) + U (2 * (j + 1)) := rfl
          rw [show ((pre U (2 * (j + 1)) : Nat) : Int) - ((pre U (2 * j + 1) : Nat) : Int) = (U (2 * j + 1) : Int) by omega, show ((pre U (2 * (j + 1) + 1) : Nat) : Int) - ((pre U (2 * (j + 1)) : Nat) : Int) = (U (2 * (j + 1)) : Int) by omega]
          rw [cut_tab, cut_one, cut_one, tab_succ, cut_all (by rw [List.length_append, tab_len]), show 2 * (j + 1) = 2 * j + 1 + 1 by omega, tab_succ]
        have fc := is_c w k d (pre U (2 * (j + 1) + 1)) yy hk
        have stepI : (j + 1) + 1 ≤ m + 1 ∧ (1 ≤ (j + 1) + 1 → pre U (2 * ((j + 1) + 1) - 1) ≤ pre U (2 * (j + 1) + 1)) ∧ ((j + 1) + 1 ≤ m → pre U (2 * (j + 1) + 1) ≤ pre U (2 * ((j + 1) + 1))) ∧ ((j + 1) + 1 = m + 1 → pre U (2 * (j + 1) + 1) = w) := by
          refine ⟨by omega, fun _ => Nat.le_refl _, fun _ => pre_mono (by omega), fun h => ?_⟩
          rw [← hw2]; exact congrArg _ (by omega)
        rcases Nat.lt_or_ge (pre U (2 * (j + 1) + 1)) w with hzw | hzw
        · have hfalse : px w k d (pre U (2 * (j + 1) + 1)) yy = false := by
            rcases hend with h | h
            · exact absurd (by omega) h
            · exact h
          rw [hfalse] at fc
          repeat' (first
            | ((with_reducible refine TOps.any ?_); refine TOps.callE env (by rfl) (by rfl) (by rfl) ?_ (fc) (by rfl) ?_)
            | ((with_reducible refine TOps.any ?_); refine TOps.yld rfl (hok) (by rfl) (by rfl) (by rfl) (by rfl) ?_)
            | exact d1
            | exact d2
            | exact d3
            | with_reducible first | refine Tw.seq ?_ | refine Tw.reg ?_ | refine Tw.block ?_ | refine Tw.scope ?_ | refine Tw.skip ?_ | refine Tw.exit ?_ | refine Tw.ret ?_ | refine seqN ?_ | refine seqR ?_ | refine seqE ?_ | refine rndN ?_ | refine blkN ?_ | refine blkR ?_ | refine blkE1 ?_ | refine blkE0 (by kernel_rfl) ?_ | refine scpN ?_ | refine scpR ?_ | refine scpE ?_ | refine TOps.nil ?_ | exact Conj.nil | refine Conj.cons rfl ?_ | refine Conj.same ?_ | refine Conj.ask ?_ ?_ | refine Tw.regd env ?_ | refine TDr.nil ⟨by kernel_rfl, ?_⟩
            | ((with_reducible refine TOps.any ?_); first | refine TOps.frunP env (by rfl) (by rfl) ?_ ?_ | (refine TOps.known (by rfl) ?_; refine TOps.strip env (by rfl) (by rfl) ?_ ?_) | refine TOps.on (by rfl) (by rfl) ?_)
            | ((with_reducible refine TDr.any ?_); refine TDr.frunP env (by rfl) (by rfl) ?_ ?_)
            | ((with_reducible refine Tw.any ?_); first | refine Tw.condT (by rfl) ?_ | refine Tw.condF (by rfl) ?_)
            | ((first | ((with_reducible refine TOps.any ?_); (fail_if_success refine TOps.known (by rfl) ?_); refine TOps.ask (by rfl) (fun h => ?_) (fun h => ?_)) | ((with_reducible refine TDr.any ?_); (fail_if_success refine TDr.known (by first | rfl | assumption) ?_); refine TDr.ask (by rfl) (fun h hk => ?_) (fun h => ?_)) | ((with_reducible refine Tw.any ?_); refine Tw.cond (by rfl) (fun h => ?_) (fun h => ?_))) <;> (try simp only [goS] at h) <;> (try simp only [rdi, rdy, Int.toNat_natCast, Nat.add_zero] at h) <;> (try (exfalso; (try simp only [goP, reduceCtorEq] at h) <;> (first | assumption | omega | contradiction | (rcases h with ⟨_, _⟩ <;> first | contradiction | omega) | (rcases h with h | h <;> first | contradiction | omega)))))
            | ((with_reducible refine tret.any ?_); first | refine tret.ok (by rfl) ?_ | refine tret.okN (by rfl) ?_)
            | ((with_reducible refine Due.mk ?_); (first | with_reducible rfl | omega | assumption | decide | ((try simp only [goS] at *) <;> (try intro h) <;> (try intro h') <;> (try simp only [goS] at *) <;> (try simp only [rdi, rdy, Int.toNat_natCast, Nat.add_zero] at *) <;> (try simp only [rng]) <;> (first | assumption | omega)) | (exact due_app0 (by omega)) | (exact due_app (by omega)) | (intros; simp; done) | (intros; simp; omega)))
            | with_reducible refine Due.mk ?_
            | omega)
          refine ⟨((j + 1) + 1, pre U (2 * (j + 1) + 1)), stepI, by simp only; omega, TWk.fcanon env [some 0, some 1, some 2, some 3, some 4, some 10] (by rfl) ?_⟩
          repeat' (first
            | exact e1
            | exact rfl
            | with_reducible first | exact Conj.nil | refine Conj.cons rfl ?_ | refine Conj.same ?_ | refine Conj.ask ?_ ?_
            | ((with_reducible refine Due.mk ?_); (first | with_reducible rfl | omega | assumption | decide | ((try simp only [goS] at *) <;> (try intro h) <;> (try intro h') <;> (try simp only [goS] at *) <;> (try simp only [rdi, rdy, Int.toNat_natCast, Nat.add_zero] at *) <;> (try simp only [rng]) <;> (first | assumption | omega)) | (exact due_app0 (by omega)) | (exact due_app (by omega)) | (intros; simp; done) | (intros; simp; omega)))
            | with_reducible refine Due.mk ?_
            | omega)
        · repeat' (first
            | ((with_reducible refine TOps.any ?_); refine TOps.yld rfl (hok) (by rfl) (by rfl) (by rfl) (by rfl) ?_)
            | exact d1
            | exact d2
            | exact d3
            | with_reducible first | refine Tw.seq ?_ | refine Tw.reg ?_ | refine Tw.block ?_ | refine Tw.scope ?_ | refine Tw.skip ?_ | refine Tw.exit ?_ | refine Tw.ret ?_ | refine seqN ?_ | refine seqR ?_ | refine seqE ?_ | refine rndN ?_ | refine blkN ?_ | refine blkR ?_ | refine blkE1 ?_ | refine blkE0 (by kernel_rfl) ?_ | refine scpN ?_ | refine scpR ?_ | refine scpE ?_ | refine TOps.nil ?_ | exact Conj.nil | refine Conj.cons rfl ?_ | refine Conj.same ?_ | refine Conj.ask ?_ ?_ | refine Tw.regd env ?_ | refine TDr.nil ⟨by kernel_rfl, ?_⟩
            | ((with_reducible refine TOps.any ?_); first | refine TOps.frunP env (by rfl) (by rfl) ?_ ?_ | (refine TOps.known (by rfl) ?_; refine TOps.strip env (by rfl) (by rfl) ?_ ?_) | refine TOps.on (by rfl) (by rfl) ?_)
            | ((with_reducible refine TDr.any ?_); refine TDr.frunP env (by rfl) (by rfl) ?_ ?_)
            | ((with_reducible refine Tw.any ?_); first | refine Tw.condT (by rfl) ?_ | refine Tw.condF (by rfl) ?_)
            | ((first | ((with_reducible refine TOps.any ?_); (fail_if_success refine TOps.known (by rfl) ?_); refine TOps.ask (by rfl) (fun h => ?_) (fun h => ?_)) | ((with_reducible refine TDr.any ?_); (fail_if_success refine TDr.known (by first | rfl | assumption) ?_); refine TDr.ask (by rfl) (fun h hk => ?_) (fun h => ?_)) | ((with_reducible refine Tw.any ?_); refine Tw.cond (by rfl) (fun h => ?_) (fun h => ?_))) <;> (try simp only [goS] at h) <;> (try simp only [rdi, rdy, Int.toNat_natCast, Nat.add_zero] at h) <;> (try (exfalso; (try simp only [goP, reduceCtorEq] at h) <;> (first | assumption | omega | contradiction | (rcases h with ⟨_, _⟩ <;> first | contradiction | omega) | (rcases h with h | h <;> first | contradiction | omega)))))
            | ((with_reducible refine tret.any ?_); first | refine tret.ok (by rfl) ?_ | refine tret.okN (by rfl) ?_)
            | ((with_reducible refine Due.mk ?_); (first | with_reducible rfl | omega | assumption | decide | ((try simp only [goS] at *) <;> (try intro h) <;> (try intro h') <;> (try simp only [goS] at *) <;> (try simp only [rdi, rdy, Int.toNat_natCast, Nat.add_zero] at *) <;> (try simp only [rng]) <;> (first | assumption | omega)) | (exact due_app0 (by omega)) | (exact due_app (by omega)) | (intros; simp; done) | (intros; simp; omega)))
            | with_reducible refine Due.mk ?_
            | omega)
          refine ⟨((j + 1) + 1, pre U (2 * (j + 1) + 1)), stepI, by simp only; omega, TWk.fcanon env [some 0, some 1, some 2, some 3, some 4, some 10] (by rfl) ?_⟩
          repeat' (first
            | exact e1
            | exact rfl
            | with_reducible first | exact Conj.nil | refine Conj.cons rfl ?_ | refine Conj.same ?_ | refine Conj.ask ?_ ?_
            | ((with_reducible refine Due.mk ?_); (first | with_reducible rfl | omega | assumption | decide | ((try simp only [goS] at *) <;> (try intro h) <;> (try intro h') <;> (try simp only [goS] at *) <;> (try simp only [rdi, rdy, Int.toNat_natCast, Nat.add_zero] at *) <;> (try simp only [rng]) <;> (first | assumption | omega)) | (exact due_app0 (by omega)) | (exact due_app (by omega)) | (intros; simp; done) | (intros; simp; omega)))
            | with_reducible refine Due.mk ?_
            | omega)
  · have hj : j = m := by
      rcases Nat.lt_or_ge j m with h | h
      · have h4 := h2 (by omega)
        have h5 : pre U (2 * (j + 1)) < pre U n := pre_lt hU (by omega) (by omega)
        omega
      · omega
    subst hj
    have ex : x = w := h3 (by omega)
    subst ex
    have ew : pre U (2 * j + 1) = x := by rw [← hw2, hn]
    repeat' (first
      | with_reducible first | refine Tw.seq ?_ | refine Tw.reg ?_ | refine Tw.block ?_ | refine Tw.scope ?_ | refine Tw.skip ?_ | refine Tw.exit ?_ | refine Tw.ret ?_ | refine seqN ?_ | refine seqR ?_ | refine seqE ?_ | refine rndN ?_ | refine blkN ?_ | refine blkR ?_ | refine blkE1 ?_ | refine blkE0 (by kernel_rfl) ?_ | refine scpN ?_ | refine scpR ?_ | refine scpE ?_ | refine TOps.nil ?_ | exact Conj.nil | refine Conj.cons rfl ?_ | refine Conj.same ?_ | refine Conj.ask ?_ ?_ | refine Tw.regd env ?_ | refine TDr.nil ⟨by kernel_rfl, ?_⟩
      | ((with_reducible refine TOps.any ?_); first | refine TOps.frunP env (by rfl) (by rfl) ?_ ?_ | (refine TOps.known (by rfl) ?_; refine TOps.strip env (by rfl) (by rfl) ?_ ?_) | refine TOps.on (by rfl) (by rfl) ?_)
      | ((with_reducible refine TDr.any ?_); refine TDr.frunP env (by rfl) (by rfl) ?_ ?_)
      | ((with_reducible refine Tw.any ?_); first | refine Tw.condT (by rfl) ?_ | refine Tw.condF (by rfl) ?_)
      | ((first | ((with_reducible refine TOps.any ?_); (fail_if_success refine TOps.known (by rfl) ?_); refine TOps.ask (by rfl) (fun h => ?_) (fun h => ?_)) | ((with_reducible refine TDr.any ?_); (fail_if_success refine TDr.known (by first | rfl | assumption) ?_); refine TDr.ask (by rfl) (fun h hk => ?_) (fun h => ?_)) | ((with_reducible refine Tw.any ?_); refine Tw.cond (by rfl) (fun h => ?_) (fun h => ?_))) <;> (try simp only [goS] at h) <;> (try simp only [rdi, rdy, Int.toNat_natCast, Nat.add_zero] at h) <;> (try (exfalso; (try simp only [goP, reduceCtorEq] at h) <;> (first | assumption | omega | contradiction | (rcases h with ⟨_, _⟩ <;> first | contradiction | omega) | (rcases h with h | h <;> first | contradiction | omega)))))
      | ((with_reducible refine tret.any ?_); first | refine tret.ok (by rfl) ?_ | refine tret.okN (by rfl) ?_)
      | ((with_reducible refine Due.mk ?_); (first | with_reducible rfl | omega | assumption | decide | ((try simp only [goS] at *) <;> (try intro h) <;> (try intro h') <;> (try simp only [goS] at *) <;> (try simp only [rdi, rdy, Int.toNat_natCast, Nat.add_zero] at *) <;> (try simp only [rng]) <;> (first | assumption | omega)) | (exact due_app0 (by omega)) | (exact due_app (by omega)) | (intros; simp; done) | (intros; simp; omega)))
      | with_reducible refine Due.mk ?_
      | omega)
    exact ⟨rfl, rfl⟩

theorem lrow_c (U : Nat → Nat) (m n w k : Nat) (d : List Int) (yy : Nat) (hn : n = 2 * m + 1) (hU : ∀ i, i < n → 1 ≤ U i) (hw2 : pre U n = w) (hk : BmOk w k d) (hp : ∀ x : Nat, x < w → px w k d x yy = barN U n x) :
    TC R Try.prog linear_Row_f [.ptr 0 0, .int .i64 yy] [some (.cells [.int .i64 w, .int .i64 k, .lst Ey d])] (fun v X => v = .sla 1 1 0 n ∧ X = [some (.cells [.int .i64 w, .int .i64 k, .lst Ey d]), some (.arr Ei (tab n fun i => (U i : Int)))]) := by
  have hw := hk.w1
  have lt1 : (tab (2 * m + 1) fun i => (U i : Int)).length = 2 * m + 1 := tab_len
  have rowc : TC R Try.prog bitmap_Row_f [.ptr 0 0, .int .i64 yy] [some (.cells [.int .i64 w, .int .i64 k, .lst Ey d])]
    (fun v X => v = .fn bitmap_Row_1_f [.ptr 1 0, .ptr 2 0] ∧ X = [some (.cells [.int .i64 w, .int .i64 k, .lst Ey d]), some (.cells [.ptr 0 0]), some (.cells [.int .i64 yy])]) := by
    refine tc env bitmap_Row_s (by rfl) ?_
    dsimp only [bitmap_Row_c]
    repeat' (first
      | with_reducible first | refine Tw.seq ?_ | refine Tw.reg ?_ | refine Tw.block ?_ | refine Tw.scope ?_ | refine Tw.skip ?_ | refine Tw.exit ?_ | refine Tw.ret ?_ | refine seqN ?_ | refine seqR ?_ | refine seqE ?_ | refine rndN ?_ | refine blkN ?_ | refine blkR ?_ | refine blkE1 ?_ | refine blkE0 (by kernel_rfl) ?_ | refine scpN ?_ | refine scpR ?_ | refine scpE ?_ | refine TOps.nil ?_ | exact Conj.nil | refine Conj.cons rfl ?_ | refine Conj.same ?_ | refine Conj.ask ?_ ?_ | refine Tw.regd env ?_ | refine TDr.nil ⟨by kernel_rfl, ?_⟩
      | ((with_reducible refine TOps.any ?_); first | refine TOps.frunP env (by rfl) (by rfl) ?_ ?_ | (refine TOps.known (by rfl) ?_; refine TOps.strip env (by rfl) (by rfl) ?_ ?_) | refine TOps.on (by rfl) (by rfl) ?_)
      | ((with_reducible refine TDr.any ?_); refine TDr.frunP env (by rfl) (by rfl) ?_ ?_)
      | ((with_reducible refine Tw.any ?_); first | refine Tw.condT (by rfl) ?_ | refine Tw.condF (by rfl) ?_)
      | ((first | ((with_reducible refine TOps.any ?_); (fail_if_success refine TOps.known (by rfl) ?_); refine TOps.ask (by rfl) (fun h => ?_) (fun h => ?_)) | ((with_reducible refine TDr.any ?_); (fail_if_success refine TDr.known (by first | rfl | assumption) ?_); refine TDr.ask (by rfl) (fun h hk => ?_) (fun h => ?_)) | ((with_reducible refine Tw.any ?_); refine Tw.cond (by rfl) (fun h => ?_) (fun h => ?_))) <;> (try simp only [goS] at h) <;> (try simp only [rdi, rdy, Int.toNat_natCast, Nat.add_zero] at h))
      | ((with_reducible refine tret.any ?_); first | refine tret.ok (by rfl) ?_ | refine tret.okN (by rfl) ?_)
      | ((with_reducible refine Due.mk ?_); (first | with_reducible rfl | omega | assumption | decide | ((try simp only [goS] at *) <;> (try intro h) <;> (try intro h') <;> (try simp only [goS] at *) <;> (try simp only [rdi, rdy, Int.toNat_natCast, Nat.add_zero] at *) <;> (try simp only [rng]) <;> (first | assumption | omega)) | (exact due_app0 (by omega)) | (exact due_app (by omega)) | (intros; simp; done) | (intros; simp; omega)))
      | with_reducible refine Due.mk ?_
      | omega)
    exact ⟨rfl, rfl⟩
  have raw : TC R Try.prog linear_Row_f [.ptr 0 0, .int .i64 yy] [some (.cells [.int .i64 w, .int .i64 k, .lst Ey d])] (fun v X => v = .sla 1 5 0 n ∧ ∃ a b c e, X = [some (.cells [.int .i64 w, .int .i64 k, .lst Ey d]), a, b, c, e, some (.arr Ei (tab n fun i => (U i : Int)))]) := by
    refine tc env linear_Row_s (by rfl) ?_
    dsimp only [linear_Row_c]
    repeat' (first
      | ((with_reducible refine TOps.any ?_); refine TOps.callHE env [0] (rowc) (by rfl) (by rfl) (by rfl) (by rfl) (by rfl) (by rfl) (by repeat' (first | exact trivial | refine ⟨rfl, ?_⟩)) ?_)
      | with_reducible first | refine Tw.seq ?_ | refine Tw.reg ?_ | refine Tw.block ?_ | refine Tw.scope ?_ | refine Tw.skip ?_ | refine Tw.exit ?_ | refine Tw.ret ?_ | refine seqN ?_ | refine seqR ?_ | refine seqE ?_ | refine rndN ?_ | refine blkN ?_ | refine blkR ?_ | refine blkE1 ?_ | refine blkE0 (by kernel_rfl) ?_ | refine scpN ?_ | refine scpR ?_ | refine scpE ?_ | refine TOps.nil ?_ | exact Conj.nil | refine Conj.cons rfl ?_ | refine Conj.same ?_ | refine Conj.ask ?_ ?_ | refine Tw.regd env ?_ | refine TDr.nil ⟨by kernel_rfl, ?_⟩
      | ((with_reducible refine TOps.any ?_); first | refine TOps.frunP env (by rfl) (by rfl) ?_ ?_ | (refine TOps.known (by rfl) ?_; refine TOps.strip env (by rfl) (by rfl) ?_ ?_) | refine TOps.on (by rfl) (by rfl) ?_)
      | ((with_reducible refine TDr.any ?_); refine TDr.frunP env (by rfl) (by rfl) ?_ ?_)
      | ((with_reducible refine Tw.any ?_); first | refine Tw.condT (by rfl) ?_ | refine Tw.condF (by rfl) ?_)
      | ((first | ((with_reducible refine TOps.any ?_); (fail_if_success refine TOps.known (by rfl) ?_); refine TOps.ask (by rfl) (fun h => ?_) (fun h => ?_)) | ((with_reducible refine TDr.any ?_); (fail_if_success refine TDr.known (by first | rfl | assumption) ?_); refine TDr.ask (by rfl) (fun h hk => ?_) (fun h => ?_)) | ((with_reducible refine Tw.any ?_); refine Tw.cond (by rfl) (fun h => ?_) (fun h => ?_))) <;> (try simp only [goS] at h) <;> (try simp only [rdi, rdy, Int.toNat_natCast, Nat.add_zero] at h) <;> (try (exfalso; (try simp only [goP, reduceCtorEq] at h) <;> (first | assumption | omega | contradiction | (rcases h with ⟨_, _⟩ <;> first | contradiction | omega) | (rcases h with h | h <;> first | contradiction | omega)))))
      | ((with_reducible refine tret.any ?_); first | refine tret.ok (by rfl) ?_ | refine tret.okN (by rfl) ?_)
      | ((with_reducible refine Due.mk ?_); (first | with_reducible rfl | omega | assumption | decide | ((try simp only [goS] at *) <;> (try intro h) <;> (try intro h') <;> (try simp only [goS] at *) <;> (try simp only [rdi, rdy, Int.toNat_natCast, Nat.add_zero] at *) <;> (try simp only [rng]) <;> (first | assumption | omega)) | (exact due_app0 (by omega)) | (exact due_app (by omega)) | (intros; simp; done) | (intros; simp; omega)))
      | with_reducible refine Due.mk ?_
      | omega)
    refine Tw.weaken (TWk.fcanon env [some 0, some 1, some 2, some 3, some 4] (F' := [(6, .ptr 2 0), (5, .ptr 1 0), (0, .ptr 0 0), (1, .int .i64 yy), (10, .fn bitmap_Row_1_f [.ptr 3 0, .ptr 4 0])])
      (H' := [some (.cells [.int .i64 w, .int .i64 k, .lst Ey d]), some (.cells [.nils]), some (.cells [.int .i64 (-1)]), some (.cells [.ptr 0 0]), some (.cells [.int .i64 yy])]) (by rfl) ?_) ?_
    · repeat' (first
        | with_reducible first | exact Conj.nil | refine Conj.cons rfl ?_ | refine Conj.same ?_ | refine Conj.ask ?_ ?_
        | ((with_reducible refine Due.mk ?_); (first | with_reducible rfl | omega | assumption | decide | ((try simp only [goS] at *) <;> (try intro h) <;> (try intro h') <;> (try simp only [goS] at *) <;> (try simp only [rdi, rdy, Int.toNat_natCast, Nat.add_zero] at *) <;> (try simp only [rng]) <;> (first | assumption | omega)) | (exact due_app0 (by omega)) | (exact due_app (by omega)) | (intros; simp; done) | (intros; simp; omega)))
        | with_reducible refine Due.mk ?_
        | omega)
    refine Tw.rf rfl (by rfl) (fun z hz => (iterW U m n w k d yy hn hU hw2 hk hp z hz).mono fun v X h => ?_)
    obtain ⟨_, rfl⟩ := h
    refine blkN (seqN ?_)
    repeat' (first
      | with_reducible first | refine Tw.seq ?_ | refine Tw.reg ?_ | refine Tw.block ?_ | refine Tw.scope ?_ | refine Tw.skip ?_ | refine Tw.exit ?_ | refine Tw.ret ?_ | refine seqN ?_ | refine seqR ?_ | refine seqE ?_ | refine rndN ?_ | refine blkN ?_ | refine blkR ?_ | refine blkE1 ?_ | refine blkE0 (by kernel_rfl) ?_ | refine scpN ?_ | refine scpR ?_ | refine scpE ?_ | refine TOps.nil ?_ | exact Conj.nil | refine Conj.cons rfl ?_ | refine Conj.same ?_ | refine Conj.ask ?_ ?_ | refine Tw.regd env ?_ | refine TDr.nil ⟨by kernel_rfl, ?_⟩
      | ((with_reducible refine TOps.any ?_); first | refine TOps.frunP env (by rfl) (by rfl) ?_ ?_ | (refine TOps.known (by rfl) ?_; refine TOps.strip env (by rfl) (by rfl) ?_ ?_) | refine TOps.on (by rfl) (by rfl) ?_)
      | ((with_reducible refine TDr.any ?_); refine TDr.frunP env (by rfl) (by rfl) ?_ ?_)
      | ((with_reducible refine Tw.any ?_); first | refine Tw.condT (by rfl) ?_ | refine Tw.condF (by rfl) ?_)
      | ((first | ((with_reducible refine TOps.any ?_); (fail_if_success refine TOps.known (by rfl) ?_); refine TOps.ask (by rfl) (fun h => ?_) (fun h => ?_)) | ((with_reducible refine TDr.any ?_); (fail_if_success refine TDr.known (by first | rfl | assumption) ?_); refine TDr.ask (by rfl) (fun h hk => ?_) (fun h => ?_)) | ((with_reducible refine Tw.any ?_); refine Tw.cond (by rfl) (fun h => ?_) (fun h => ?_))) <;> (try simp only [goS] at h) <;> (try simp only [rdi, rdy, lt1, Int.toNat_natCast, Nat.add_zero] at h) <;> (try (exfalso; (try simp only [goP, reduceCtorEq] at h) <;> (first | assumption | omega | contradiction | (rcases h with ⟨_, _⟩ <;> first | contradiction | omega) | (rcases h with h | h <;> first | contradiction | omega)))))
      | ((with_reducible refine tret.any ?_); first | refine tret.ok (by rfl) ?_ | refine tret.okN (by rfl) ?_)
      | ((with_reducible refine Due.mk ?_); (first | with_reducible rfl | omega | assumption | decide | ((try simp only [goS] at *) <;> (try intro h) <;> (try intro h') <;> (try simp only [goS] at *) <;> (try simp only [rdi, rdy, lt1, Int.toNat_natCast, Nat.add_zero] at *) <;> (try simp only [rng]) <;> (first | assumption | omega)) | (exact due_app0 (by omega)) | (exact due_app (by omega)) | (intros; simp; done) | (intros; simp; omega)))
      | with_reducible refine Due.mk ?_
      | omega)
    rw [hn]
    exact ⟨rfl, _, _, _, _, rfl⟩
  refine raw.wk fun v X h => ?_
  obtain ⟨rfl, a, b, c, e, rfl⟩ := h
  refine ⟨_, [some (.cells [.int .i64 w, .int .i64 k, .lst Ey d]), some (.arr Ei (tab n fun i => (U i : Int)))], TWk.fcanon env [some 0, some 5] (F' := [(0, .sla 1 1 0 n)]) (by rfl) ?_, rfl, rfl⟩
  repeat' (first
    | with_reducible first | exact Conj.nil | refine Conj.cons rfl ?_ | refine Conj.same ?_ | refine Conj.ask ?_ ?_
    | ((with_reducible refine Due.mk ?_); (first | with_reducible rfl | omega | assumption | decide | ((try simp only [goS] at *) <;> (try intro h) <;> (try intro h') <;> (try simp only [goS] at *) <;> (try simp only [rdi, rdy, Int.toNat_natCast, Nat.add_zero] at *) <;> (try simp only [rng]) <;> (first | assumption | omega)) | (exact due_app0 (by omega)) | (exact due_app (by omega)) | (intros; simp; done) | (intros; simp; omega)))
    | with_reducible refine Due.mk ?_
    | omega)
end Go.Proofs.Ytbfflfinhigfeaa
