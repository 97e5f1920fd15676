/- The law InklimitGreys: Replace keeps the differences of the first three inks and takes twice the amount of ink away. -/
import Derived.Test.YtfgaefpdccdfiaaInk3
import Derived.Test.YtfgaefpdccdfiaaInkW
import Derived.Test.YtfgaefpdccdfiaaXInklimitGreys0
namespace Go.Proofs.Ytfgaefpdccdfiaa
open Go Go.Lite
set_option linter.unusedVariables false
set_option linter.unusedSimpArgs false
set_option maxRecDepth 100000
set_option maxHeartbeats 4000000
-- @simp rdi tn0 tn1 tn2 tn3

theorem replace_y (t : List Int) (c : List (Int × Int)) (ht : tonesE t 4 = 0) (hc : check c = 0) : TC R Try.prog inklimit_Replace_f [.lst Ei t, .agg [.lst E2i c]] [] (fun w X => w = .tup [.lst Ei (repI t c), .int .i64 (amtI t c), .int .i64 0] ∧ X = []) := by
  obtain ⟨h4, h1⟩ := tonesE_ok.1 ht
  have e1 := tones_c t 4 (by unfold Due; omega)
  rw [ht] at e1
  have e2 := check_c c
  rw [hc] at e2
  refine tc0 env inklimit_Replace_s (by rfl) ?_
  dsimp only [inklimit_Replace_c]
  repeat' (first
    | ((with_reducible refine TOps.any ?_); refine TOps.callV env (by rfl) (by rfl) (by rfl) (e1) ?_)
    | ((with_reducible refine TOps.any ?_); refine TOps.callV env (by rfl) (by rfl) (by rfl) (e2) ?_)
    | ((with_reducible refine TOps.any ?_); refine TOps.callV env (by rfl) (by rfl) (by rfl) (replaced_c t c h1 (by omega) (check_ok hc)) ?_)
    | with_reducible refine Tw.seq ?_
    | with_reducible refine Tw.reg ?_
    | with_reducible refine Tw.block ?_
    | with_reducible refine Tw.scope ?_
    | with_reducible refine Tw.skip ?_
    | with_reducible refine Tw.exit ?_
    | with_reducible refine Tw.ret ?_
    | with_reducible refine seqN ?_
    | with_reducible refine seqR ?_
    | with_reducible refine seqE ?_
    | with_reducible refine blkN ?_
    | with_reducible refine blkR ?_
    | with_reducible refine blkE1 ?_
    | with_reducible refine blkE0 (by kernel_rfl) ?_
    | with_reducible refine scpN ?_
    | with_reducible refine scpR ?_
    | with_reducible refine scpE ?_
    | with_reducible refine TOps.nil ?_
    | with_reducible exact Conj.nil
    | with_reducible refine Conj.cons rfl ?_
    | with_reducible refine Conj.same ?_
    | with_reducible refine Conj.ask ?_ ?_
    | ((with_reducible refine TOps.any ?_); refine TOps.frunP env (by rfl) (by rfl) ?_ ?_)
    | with_reducible refine Tw.regd env ?_
    | ((with_reducible refine TDr.any ?_); refine TDr.frunP env (by rfl) (by rfl) ?_ ?_)
    | with_reducible refine TDr.nil ⟨by kernel_rfl, ?_⟩
    | ((with_reducible refine TOps.any ?_); refine TOps.strip env (by rfl) (by rfl) ?_ ?_)
    | ((with_reducible refine TOps.any ?_); (fail_if_success refine TOps.known (by rfl) ?_); refine TOps.ask (by rfl) (fun h => ?_) (fun h => ?_) <;> (try simp only [decide_eq_true_eq, decide_eq_false_iff_not, Bool.or_eq_true, Bool.and_eq_true, Bool.or_eq_false_iff, Bool.and_eq_false_iff, Bool.not_eq_true', Bool.not_eq_false', Int.not_lt, Int.not_le, Int.toNat_natCast, Int.toNat_zero, cond_false, cond_true, Bool.not_not] at h) <;> (try simp only [rdi, tn0, tn1, tn2, tn3, Int.toNat_natCast, Nat.add_zero] at h))
    | ((with_reducible refine Tw.any ?_); refine Tw.condT (by rfl) ?_)
    | ((with_reducible refine Tw.any ?_); refine Tw.condF (by rfl) ?_)
    | ((with_reducible refine Tw.any ?_); refine Tw.cond (by rfl) (fun h => ?_) (fun h => ?_) <;> (try simp only [decide_eq_true_eq, decide_eq_false_iff_not, Bool.or_eq_true, Bool.and_eq_true, Bool.or_eq_false_iff, Bool.and_eq_false_iff, Bool.not_eq_true', Bool.not_eq_false', Int.not_lt, Int.not_le, Int.toNat_natCast, Int.toNat_zero, cond_false, cond_true, Bool.not_not] at h) <;> (try simp only [rdi, tn0, tn1, tn2, tn3, Int.toNat_natCast, Nat.add_zero] at h))
    | ((with_reducible refine tret.any ?_); first | refine tret.ok (by rfl) ?_ | refine tret.okN (by rfl) ?_)
    | ((with_reducible refine Due.mk ?_); (first | with_reducible rfl | omega | assumption | decide | ((try simp only [decide_eq_true_eq, decide_eq_false_iff_not, Bool.or_eq_true, Bool.and_eq_true, Bool.or_eq_false_iff, Bool.and_eq_false_iff, Bool.not_eq_true', Bool.not_eq_false', Int.not_lt, Int.not_le, Int.toNat_natCast, Int.toNat_zero, cond_false, cond_true, Bool.not_not] at *) <;> (try intro h) <;> (try intro h') <;> (try simp only [decide_eq_true_eq, decide_eq_false_iff_not, Bool.or_eq_true, Bool.and_eq_true, Bool.or_eq_false_iff, Bool.and_eq_false_iff, Bool.not_eq_true', Bool.not_eq_false', Int.not_lt, Int.not_le, Int.toNat_natCast, Int.toNat_zero, cond_false, cond_true, Bool.not_not] at *) <;> (try simp only [rdi, tn0, tn1, tn2, tn3, Int.toNat_natCast, Nat.add_zero] at *) <;> (try simp only [rng]) <;> (first | assumption | omega)) | (intros; simp; done) | (intros; simp; omega)))
    | with_reducible refine Due.mk ?_
    | omega)
  exact ⟨rfl, rfl, rfl⟩
theorem replace_n (t : List Int) (c : List (Int × Int)) (hl : t.length ≤ 9223372036854775807) (h : ¬ (tonesE t 4 = 0 ∧ check c = 0)) : TC R Try.prog inklimit_Replace_f [.lst Ei t, .agg [.lst E2i c]] [] (fun w X => (∃ e, e ≠ 0 ∧ w = .tup [.nils, .int .i64 0, .int .i64 e]) ∧ X = []) := by
  refine tc0 env inklimit_Replace_s (by rfl) ?_
  dsimp only [inklimit_Replace_c]
  by_cases ht : tonesE t 4 = 0
  · have e1 := tones_c t 4 hl
    rw [ht] at e1
    have hc : check c ≠ 0 := fun hc => h ⟨ht, hc⟩
    repeat' (first
      | ((with_reducible refine TOps.any ?_); refine TOps.callV env (by rfl) (by rfl) (by rfl) (e1) ?_)
      | ((with_reducible refine TOps.any ?_); refine TOps.callV env (by rfl) (by rfl) (by rfl) (check_c _) ?_)
      | with_reducible refine Tw.seq ?_
      | with_reducible refine Tw.reg ?_
      | with_reducible refine Tw.block ?_
      | with_reducible refine Tw.scope ?_
      | with_reducible refine Tw.skip ?_
      | with_reducible refine Tw.exit ?_
      | with_reducible refine Tw.ret ?_
      | with_reducible refine seqN ?_
      | with_reducible refine seqR ?_
      | with_reducible refine seqE ?_
      | with_reducible refine blkN ?_
      | with_reducible refine blkR ?_
      | with_reducible refine blkE1 ?_
      | with_reducible refine blkE0 (by kernel_rfl) ?_
      | with_reducible refine scpN ?_
      | with_reducible refine scpR ?_
      | with_reducible refine scpE ?_
      | with_reducible refine TOps.nil ?_
      | with_reducible exact Conj.nil
      | with_reducible refine Conj.cons rfl ?_
      | with_reducible refine Conj.same ?_
      | with_reducible refine Conj.ask ?_ ?_
      | ((with_reducible refine TOps.any ?_); refine TOps.frunP env (by rfl) (by rfl) ?_ ?_)
      | with_reducible refine Tw.regd env ?_
      | ((with_reducible refine TDr.any ?_); refine TDr.frunP env (by rfl) (by rfl) ?_ ?_)
      | with_reducible refine TDr.nil ⟨by kernel_rfl, ?_⟩
      | ((with_reducible refine TOps.any ?_); refine TOps.strip env (by rfl) (by rfl) ?_ ?_)
      | ((with_reducible refine TOps.any ?_); (fail_if_success refine TOps.known (by rfl) ?_); refine TOps.ask (by rfl) (fun h => ?_) (fun h => ?_) <;> (try simp only [decide_eq_true_eq, decide_eq_false_iff_not, Bool.or_eq_true, Bool.and_eq_true, Bool.or_eq_false_iff, Bool.and_eq_false_iff, Bool.not_eq_true', Bool.not_eq_false', Int.not_lt, Int.not_le, Int.toNat_natCast, Int.toNat_zero, cond_false, cond_true, Bool.not_not] at h) <;> (try simp only [rdi, tn0, tn1, tn2, tn3, Int.toNat_natCast, Nat.add_zero] at h))
      | ((with_reducible refine Tw.any ?_); refine Tw.condT (by rfl) ?_)
      | ((with_reducible refine Tw.any ?_); refine Tw.condF (by rfl) ?_)
      | ((with_reducible refine Tw.any ?_); refine Tw.cond (by rfl) (fun h => ?_) (fun h => ?_) <;> (try simp only [decide_eq_true_eq, decide_eq_false_iff_not, Bool.or_eq_true, Bool.and_eq_true, Bool.or_eq_false_iff, Bool.and_eq_false_iff, Bool.not_eq_true', Bool.not_eq_false', Int.not_lt, Int.not_le, Int.toNat_natCast, Int.toNat_zero, cond_false, cond_true, Bool.not_not] at h) <;> (try simp only [rdi, tn0, tn1, tn2, tn3, Int.toNat_natCast, Nat.add_zero] at h))
      | ((with_reducible refine tret.any ?_); first | refine tret.ok (by rfl) ?_ | refine tret.okN (by rfl) ?_)
      | ((with_reducible refine Due.mk ?_); (first | with_reducible rfl | omega | assumption | decide | ((try simp only [decide_eq_true_eq, decide_eq_false_iff_not, Bool.or_eq_true, Bool.and_eq_true, Bool.or_eq_false_iff, Bool.and_eq_false_iff, Bool.not_eq_true', Bool.not_eq_false', Int.not_lt, Int.not_le, Int.toNat_natCast, Int.toNat_zero, cond_false, cond_true, Bool.not_not] at *) <;> (try intro h) <;> (try intro h') <;> (try simp only [decide_eq_true_eq, decide_eq_false_iff_not, Bool.or_eq_true, Bool.and_eq_true, Bool.or_eq_false_iff, Bool.and_eq_false_iff, Bool.not_eq_true', Bool.not_eq_false', Int.not_lt, Int.not_le, Int.toNat_natCast, Int.toNat_zero, cond_false, cond_true, Bool.not_not] at *) <;> (try simp only [rdi, tn0, tn1, tn2, tn3, Int.toNat_natCast, Nat.add_zero] at *) <;> (try simp only [rng]) <;> (first | assumption | omega)) | (intros; simp; done) | (intros; simp; omega)))
      | with_reducible refine Due.mk ?_
      | omega)
    exact ⟨rfl, ⟨_, hc, rfl⟩, rfl⟩
  · repeat' (first
      | ((with_reducible refine TOps.any ?_); refine TOps.callV env (by rfl) (by rfl) (by rfl) (tones_c _ _ hl) ?_)
      | with_reducible refine Tw.seq ?_
      | with_reducible refine Tw.reg ?_
      | with_reducible refine Tw.block ?_
      | with_reducible refine Tw.scope ?_
      | with_reducible refine Tw.skip ?_
      | with_reducible refine Tw.exit ?_
      | with_reducible refine Tw.ret ?_
      | with_reducible refine seqN ?_
      | with_reducible refine seqR ?_
      | with_reducible refine seqE ?_
      | with_reducible refine blkN ?_
      | with_reducible refine blkR ?_
      | with_reducible refine blkE1 ?_
      | with_reducible refine blkE0 (by kernel_rfl) ?_
      | with_reducible refine scpN ?_
      | with_reducible refine scpR ?_
      | with_reducible refine scpE ?_
      | with_reducible refine TOps.nil ?_
      | with_reducible exact Conj.nil
      | with_reducible refine Conj.cons rfl ?_
      | with_reducible refine Conj.same ?_
      | with_reducible refine Conj.ask ?_ ?_
      | ((with_reducible refine TOps.any ?_); refine TOps.frunP env (by rfl) (by rfl) ?_ ?_)
      | with_reducible refine Tw.regd env ?_
      | ((with_reducible refine TDr.any ?_); refine TDr.frunP env (by rfl) (by rfl) ?_ ?_)
      | with_reducible refine TDr.nil ⟨by kernel_rfl, ?_⟩
      | ((with_reducible refine TOps.any ?_); refine TOps.strip env (by rfl) (by rfl) ?_ ?_)
      | ((with_reducible refine TOps.any ?_); (fail_if_success refine TOps.known (by rfl) ?_); refine TOps.ask (by rfl) (fun h => ?_) (fun h => ?_) <;> (try simp only [decide_eq_true_eq, decide_eq_false_iff_not, Bool.or_eq_true, Bool.and_eq_true, Bool.or_eq_false_iff, Bool.and_eq_false_iff, Bool.not_eq_true', Bool.not_eq_false', Int.not_lt, Int.not_le, Int.toNat_natCast, Int.toNat_zero, cond_false, cond_true, Bool.not_not] at h) <;> (try simp only [rdi, tn0, tn1, tn2, tn3, Int.toNat_natCast, Nat.add_zero] at h))
      | ((with_reducible refine Tw.any ?_); refine Tw.condT (by rfl) ?_)
      | ((with_reducible refine Tw.any ?_); refine Tw.condF (by rfl) ?_)
      | ((with_reducible refine Tw.any ?_); refine Tw.cond (by rfl) (fun h => ?_) (fun h => ?_) <;> (try simp only [decide_eq_true_eq, decide_eq_false_iff_not, Bool.or_eq_true, Bool.and_eq_true, Bool.or_eq_false_iff, Bool.and_eq_false_iff, Bool.not_eq_true', Bool.not_eq_false', Int.not_lt, Int.not_le, Int.toNat_natCast, Int.toNat_zero, cond_false, cond_true, Bool.not_not] at h) <;> (try simp only [rdi, tn0, tn1, tn2, tn3, Int.toNat_natCast, Nat.add_zero] at h))
      | ((with_reducible refine tret.any ?_); first | refine tret.ok (by rfl) ?_ | refine tret.okN (by rfl) ?_)
      | ((with_reducible refine Due.mk ?_); (first | with_reducible rfl | omega | assumption | decide | ((try simp only [decide_eq_true_eq, decide_eq_false_iff_not, Bool.or_eq_true, Bool.and_eq_true, Bool.or_eq_false_iff, Bool.and_eq_false_iff, Bool.not_eq_true', Bool.not_eq_false', Int.not_lt, Int.not_le, Int.toNat_natCast, Int.toNat_zero, cond_false, cond_true, Bool.not_not] at *) <;> (try intro h) <;> (try intro h') <;> (try simp only [decide_eq_true_eq, decide_eq_false_iff_not, Bool.or_eq_true, Bool.and_eq_true, Bool.or_eq_false_iff, Bool.and_eq_false_iff, Bool.not_eq_true', Bool.not_eq_false', Int.not_lt, Int.not_le, Int.toNat_natCast, Int.toNat_zero, cond_false, cond_true, Bool.not_not] at *) <;> (try simp only [rdi, tn0, tn1, tn2, tn3, Int.toNat_natCast, Nat.add_zero] at *) <;> (try simp only [rng]) <;> (first | assumption | omega)) | (intros; simp; done) | (intros; simp; omega)))
      | with_reducible refine Due.mk ?_
      | omega)
    exact ⟨rfl, ⟨_, ht, rfl⟩, rfl⟩

theorem InklimitGreys_law (t : List Int) (c : List (Int × Int)) (wt : t.length ≤ 9223372036854775807 ∧ ∀ y ∈ t, Wi y) (wc : c.length ≤ 9223372036854775807 ∧ ∀ y ∈ c, W2i y) :
    TC R Try.prog K2_InklimitGreys_f [.lst Ei t, .agg [.lst E2i c]] [] (fun v X => v = .bool true ∧ X = []) := by
  refine tc0 env K2_InklimitGreys_s (by rfl) ?_
  dsimp only [K2_InklimitGreys_c]
  by_cases hh : tonesE t 4 = 0 ∧ check c = 0
  · obtain ⟨ht, hc⟩ := hh
    obtain ⟨h4, h1⟩ := tonesE_ok.1 ht
    have v := check_ok hc
    have t0 := h1 0 (by omega)
    have t1 := h1 1 (by omega)
    have t2 := h1 2 (by omega)
    have t3 := h1 3 (by omega)
    have hr := raw_bd v (x := 256 * greyI t) (by unfold greyI; omega)
    have ha : 0 ≤ amtI t c ∧ amtI t c ≤ t.getD 0 0 ∧ amtI t c ≤ t.getD 1 0 ∧ amtI t c ≤ t.getD 2 0 ∧ amtI t c ≤ 255 - t.getD 3 0 := by
      unfold amtI near greyI at *; omega
    have y1 := replace_y t c ht hc
    have l0 : (repI t c).getD 0 0 = t.getD 0 0 - amtI t c := rfl
    have l1 : (repI t c).getD 1 0 = t.getD 1 0 - amtI t c := rfl
    have l2 : (repI t c).getD 2 0 = t.getD 2 0 - amtI t c := rfl
    have l3 : (repI t c).getD 3 0 = t.getD 3 0 + amtI t c := rfl
    have hl : (repI t c).length = 4 := rfl
    generalize repI t c = l at *
    generalize amtI t c = a at *
    have ht' : inTone l := fun i hi => by
      obtain rfl | rfl | rfl | rfl : i = 0 ∨ i = 1 ∨ i = 2 ∨ i = 3 := by omega
      all_goals omega
    have h4' : t.length = 4 := by omega
    have e1 : inkE t = 0 := inkE_ok.2 ⟨by omega, h1⟩
    have e2 : inkE l = 0 := inkE_ok.2 ⟨by omega, ht'⟩
    have y2 := inkTotal_c t (by unfold Due; omega)
    rw [if_pos e1, e1] at y2
    have y3 := inkTotal_c l (by unfold Due; omega)
    rw [if_pos e2, e2] at y3
    have s1 : sumL t = t.getD 0 0 + t.getD 1 0 + t.getD 2 0 + t.getD 3 0 := by unfold sumL; rw [h4']; simp only [sumN]; omega
    have s2 : sumL l = l.getD 0 0 + l.getD 1 0 + l.getD 2 0 + l.getD 3 0 := by unfold sumL; rw [hl]; simp only [sumN]; omega
    repeat' (first
      | ((with_reducible refine TOps.any ?_); refine TOps.callV env (by rfl) (by rfl) (by rfl) (inkWorks_c) ?_)
      | ((with_reducible refine TOps.any ?_); refine TOps.callV env (by rfl) (by rfl) (by rfl) (y1) ?_)
      | ((with_reducible refine TOps.any ?_); refine TOps.callV env (by rfl) (by rfl) (by rfl) (y2) ?_)
      | ((with_reducible refine TOps.any ?_); refine TOps.callV env (by rfl) (by rfl) (by rfl) (y3) ?_)
      | with_reducible refine Tw.seq ?_
      | with_reducible refine Tw.reg ?_
      | with_reducible refine Tw.block ?_
      | with_reducible refine Tw.scope ?_
      | with_reducible refine Tw.skip ?_
      | with_reducible refine Tw.exit ?_
      | with_reducible refine Tw.ret ?_
      | with_reducible refine seqN ?_
      | with_reducible refine seqR ?_
      | with_reducible refine seqE ?_
      | with_reducible refine blkN ?_
      | with_reducible refine blkR ?_
      | with_reducible refine blkE1 ?_
      | with_reducible refine blkE0 (by kernel_rfl) ?_
      | with_reducible refine scpN ?_
      | with_reducible refine scpR ?_
      | with_reducible refine scpE ?_
      | with_reducible refine TOps.nil ?_
      | with_reducible exact Conj.nil
      | with_reducible refine Conj.cons rfl ?_
      | with_reducible refine Conj.same ?_
      | with_reducible refine Conj.ask ?_ ?_
      | ((with_reducible refine TOps.any ?_); refine TOps.frunP env (by rfl) (by rfl) ?_ ?_)
      | with_reducible refine Tw.regd env ?_
      | ((with_reducible refine TDr.any ?_); refine TDr.frunP env (by rfl) (by rfl) ?_ ?_)
      | with_reducible refine TDr.nil ⟨by kernel_rfl, ?_⟩
      | ((with_reducible refine TOps.any ?_); refine TOps.strip env (by rfl) (by rfl) ?_ ?_)
      | ((with_reducible refine TOps.any ?_); (fail_if_success refine TOps.known (by rfl) ?_); refine TOps.ask (by rfl) (fun h => ?_) (fun h => ?_) <;> (try simp only [decide_eq_true_eq, decide_eq_false_iff_not, Bool.or_eq_true, Bool.and_eq_true, Bool.or_eq_false_iff, Bool.and_eq_false_iff, Bool.not_eq_true', Bool.not_eq_false', Int.not_lt, Int.not_le, Int.toNat_natCast, Int.toNat_zero, cond_false, cond_true, Bool.not_not] at h) <;> (try simp only [rdi, tn0, tn1, tn2, tn3, Int.toNat_natCast, Nat.add_zero] at h) <;> (try (exfalso; (try simp only [and_true, true_and, or_false, false_or, not_true_eq_false, not_false_eq_true, decide_true, Bool.not_true, Bool.false_eq_true, reduceCtorEq] at h); first | assumption | omega)))
      | ((with_reducible refine Tw.any ?_); refine Tw.condT (by rfl) ?_)
      | ((with_reducible refine Tw.any ?_); refine Tw.condF (by rfl) ?_)
      | ((with_reducible refine Tw.any ?_); refine Tw.cond (by rfl) (fun h => ?_) (fun h => ?_) <;> (try simp only [decide_eq_true_eq, decide_eq_false_iff_not, Bool.or_eq_true, Bool.and_eq_true, Bool.or_eq_false_iff, Bool.and_eq_false_iff, Bool.not_eq_true', Bool.not_eq_false', Int.not_lt, Int.not_le, Int.toNat_natCast, Int.toNat_zero, cond_false, cond_true, Bool.not_not] at h) <;> (try simp only [rdi, tn0, tn1, tn2, tn3, Int.toNat_natCast, Nat.add_zero] at h) <;> (try (exfalso; (try simp only [and_true, true_and, or_false, false_or, not_true_eq_false, not_false_eq_true, decide_true, Bool.not_true, Bool.false_eq_true, reduceCtorEq] at h); first | assumption | omega)))
      | ((with_reducible refine tret.any ?_); first | refine tret.ok (by rfl) ?_ | refine tret.okN (by rfl) ?_)
      | ((with_reducible refine Due.mk ?_); (first | with_reducible rfl | omega | assumption | decide | ((try simp only [decide_eq_true_eq, decide_eq_false_iff_not, Bool.or_eq_true, Bool.and_eq_true, Bool.or_eq_false_iff, Bool.and_eq_false_iff, Bool.not_eq_true', Bool.not_eq_false', Int.not_lt, Int.not_le, Int.toNat_natCast, Int.toNat_zero, cond_false, cond_true, Bool.not_not] at *) <;> (try intro h) <;> (try intro h') <;> (try simp only [decide_eq_true_eq, decide_eq_false_iff_not, Bool.or_eq_true, Bool.and_eq_true, Bool.or_eq_false_iff, Bool.and_eq_false_iff, Bool.not_eq_true', Bool.not_eq_false', Int.not_lt, Int.not_le, Int.toNat_natCast, Int.toNat_zero, cond_false, cond_true, Bool.not_not] at *) <;> (try simp only [rdi, tn0, tn1, tn2, tn3, Int.toNat_natCast, Nat.add_zero] at *) <;> (try simp only [rng]) <;> (first | assumption | omega)) | (intros; simp; done) | (intros; simp; omega)))
      | with_reducible refine Due.mk ?_
      | omega)
    refine ⟨rfl, congrArg TV.bool ?_, rfl⟩
    simp only [Bool.and_eq_true, decide_eq_true_eq]
    simp only [tn0, tn1, tn2, tn3, rdi, true_and]
    omega
  · repeat' (first
      | ((with_reducible refine TOps.any ?_); refine TOps.callV env (by rfl) (by rfl) (by rfl) (inkWorks_c) ?_)
      | with_reducible refine Tw.seq ?_
      | with_reducible refine Tw.reg ?_
      | with_reducible refine Tw.block ?_
      | with_reducible refine Tw.scope ?_
      | with_reducible refine Tw.skip ?_
      | with_reducible refine Tw.exit ?_
      | with_reducible refine Tw.ret ?_
      | with_reducible refine seqN ?_
      | with_reducible refine seqR ?_
      | with_reducible refine seqE ?_
      | with_reducible refine blkN ?_
      | with_reducible refine blkR ?_
      | with_reducible refine blkE1 ?_
      | with_reducible refine blkE0 (by kernel_rfl) ?_
      | with_reducible refine scpN ?_
      | with_reducible refine scpR ?_
      | with_reducible refine scpE ?_
      | with_reducible refine TOps.nil ?_
      | with_reducible exact Conj.nil
      | with_reducible refine Conj.cons rfl ?_
      | with_reducible refine Conj.same ?_
      | with_reducible refine Conj.ask ?_ ?_
      | ((with_reducible refine TOps.any ?_); refine TOps.frunP env (by rfl) (by rfl) ?_ ?_)
      | with_reducible refine Tw.regd env ?_
      | ((with_reducible refine TDr.any ?_); refine TDr.frunP env (by rfl) (by rfl) ?_ ?_)
      | with_reducible refine TDr.nil ⟨by kernel_rfl, ?_⟩
      | ((with_reducible refine TOps.any ?_); refine TOps.strip env (by rfl) (by rfl) ?_ ?_)
      | ((with_reducible refine TOps.any ?_); (fail_if_success refine TOps.known (by rfl) ?_); refine TOps.ask (by rfl) (fun h => ?_) (fun h => ?_) <;> (try simp only [decide_eq_true_eq, decide_eq_false_iff_not, Bool.or_eq_true, Bool.and_eq_true, Bool.or_eq_false_iff, Bool.and_eq_false_iff, Bool.not_eq_true', Bool.not_eq_false', Int.not_lt, Int.not_le, Int.toNat_natCast, Int.toNat_zero, cond_false, cond_true, Bool.not_not] at h) <;> (try simp only [rdi, tn0, tn1, tn2, tn3, Int.toNat_natCast, Nat.add_zero] at h))
      | ((with_reducible refine Tw.any ?_); refine Tw.condT (by rfl) ?_)
      | ((with_reducible refine Tw.any ?_); refine Tw.condF (by rfl) ?_)
      | ((with_reducible refine Tw.any ?_); refine Tw.cond (by rfl) (fun h => ?_) (fun h => ?_) <;> (try simp only [decide_eq_true_eq, decide_eq_false_iff_not, Bool.or_eq_true, Bool.and_eq_true, Bool.or_eq_false_iff, Bool.and_eq_false_iff, Bool.not_eq_true', Bool.not_eq_false', Int.not_lt, Int.not_le, Int.toNat_natCast, Int.toNat_zero, cond_false, cond_true, Bool.not_not] at h) <;> (try simp only [rdi, tn0, tn1, tn2, tn3, Int.toNat_natCast, Nat.add_zero] at h))
      | ((with_reducible refine tret.any ?_); first | refine tret.ok (by rfl) ?_ | refine tret.okN (by rfl) ?_)
      | ((with_reducible refine Due.mk ?_); (first | with_reducible rfl | omega | assumption | decide | ((try simp only [decide_eq_true_eq, decide_eq_false_iff_not, Bool.or_eq_true, Bool.and_eq_true, Bool.or_eq_false_iff, Bool.and_eq_false_iff, Bool.not_eq_true', Bool.not_eq_false', Int.not_lt, Int.not_le, Int.toNat_natCast, Int.toNat_zero, cond_false, cond_true, Bool.not_not] at *) <;> (try intro h) <;> (try intro h') <;> (try simp only [decide_eq_true_eq, decide_eq_false_iff_not, Bool.or_eq_true, Bool.and_eq_true, Bool.or_eq_false_iff, Bool.and_eq_false_iff, Bool.not_eq_true', Bool.not_eq_false', Int.not_lt, Int.not_le, Int.toNat_natCast, Int.toNat_zero, cond_false, cond_true, Bool.not_not] at *) <;> (try simp only [rdi, tn0, tn1, tn2, tn3, Int.toNat_natCast, Nat.add_zero] at *) <;> (try simp only [rng]) <;> (first | assumption | omega)) | (intros; simp; done) | (intros; simp; omega)))
      | with_reducible refine Due.mk ?_
      | omega)
    refine TOps.call env (by rfl) (by rfl) (by rfl) (replace_n t c wt.1 hh) ?_
    rintro _ _ ⟨⟨e, he, rfl⟩, rfl⟩
    repeat' (first
      | with_reducible refine Tw.seq ?_
      | with_reducible refine Tw.reg ?_
      | with_reducible refine Tw.block ?_
      | with_reducible refine Tw.scope ?_
      | with_reducible refine Tw.skip ?_
      | with_reducible refine Tw.exit ?_
      | with_reducible refine Tw.ret ?_
      | with_reducible refine seqN ?_
      | with_reducible refine seqR ?_
      | with_reducible refine seqE ?_
      | with_reducible refine blkN ?_
      | with_reducible refine blkR ?_
      | with_reducible refine blkE1 ?_
      | with_reducible refine blkE0 (by kernel_rfl) ?_
      | with_reducible refine scpN ?_
      | with_reducible refine scpR ?_
      | with_reducible refine scpE ?_
      | with_reducible refine TOps.nil ?_
      | with_reducible exact Conj.nil
      | with_reducible refine Conj.cons rfl ?_
      | with_reducible refine Conj.same ?_
      | with_reducible refine Conj.ask ?_ ?_
      | ((with_reducible refine TOps.any ?_); refine TOps.frunP env (by rfl) (by rfl) ?_ ?_)
      | with_reducible refine Tw.regd env ?_
      | ((with_reducible refine TDr.any ?_); refine TDr.frunP env (by rfl) (by rfl) ?_ ?_)
      | with_reducible refine TDr.nil ⟨by kernel_rfl, ?_⟩
      | ((with_reducible refine TOps.any ?_); refine TOps.strip env (by rfl) (by rfl) ?_ ?_)
      | ((with_reducible refine TOps.any ?_); (fail_if_success refine TOps.known (by rfl) ?_); refine TOps.ask (by rfl) (fun h => ?_) (fun h => ?_) <;> (try simp only [decide_eq_true_eq, decide_eq_false_iff_not, Bool.or_eq_true, Bool.and_eq_true, Bool.or_eq_false_iff, Bool.and_eq_false_iff, Bool.not_eq_true', Bool.not_eq_false', Int.not_lt, Int.not_le, Int.toNat_natCast, Int.toNat_zero, cond_false, cond_true, Bool.not_not] at h) <;> (try simp only [rdi, tn0, tn1, tn2, tn3, Int.toNat_natCast, Nat.add_zero] at h))
      | ((with_reducible refine Tw.any ?_); refine Tw.condT (by rfl) ?_)
      | ((with_reducible refine Tw.any ?_); refine Tw.condF (by rfl) ?_)
      | ((with_reducible refine Tw.any ?_); refine Tw.cond (by rfl) (fun h => ?_) (fun h => ?_) <;> (try simp only [decide_eq_true_eq, decide_eq_false_iff_not, Bool.or_eq_true, Bool.and_eq_true, Bool.or_eq_false_iff, Bool.and_eq_false_iff, Bool.not_eq_true', Bool.not_eq_false', Int.not_lt, Int.not_le, Int.toNat_natCast, Int.toNat_zero, cond_false, cond_true, Bool.not_not] at h) <;> (try simp only [rdi, tn0, tn1, tn2, tn3, Int.toNat_natCast, Nat.add_zero] at h))
      | ((with_reducible refine tret.any ?_); first | refine tret.ok (by rfl) ?_ | refine tret.okN (by rfl) ?_)
      | ((with_reducible refine Due.mk ?_); (first | with_reducible rfl | omega | assumption | decide | ((try simp only [decide_eq_true_eq, decide_eq_false_iff_not, Bool.or_eq_true, Bool.and_eq_true, Bool.or_eq_false_iff, Bool.and_eq_false_iff, Bool.not_eq_true', Bool.not_eq_false', Int.not_lt, Int.not_le, Int.toNat_natCast, Int.toNat_zero, cond_false, cond_true, Bool.not_not] at *) <;> (try intro h) <;> (try intro h') <;> (try simp only [decide_eq_true_eq, decide_eq_false_iff_not, Bool.or_eq_true, Bool.and_eq_true, Bool.or_eq_false_iff, Bool.and_eq_false_iff, Bool.not_eq_true', Bool.not_eq_false', Int.not_lt, Int.not_le, Int.toNat_natCast, Int.toNat_zero, cond_false, cond_true, Bool.not_not] at *) <;> (try simp only [rdi, tn0, tn1, tn2, tn3, Int.toNat_natCast, Nat.add_zero] at *) <;> (try simp only [rng]) <;> (first | assumption | omega)) | (intros; simp; done) | (intros; simp; omega)))
      | with_reducible refine Due.mk ?_
      | omega)
    all_goals exact ⟨rfl, rfl, rfl⟩
end Go.Proofs.Ytfgaefpdccdfiaa
