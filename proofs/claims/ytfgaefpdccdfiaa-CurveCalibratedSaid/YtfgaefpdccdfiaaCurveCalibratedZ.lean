/- The law CurveCalibrated: at its points, a calibrated curve is the least tone that reaches the target. -/
import Derived.Test.YtfgaefpdccdfiaaCurve5
import Derived.Test.YtfgaefpdccdfiaaCurveW
import Derived.Test.YtfgaefpdccdfiaaXCurveCalibrated0
namespace Go.Proofs.Ytfgaefpdccdfiaa
open Go Go.Lite
set_option linter.unusedVariables false
set_option linter.unusedSimpArgs false
set_option maxRecDepth 100000
set_option maxHeartbeats 4000000
-- @simp rd2i

noncomputable def calL (m c : List (Int × Int)) : List (Int × Int) := tab 17 fun k => ((k : Int) * 4080, lst m (raw c (k * 4080)))
theorem calL_len (m c : List (Int × Int)) : (calL m c).length = 17 := tab_len
theorem calL_get {m c : List (Int × Int)} {k : Nat} (h : k < 17) : (calL m c).getD k (0, 0) = ((k : Int) * 4080, lst m (raw c (k * 4080))) := tab_get h
theorem lst_mono {m : List (Int × Int)} (v : Valid m) {y y' : Int} (h : y ≤ y') (hy : y' ≤ (m.getD (m.length - 1) (0, 0)).2) : lst m y ≤ lst m y' := by
  obtain ⟨a1, a2, a3, a4⟩ := lst_is v (y := y) (by omega)
  obtain ⟨b1, b2, b3, b4⟩ := lst_is v hy
  rcases Int.lt_or_le (lst m y') (lst m y) with hl | hl
  · have := raw_mono v (x := lst m y') (y := lst m y - 1) ⟨b1, b2⟩ (by omega) (by omega); omega
  · exact hl
theorem calL_valid {m c : List (Int × Int)} (v : Valid m) (w : Valid c) (h : (c.getD (c.length - 1) (0, 0)).2 ≤ (m.getD (m.length - 1) (0, 0)).2) : Valid (calL m c) := by
  refine ⟨by rw [calL_len]; omega, fun i hi => ?_, fun i hi => ?_, ?_, ?_⟩
  · rw [calL_len] at hi
    rw [calL_get hi]
    have := raw_bd w (x := i * 4080) (by omega)
    have := lst_is v (y := raw c (i * 4080)) (by omega)
    exact ⟨by dsimp only; omega, by dsimp only; omega, this.1, this.2.1⟩
  · rw [calL_len] at hi
    rw [calL_get hi, calL_get (by omega)]
    have := raw_bd w (x := ((i + 1 : Nat) : Int) * 4080) (by omega)
    have hm := raw_mono w (x := i * 4080) (y := ((i + 1 : Nat) : Int) * 4080) (by omega) (by omega) (by omega)
    exact ⟨by dsimp only; omega, lst_mono v hm (by omega)⟩
  · rw [calL_get (by omega)]; rfl
  · rw [calL_len, calL_get (by omega)]; rfl

theorem CurveCalibrated_law (m c : List (Int × Int)) (wm : m.length ≤ 9223372036854775807 ∧ ∀ y ∈ m, W2i y) (wc : c.length ≤ 9223372036854775807 ∧ ∀ y ∈ c, W2i y) :
    TC R Try.prog K2_CurveCalibrated_f [.agg [.lst E2i m], .agg [.lst E2i c]] [] (fun v X => v = .bool true ∧ X = []) := by
  refine tc0 env K2_CurveCalibrated_s (by rfl) ?_
  dsimp only [K2_CurveCalibrated_c]
  by_cases h : check m = 0 ∧ check c = 0 ∧ (c.getD (c.length - 1) (0, 0)).2 ≤ (m.getD (m.length - 1) (0, 0)).2
  · obtain ⟨h1, h2, h3⟩ := h
    have v := check_ok h1
    have w := check_ok h2
    have y1 : TC R Try.prog curve_Calibrate_f [.agg [.lst E2i m], .agg [.lst E2i c]] [] (fun v X => v = .tup [.agg [.lst E2i (calL m c)], .int .i64 0] ∧ X = []) := calib_y m c h1 h2 h3
    have y2 := check_c (calL m c)
    rw [check_valid (calL_valid v w h3)] at y2
    have hL := calL_len m c
    have hg := fun k (hk : k < 17) => calL_get (m := m) (c := c) hk
    generalize calL m c = L at *
    repeat' (first
      | ((with_reducible refine TOps.any ?_); refine TOps.callV env (by rfl) (by rfl) (by rfl) (curveWorks_c) ?_)
      | ((with_reducible refine TOps.any ?_); refine TOps.callV env (by rfl) (by rfl) (by rfl) (y1) ?_)
      | ((with_reducible refine TOps.any ?_); refine TOps.callV env (by rfl) (by rfl) (by rfl) (y2) ?_)
      | with_reducible refine Tw.seq ?_
      | with_reducible refine Tw.reg ?_
      | with_reducible refine Tw.block ?_
      | with_reducible refine Tw.scope ?_
      | with_reducible refine Tw.skip ?_
      | with_reducible refine Tw.exit ?_
      | with_reducible refine Tw.ret ?_
      | with_reducible refine seqN ?_
      | with_reducible refine seqR ?_
      | with_reducible refine seqE ?_
      | with_reducible refine blkN ?_
      | with_reducible refine blkR ?_
      | with_reducible refine blkE1 ?_
      | with_reducible refine blkE0 (by kernel_rfl) ?_
      | with_reducible refine scpN ?_
      | with_reducible refine scpR ?_
      | with_reducible refine scpE ?_
      | with_reducible refine TOps.nil ?_
      | with_reducible exact Conj.nil
      | with_reducible refine Conj.cons rfl ?_
      | with_reducible refine Conj.same ?_
      | with_reducible refine Conj.ask ?_ ?_
      | ((with_reducible refine TOps.any ?_); refine TOps.frunP env (by rfl) (by rfl) ?_ ?_)
      | with_reducible refine Tw.regd env ?_
      | ((with_reducible refine TDr.any ?_); refine TDr.frunP env (by rfl) (by rfl) ?_ ?_)
      | with_reducible refine TDr.nil ⟨by kernel_rfl, ?_⟩
      | ((with_reducible refine TOps.any ?_); refine TOps.strip env (by rfl) (by rfl) ?_ ?_)
      | ((with_reducible refine TOps.any ?_); (fail_if_success refine TOps.known (by rfl) ?_); refine TOps.ask (by rfl) (fun h => ?_) (fun h => ?_) <;> (try simp only [decide_eq_true_eq, decide_eq_false_iff_not, Bool.or_eq_true, Bool.and_eq_true, Bool.or_eq_false_iff, Bool.and_eq_false_iff, Bool.not_eq_true', Bool.not_eq_false', Int.not_lt, Int.not_le, Int.toNat_natCast, Int.toNat_zero, cond_false, cond_true, Bool.not_not] at h) <;> (try simp only [rd2i, Int.toNat_natCast, Nat.add_zero] at h) <;> (try (exfalso; (try simp only [and_true, true_and, or_false, false_or, not_true_eq_false, not_false_eq_true, decide_true, Bool.not_true, Bool.false_eq_true, reduceCtorEq] at h); first | assumption | omega)))
      | ((with_reducible refine Tw.any ?_); refine Tw.condT (by rfl) ?_)
      | ((with_reducible refine Tw.any ?_); refine Tw.condF (by rfl) ?_)
      | ((with_reducible refine Tw.any ?_); refine Tw.cond (by rfl) (fun h => ?_) (fun h => ?_) <;> (try simp only [decide_eq_true_eq, decide_eq_false_iff_not, Bool.or_eq_true, Bool.and_eq_true, Bool.or_eq_false_iff, Bool.and_eq_false_iff, Bool.not_eq_true', Bool.not_eq_false', Int.not_lt, Int.not_le, Int.toNat_natCast, Int.toNat_zero, cond_false, cond_true, Bool.not_not] at h) <;> (try simp only [rd2i, Int.toNat_natCast, Nat.add_zero] at h) <;> (try (exfalso; (try simp only [and_true, true_and, or_false, false_or, not_true_eq_false, not_false_eq_true, decide_true, Bool.not_true, Bool.false_eq_true, reduceCtorEq] at h); first | assumption | omega)))
      | ((with_reducible refine tret.any ?_); first | refine tret.ok (by rfl) ?_ | refine tret.okN (by rfl) ?_)
      | ((with_reducible refine Due.mk ?_); (first | with_reducible rfl | omega | assumption | decide | ((try simp only [decide_eq_true_eq, decide_eq_false_iff_not, Bool.or_eq_true, Bool.and_eq_true, Bool.or_eq_false_iff, Bool.and_eq_false_iff, Bool.not_eq_true', Bool.not_eq_false', Int.not_lt, Int.not_le, Int.toNat_natCast, Int.toNat_zero, cond_false, cond_true, Bool.not_not] at *) <;> (try intro h) <;> (try intro h') <;> (try simp only [decide_eq_true_eq, decide_eq_false_iff_not, Bool.or_eq_true, Bool.and_eq_true, Bool.or_eq_false_iff, Bool.and_eq_false_iff, Bool.not_eq_true', Bool.not_eq_false', Int.not_lt, Int.not_le, Int.toNat_natCast, Int.toNat_zero, cond_false, cond_true, Bool.not_not] at *) <;> (try simp only [rd2i, Int.toNat_natCast, Nat.add_zero] at *) <;> (try simp only [rng]) <;> (first | assumption | omega)) | (intros; simp; done) | (intros; simp; omega)))
      | with_reducible refine Due.mk ?_
      | omega)
    refine Tw.loopK [2, 3, 37, 38] (fun i : Nat => i ≤ 17) (fun i => 17 - i) (fun i => [(39, .int .i64 i)]) (fun _ => [some (.cells [.lst E2i m]), some (.cells [.lst E2i c])]) ⟨0, by omega, TWk.fcanon env [some 0, some 1] (by rfl) ?_⟩ (fun i hi => ?_)
    · repeat' (first
        | with_reducible refine Tw.seq ?_
        | with_reducible refine Tw.reg ?_
        | with_reducible refine Tw.block ?_
        | with_reducible refine Tw.scope ?_
        | with_reducible refine Tw.skip ?_
        | with_reducible refine Tw.exit ?_
        | with_reducible refine Tw.ret ?_
        | with_reducible refine seqN ?_
        | with_reducible refine seqR ?_
        | with_reducible refine seqE ?_
        | with_reducible refine blkN ?_
        | with_reducible refine blkR ?_
        | with_reducible refine blkE1 ?_
        | with_reducible refine blkE0 (by kernel_rfl) ?_
        | with_reducible refine scpN ?_
        | with_reducible refine scpR ?_
        | with_reducible refine scpE ?_
        | with_reducible refine TOps.nil ?_
        | with_reducible exact Conj.nil
        | with_reducible refine Conj.cons rfl ?_
        | with_reducible refine Conj.same ?_
        | with_reducible refine Conj.ask ?_ ?_
        | ((with_reducible refine TOps.any ?_); refine TOps.frunP env (by rfl) (by rfl) ?_ ?_)
        | with_reducible refine Tw.regd env ?_
        | ((with_reducible refine TDr.any ?_); refine TDr.frunP env (by rfl) (by rfl) ?_ ?_)
        | with_reducible refine TDr.nil ⟨by kernel_rfl, ?_⟩
        | ((with_reducible refine TOps.any ?_); refine TOps.strip env (by rfl) (by rfl) ?_ ?_)
        | ((with_reducible refine TOps.any ?_); (fail_if_success refine TOps.known (by rfl) ?_); refine TOps.ask (by rfl) (fun h => ?_) (fun h => ?_) <;> (try simp only [decide_eq_true_eq, decide_eq_false_iff_not, Bool.or_eq_true, Bool.and_eq_true, Bool.or_eq_false_iff, Bool.and_eq_false_iff, Bool.not_eq_true', Bool.not_eq_false', Int.not_lt, Int.not_le, Int.toNat_natCast, Int.toNat_zero, cond_false, cond_true, Bool.not_not] at h) <;> (try simp only [rd2i, Int.toNat_natCast, Nat.add_zero] at h))
        | ((with_reducible refine Tw.any ?_); refine Tw.condT (by rfl) ?_)
        | ((with_reducible refine Tw.any ?_); refine Tw.condF (by rfl) ?_)
        | ((with_reducible refine Tw.any ?_); refine Tw.cond (by rfl) (fun h => ?_) (fun h => ?_) <;> (try simp only [decide_eq_true_eq, decide_eq_false_iff_not, Bool.or_eq_true, Bool.and_eq_true, Bool.or_eq_false_iff, Bool.and_eq_false_iff, Bool.not_eq_true', Bool.not_eq_false', Int.not_lt, Int.not_le, Int.toNat_natCast, Int.toNat_zero, cond_false, cond_true, Bool.not_not] at h) <;> (try simp only [rd2i, Int.toNat_natCast, Nat.add_zero] at h))
        | ((with_reducible refine tret.any ?_); first | refine tret.ok (by rfl) ?_ | refine tret.okN (by rfl) ?_)
        | ((with_reducible refine Due.mk ?_); (first | with_reducible rfl | omega | assumption | decide | ((try simp only [decide_eq_true_eq, decide_eq_false_iff_not, Bool.or_eq_true, Bool.and_eq_true, Bool.or_eq_false_iff, Bool.and_eq_false_iff, Bool.not_eq_true', Bool.not_eq_false', Int.not_lt, Int.not_le, Int.toNat_natCast, Int.toNat_zero, cond_false, cond_true, Bool.not_not] at *) <;> (try intro h) <;> (try intro h') <;> (try simp only [decide_eq_true_eq, decide_eq_false_iff_not, Bool.or_eq_true, Bool.and_eq_true, Bool.or_eq_false_iff, Bool.and_eq_false_iff, Bool.not_eq_true', Bool.not_eq_false', Int.not_lt, Int.not_le, Int.toNat_natCast, Int.toNat_zero, cond_false, cond_true, Bool.not_not] at *) <;> (try simp only [rd2i, Int.toNat_natCast, Nat.add_zero] at *) <;> (try simp only [rng]) <;> (first | assumption | omega)) | (intros; simp; done) | (intros; simp; omega)))
        | with_reducible refine Due.mk ?_
        | omega)
    rcases Nat.lt_or_ge i 17 with hi | hi
    · have g := hg i hi
      have b := raw_bd w (x := i * 4080) (by omega)
      have z := lst_is v (y := raw c (i * 4080)) (by omega)
      unfold isLeast at z
      have t1 := at_c c (4080 * i)
      rw [if_pos ⟨h2, by omega⟩, if_pos h2, if_pos (by omega), show raw c (4080 * (i : Int)) = raw c (i * 4080) by rw [Int.mul_comm]] at t1
      have hx : (L.getD i (0, 0)).1 = (i : Int) * 4080 := by rw [g]
      have hl : (L.getD i (0, 0)).2 = lst m (raw c (i * 4080)) := by rw [g]
      rw [← hl] at z
      have t2 := at_c m (L.getD i (0, 0)).2
      rw [if_pos ⟨h1, by omega⟩, if_pos h1, if_pos (by omega)] at t2
      have t3 : 0 < (L.getD i (0, 0)).2 → TC R Try.prog curve_At_f [.agg [.lst E2i m], .int .i64 ((L.getD i (0, 0)).2 - 1)] [] (fun w X => w = .tup [.int .i64 (raw m ((L.getD i (0, 0)).2 - 1)), .int .i64 0] ∧ X = []) := fun h0 => by
        have t3 := at_c m ((L.getD i (0, 0)).2 - 1)
        rwa [if_pos ⟨h1, by omega⟩, if_pos h1, if_pos (by omega)] at t3
      have mb := v.rg (m.length - 1) (by have := v.len; omega)
      have b1 := raw_bd v (x := (L.getD i (0, 0)).2) (by omega)
      have b2 := fun h0 : 0 < (L.getD i (0, 0)).2 => raw_bd v (x := (L.getD i (0, 0)).2 - 1) (by omega)
      repeat' (first
        | ((with_reducible refine TOps.any ?_); refine TOps.callV env (by rfl) (by rfl) (by rfl) (t1) ?_)
        | ((with_reducible refine TOps.any ?_); refine TOps.callV env (by rfl) (by rfl) (by rfl) (t2) ?_)
        | ((with_reducible refine TOps.any ?_); refine TOps.callV env (by rfl) (by rfl) (by rfl) (t3 (by assumption)) ?_)
        | with_reducible refine Tw.seq ?_
        | with_reducible refine Tw.reg ?_
        | with_reducible refine Tw.block ?_
        | with_reducible refine Tw.scope ?_
        | with_reducible refine Tw.skip ?_
        | with_reducible refine Tw.exit ?_
        | with_reducible refine Tw.ret ?_
        | with_reducible refine seqN ?_
        | with_reducible refine seqR ?_
        | with_reducible refine seqE ?_
        | with_reducible refine blkN ?_
        | with_reducible refine blkR ?_
        | with_reducible refine blkE1 ?_
        | with_reducible refine blkE0 (by kernel_rfl) ?_
        | with_reducible refine scpN ?_
        | with_reducible refine scpR ?_
        | with_reducible refine scpE ?_
        | with_reducible refine TOps.nil ?_
        | with_reducible exact Conj.nil
        | with_reducible refine Conj.cons rfl ?_
        | with_reducible refine Conj.same ?_
        | with_reducible refine Conj.ask ?_ ?_
        | ((with_reducible refine TOps.any ?_); refine TOps.frunP env (by rfl) (by rfl) ?_ ?_)
        | with_reducible refine Tw.regd env ?_
        | ((with_reducible refine TDr.any ?_); refine TDr.frunP env (by rfl) (by rfl) ?_ ?_)
        | with_reducible refine TDr.nil ⟨by kernel_rfl, ?_⟩
        | ((with_reducible refine TOps.any ?_); refine TOps.strip env (by rfl) (by rfl) ?_ ?_)
        | ((with_reducible refine TOps.any ?_); (fail_if_success refine TOps.known (by rfl) ?_); refine TOps.ask (by rfl) (fun h => ?_) (fun h => ?_) <;> (try simp only [decide_eq_true_eq, decide_eq_false_iff_not, Bool.or_eq_true, Bool.and_eq_true, Bool.or_eq_false_iff, Bool.and_eq_false_iff, Bool.not_eq_true', Bool.not_eq_false', Int.not_lt, Int.not_le, Int.toNat_natCast, Int.toNat_zero, cond_false, cond_true, Bool.not_not] at h) <;> (try simp only [rd2i, Int.toNat_natCast, Nat.add_zero] at h) <;> (try (exfalso; (try simp only [and_true, true_and, or_false, false_or, not_true_eq_false, not_false_eq_true, decide_true, Bool.not_true, Bool.false_eq_true, reduceCtorEq] at h); first | assumption | omega)))
        | ((with_reducible refine Tw.any ?_); refine Tw.condT (by rfl) ?_)
        | ((with_reducible refine Tw.any ?_); refine Tw.condF (by rfl) ?_)
        | ((with_reducible refine Tw.any ?_); refine Tw.cond (by rfl) (fun h => ?_) (fun h => ?_) <;> (try simp only [decide_eq_true_eq, decide_eq_false_iff_not, Bool.or_eq_true, Bool.and_eq_true, Bool.or_eq_false_iff, Bool.and_eq_false_iff, Bool.not_eq_true', Bool.not_eq_false', Int.not_lt, Int.not_le, Int.toNat_natCast, Int.toNat_zero, cond_false, cond_true, Bool.not_not] at h) <;> (try simp only [rd2i, Int.toNat_natCast, Nat.add_zero] at h) <;> (try (exfalso; (try simp only [and_true, true_and, or_false, false_or, not_true_eq_false, not_false_eq_true, decide_true, Bool.not_true, Bool.false_eq_true, reduceCtorEq] at h); first | assumption | omega)))
        | ((with_reducible refine tret.any ?_); first | refine tret.ok (by rfl) ?_ | refine tret.okN (by rfl) ?_)
        | ((with_reducible refine Due.mk ?_); (first | with_reducible rfl | omega | assumption | decide | ((try simp only [decide_eq_true_eq, decide_eq_false_iff_not, Bool.or_eq_true, Bool.and_eq_true, Bool.or_eq_false_iff, Bool.and_eq_false_iff, Bool.not_eq_true', Bool.not_eq_false', Int.not_lt, Int.not_le, Int.toNat_natCast, Int.toNat_zero, cond_false, cond_true, Bool.not_not] at *) <;> (try intro h) <;> (try intro h') <;> (try simp only [decide_eq_true_eq, decide_eq_false_iff_not, Bool.or_eq_true, Bool.and_eq_true, Bool.or_eq_false_iff, Bool.and_eq_false_iff, Bool.not_eq_true', Bool.not_eq_false', Int.not_lt, Int.not_le, Int.toNat_natCast, Int.toNat_zero, cond_false, cond_true, Bool.not_not] at *) <;> (try simp only [rd2i, Int.toNat_natCast, Nat.add_zero] at *) <;> (try simp only [rng]) <;> (first | assumption | omega)) | (intros; simp; done) | (intros; simp; omega)))
        | with_reducible refine Due.mk ?_
        | omega)
      all_goals refine ⟨i + 1, by omega, by omega, TWk.fcanon env [some 0, some 1] (by rfl) ?_⟩
      repeat' (first
        | with_reducible refine Tw.seq ?_
        | with_reducible refine Tw.reg ?_
        | with_reducible refine Tw.block ?_
        | with_reducible refine Tw.scope ?_
        | with_reducible refine Tw.skip ?_
        | with_reducible refine Tw.exit ?_
        | with_reducible refine Tw.ret ?_
        | with_reducible refine seqN ?_
        | with_reducible refine seqR ?_
        | with_reducible refine seqE ?_
        | with_reducible refine blkN ?_
        | with_reducible refine blkR ?_
        | with_reducible refine blkE1 ?_
        | with_reducible refine blkE0 (by kernel_rfl) ?_
        | with_reducible refine scpN ?_
        | with_reducible refine scpR ?_
        | with_reducible refine scpE ?_
        | with_reducible refine TOps.nil ?_
        | with_reducible exact Conj.nil
        | with_reducible refine Conj.cons rfl ?_
        | with_reducible refine Conj.same ?_
        | with_reducible refine Conj.ask ?_ ?_
        | ((with_reducible refine TOps.any ?_); refine TOps.frunP env (by rfl) (by rfl) ?_ ?_)
        | with_reducible refine Tw.regd env ?_
        | ((with_reducible refine TDr.any ?_); refine TDr.frunP env (by rfl) (by rfl) ?_ ?_)
        | with_reducible refine TDr.nil ⟨by kernel_rfl, ?_⟩
        | ((with_reducible refine TOps.any ?_); refine TOps.strip env (by rfl) (by rfl) ?_ ?_)
        | ((with_reducible refine TOps.any ?_); (fail_if_success refine TOps.known (by rfl) ?_); refine TOps.ask (by rfl) (fun h => ?_) (fun h => ?_) <;> (try simp only [decide_eq_true_eq, decide_eq_false_iff_not, Bool.or_eq_true, Bool.and_eq_true, Bool.or_eq_false_iff, Bool.and_eq_false_iff, Bool.not_eq_true', Bool.not_eq_false', Int.not_lt, Int.not_le, Int.toNat_natCast, Int.toNat_zero, cond_false, cond_true, Bool.not_not] at h) <;> (try simp only [rd2i, Int.toNat_natCast, Nat.add_zero] at h))
        | ((with_reducible refine Tw.any ?_); refine Tw.condT (by rfl) ?_)
        | ((with_reducible refine Tw.any ?_); refine Tw.condF (by rfl) ?_)
        | ((with_reducible refine Tw.any ?_); refine Tw.cond (by rfl) (fun h => ?_) (fun h => ?_) <;> (try simp only [decide_eq_true_eq, decide_eq_false_iff_not, Bool.or_eq_true, Bool.and_eq_true, Bool.or_eq_false_iff, Bool.and_eq_false_iff, Bool.not_eq_true', Bool.not_eq_false', Int.not_lt, Int.not_le, Int.toNat_natCast, Int.toNat_zero, cond_false, cond_true, Bool.not_not] at h) <;> (try simp only [rd2i, Int.toNat_natCast, Nat.add_zero] at h))
        | ((with_reducible refine tret.any ?_); first | refine tret.ok (by rfl) ?_ | refine tret.okN (by rfl) ?_)
        | ((with_reducible refine Due.mk ?_); (first | with_reducible rfl | omega | assumption | decide | ((try simp only [decide_eq_true_eq, decide_eq_false_iff_not, Bool.or_eq_true, Bool.and_eq_true, Bool.or_eq_false_iff, Bool.and_eq_false_iff, Bool.not_eq_true', Bool.not_eq_false', Int.not_lt, Int.not_le, Int.toNat_natCast, Int.toNat_zero, cond_false, cond_true, Bool.not_not] at *) <;> (try intro h) <;> (try intro h') <;> (try simp only [decide_eq_true_eq, decide_eq_false_iff_not, Bool.or_eq_true, Bool.and_eq_true, Bool.or_eq_false_iff, Bool.and_eq_false_iff, Bool.not_eq_true', Bool.not_eq_false', Int.not_lt, Int.not_le, Int.toNat_natCast, Int.toNat_zero, cond_false, cond_true, Bool.not_not] at *) <;> (try simp only [rd2i, Int.toNat_natCast, Nat.add_zero] at *) <;> (try simp only [rng]) <;> (first | assumption | omega)) | (intros; simp; done) | (intros; simp; omega)))
        | with_reducible refine Due.mk ?_
        | omega)
    · repeat' (first
        | with_reducible refine Tw.seq ?_
        | with_reducible refine Tw.reg ?_
        | with_reducible refine Tw.block ?_
        | with_reducible refine Tw.scope ?_
        | with_reducible refine Tw.skip ?_
        | with_reducible refine Tw.exit ?_
        | with_reducible refine Tw.ret ?_
        | with_reducible refine seqN ?_
        | with_reducible refine seqR ?_
        | with_reducible refine seqE ?_
        | with_reducible refine blkN ?_
        | with_reducible refine blkR ?_
        | with_reducible refine blkE1 ?_
        | with_reducible refine blkE0 (by kernel_rfl) ?_
        | with_reducible refine scpN ?_
        | with_reducible refine scpR ?_
        | with_reducible refine scpE ?_
        | with_reducible refine TOps.nil ?_
        | with_reducible exact Conj.nil
        | with_reducible refine Conj.cons rfl ?_
        | with_reducible refine Conj.same ?_
        | with_reducible refine Conj.ask ?_ ?_
        | ((with_reducible refine TOps.any ?_); refine TOps.frunP env (by rfl) (by rfl) ?_ ?_)
        | with_reducible refine Tw.regd env ?_
        | ((with_reducible refine TDr.any ?_); refine TDr.frunP env (by rfl) (by rfl) ?_ ?_)
        | with_reducible refine TDr.nil ⟨by kernel_rfl, ?_⟩
        | ((with_reducible refine TOps.any ?_); refine TOps.strip env (by rfl) (by rfl) ?_ ?_)
        | ((with_reducible refine TOps.any ?_); (fail_if_success refine TOps.known (by rfl) ?_); refine TOps.ask (by rfl) (fun h => ?_) (fun h => ?_) <;> (try simp only [decide_eq_true_eq, decide_eq_false_iff_not, Bool.or_eq_true, Bool.and_eq_true, Bool.or_eq_false_iff, Bool.and_eq_false_iff, Bool.not_eq_true', Bool.not_eq_false', Int.not_lt, Int.not_le, Int.toNat_natCast, Int.toNat_zero, cond_false, cond_true, Bool.not_not] at h) <;> (try simp only [rd2i, Int.toNat_natCast, Nat.add_zero] at h))
        | ((with_reducible refine Tw.any ?_); refine Tw.condT (by rfl) ?_)
        | ((with_reducible refine Tw.any ?_); refine Tw.condF (by rfl) ?_)
        | ((with_reducible refine Tw.any ?_); refine Tw.cond (by rfl) (fun h => ?_) (fun h => ?_) <;> (try simp only [decide_eq_true_eq, decide_eq_false_iff_not, Bool.or_eq_true, Bool.and_eq_true, Bool.or_eq_false_iff, Bool.and_eq_false_iff, Bool.not_eq_true', Bool.not_eq_false', Int.not_lt, Int.not_le, Int.toNat_natCast, Int.toNat_zero, cond_false, cond_true, Bool.not_not] at h) <;> (try simp only [rd2i, Int.toNat_natCast, Nat.add_zero] at h))
        | ((with_reducible refine tret.any ?_); first | refine tret.ok (by rfl) ?_ | refine tret.okN (by rfl) ?_)
        | ((with_reducible refine Due.mk ?_); (first | with_reducible rfl | omega | assumption | decide | ((try simp only [decide_eq_true_eq, decide_eq_false_iff_not, Bool.or_eq_true, Bool.and_eq_true, Bool.or_eq_false_iff, Bool.and_eq_false_iff, Bool.not_eq_true', Bool.not_eq_false', Int.not_lt, Int.not_le, Int.toNat_natCast, Int.toNat_zero, cond_false, cond_true, Bool.not_not] at *) <;> (try intro h) <;> (try intro h') <;> (try simp only [decide_eq_true_eq, decide_eq_false_iff_not, Bool.or_eq_true, Bool.and_eq_true, Bool.or_eq_false_iff, Bool.and_eq_false_iff, Bool.not_eq_true', Bool.not_eq_false', Int.not_lt, Int.not_le, Int.toNat_natCast, Int.toNat_zero, cond_false, cond_true, Bool.not_not] at *) <;> (try simp only [rd2i, Int.toNat_natCast, Nat.add_zero] at *) <;> (try simp only [rng]) <;> (first | assumption | omega)) | (intros; simp; done) | (intros; simp; omega)))
        | with_reducible refine Due.mk ?_
        | omega)
      exact ⟨rfl, rfl, rfl⟩
  · repeat' (first
      | ((with_reducible refine TOps.any ?_); refine TOps.callV env (by rfl) (by rfl) (by rfl) (curveWorks_c) ?_)
      | with_reducible refine Tw.seq ?_
      | with_reducible refine Tw.reg ?_
      | with_reducible refine Tw.block ?_
      | with_reducible refine Tw.scope ?_
      | with_reducible refine Tw.skip ?_
      | with_reducible refine Tw.exit ?_
      | with_reducible refine Tw.ret ?_
      | with_reducible refine seqN ?_
      | with_reducible refine seqR ?_
      | with_reducible refine seqE ?_
      | with_reducible refine blkN ?_
      | with_reducible refine blkR ?_
      | with_reducible refine blkE1 ?_
      | with_reducible refine blkE0 (by kernel_rfl) ?_
      | with_reducible refine scpN ?_
      | with_reducible refine scpR ?_
      | with_reducible refine scpE ?_
      | with_reducible refine TOps.nil ?_
      | with_reducible exact Conj.nil
      | with_reducible refine Conj.cons rfl ?_
      | with_reducible refine Conj.same ?_
      | with_reducible refine Conj.ask ?_ ?_
      | ((with_reducible refine TOps.any ?_); refine TOps.frunP env (by rfl) (by rfl) ?_ ?_)
      | with_reducible refine Tw.regd env ?_
      | ((with_reducible refine TDr.any ?_); refine TDr.frunP env (by rfl) (by rfl) ?_ ?_)
      | with_reducible refine TDr.nil ⟨by kernel_rfl, ?_⟩
      | ((with_reducible refine TOps.any ?_); refine TOps.strip env (by rfl) (by rfl) ?_ ?_)
      | ((with_reducible refine TOps.any ?_); (fail_if_success refine TOps.known (by rfl) ?_); refine TOps.ask (by rfl) (fun h => ?_) (fun h => ?_) <;> (try simp only [decide_eq_true_eq, decide_eq_false_iff_not, Bool.or_eq_true, Bool.and_eq_true, Bool.or_eq_false_iff, Bool.and_eq_false_iff, Bool.not_eq_true', Bool.not_eq_false', Int.not_lt, Int.not_le, Int.toNat_natCast, Int.toNat_zero, cond_false, cond_true, Bool.not_not] at h) <;> (try simp only [rd2i, Int.toNat_natCast, Nat.add_zero] at h))
      | ((with_reducible refine Tw.any ?_); refine Tw.condT (by rfl) ?_)
      | ((with_reducible refine Tw.any ?_); refine Tw.condF (by rfl) ?_)
      | ((with_reducible refine Tw.any ?_); refine Tw.cond (by rfl) (fun h => ?_) (fun h => ?_) <;> (try simp only [decide_eq_true_eq, decide_eq_false_iff_not, Bool.or_eq_true, Bool.and_eq_true, Bool.or_eq_false_iff, Bool.and_eq_false_iff, Bool.not_eq_true', Bool.not_eq_false', Int.not_lt, Int.not_le, Int.toNat_natCast, Int.toNat_zero, cond_false, cond_true, Bool.not_not] at h) <;> (try simp only [rd2i, Int.toNat_natCast, Nat.add_zero] at h))
      | ((with_reducible refine tret.any ?_); first | refine tret.ok (by rfl) ?_ | refine tret.okN (by rfl) ?_)
      | ((with_reducible refine Due.mk ?_); (first | with_reducible rfl | omega | assumption | decide | ((try simp only [decide_eq_true_eq, decide_eq_false_iff_not, Bool.or_eq_true, Bool.and_eq_true, Bool.or_eq_false_iff, Bool.and_eq_false_iff, Bool.not_eq_true', Bool.not_eq_false', Int.not_lt, Int.not_le, Int.toNat_natCast, Int.toNat_zero, cond_false, cond_true, Bool.not_not] at *) <;> (try intro h) <;> (try intro h') <;> (try simp only [decide_eq_true_eq, decide_eq_false_iff_not, Bool.or_eq_true, Bool.and_eq_true, Bool.or_eq_false_iff, Bool.and_eq_false_iff, Bool.not_eq_true', Bool.not_eq_false', Int.not_lt, Int.not_le, Int.toNat_natCast, Int.toNat_zero, cond_false, cond_true, Bool.not_not] at *) <;> (try simp only [rd2i, Int.toNat_natCast, Nat.add_zero] at *) <;> (try simp only [rng]) <;> (first | assumption | omega)) | (intros; simp; done) | (intros; simp; omega)))
      | with_reducible refine Due.mk ?_
      | omega)
    refine TOps.call env (by rfl) (by rfl) (by rfl) (calib_n _ _ h) ?_
    rintro _ _ ⟨⟨e, he, rfl⟩, rfl⟩
    repeat' (first
      | with_reducible refine Tw.seq ?_
      | with_reducible refine Tw.reg ?_
      | with_reducible refine Tw.block ?_
      | with_reducible refine Tw.scope ?_
      | with_reducible refine Tw.skip ?_
      | with_reducible refine Tw.exit ?_
      | with_reducible refine Tw.ret ?_
      | with_reducible refine seqN ?_
      | with_reducible refine seqR ?_
      | with_reducible refine seqE ?_
      | with_reducible refine blkN ?_
      | with_reducible refine blkR ?_
      | with_reducible refine blkE1 ?_
      | with_reducible refine blkE0 (by kernel_rfl) ?_
      | with_reducible refine scpN ?_
      | with_reducible refine scpR ?_
      | with_reducible refine scpE ?_
      | with_reducible refine TOps.nil ?_
      | with_reducible exact Conj.nil
      | with_reducible refine Conj.cons rfl ?_
      | with_reducible refine Conj.same ?_
      | with_reducible refine Conj.ask ?_ ?_
      | ((with_reducible refine TOps.any ?_); refine TOps.frunP env (by rfl) (by rfl) ?_ ?_)
      | with_reducible refine Tw.regd env ?_
      | ((with_reducible refine TDr.any ?_); refine TDr.frunP env (by rfl) (by rfl) ?_ ?_)
      | with_reducible refine TDr.nil ⟨by kernel_rfl, ?_⟩
      | ((with_reducible refine TOps.any ?_); refine TOps.strip env (by rfl) (by rfl) ?_ ?_)
      | ((with_reducible refine TOps.any ?_); (fail_if_success refine TOps.known (by rfl) ?_); refine TOps.ask (by rfl) (fun h => ?_) (fun h => ?_) <;> (try simp only [decide_eq_true_eq, decide_eq_false_iff_not, Bool.or_eq_true, Bool.and_eq_true, Bool.or_eq_false_iff, Bool.and_eq_false_iff, Bool.not_eq_true', Bool.not_eq_false', Int.not_lt, Int.not_le, Int.toNat_natCast, Int.toNat_zero, cond_false, cond_true, Bool.not_not] at h) <;> (try simp only [rd2i, Int.toNat_natCast, Nat.add_zero] at h))
      | ((with_reducible refine Tw.any ?_); refine Tw.condT (by rfl) ?_)
      | ((with_reducible refine Tw.any ?_); refine Tw.condF (by rfl) ?_)
      | ((with_reducible refine Tw.any ?_); refine Tw.cond (by rfl) (fun h => ?_) (fun h => ?_) <;> (try simp only [decide_eq_true_eq, decide_eq_false_iff_not, Bool.or_eq_true, Bool.and_eq_true, Bool.or_eq_false_iff, Bool.and_eq_false_iff, Bool.not_eq_true', Bool.not_eq_false', Int.not_lt, Int.not_le, Int.toNat_natCast, Int.toNat_zero, cond_false, cond_true, Bool.not_not] at h) <;> (try simp only [rd2i, Int.toNat_natCast, Nat.add_zero] at h))
      | ((with_reducible refine tret.any ?_); first | refine tret.ok (by rfl) ?_ | refine tret.okN (by rfl) ?_)
      | ((with_reducible refine Due.mk ?_); (first | with_reducible rfl | omega | assumption | decide | ((try simp only [decide_eq_true_eq, decide_eq_false_iff_not, Bool.or_eq_true, Bool.and_eq_true, Bool.or_eq_false_iff, Bool.and_eq_false_iff, Bool.not_eq_true', Bool.not_eq_false', Int.not_lt, Int.not_le, Int.toNat_natCast, Int.toNat_zero, cond_false, cond_true, Bool.not_not] at *) <;> (try intro h) <;> (try intro h') <;> (try simp only [decide_eq_true_eq, decide_eq_false_iff_not, Bool.or_eq_true, Bool.and_eq_true, Bool.or_eq_false_iff, Bool.and_eq_false_iff, Bool.not_eq_true', Bool.not_eq_false', Int.not_lt, Int.not_le, Int.toNat_natCast, Int.toNat_zero, cond_false, cond_true, Bool.not_not] at *) <;> (try simp only [rd2i, Int.toNat_natCast, Nat.add_zero] at *) <;> (try simp only [rng]) <;> (first | assumption | omega)) | (intros; simp; done) | (intros; simp; omega)))
      | with_reducible refine Due.mk ?_
      | omega)
    all_goals exact ⟨rfl, rfl, rfl⟩
end Go.Proofs.Ytfgaefpdccdfiaa
