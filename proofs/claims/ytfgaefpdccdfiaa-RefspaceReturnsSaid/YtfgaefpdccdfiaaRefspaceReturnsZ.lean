/- The law RefspaceReturns: the colour of tristimulus values is that of the values that belong to it. -/
import Derived.Test.YtfgaefpdccdfiaaRef3
import Derived.Test.YtfgaefpdccdfiaaRefW
import Derived.Test.YtfgaefpdccdfiaaRMod
import Derived.Test.YtfgaefpdccdfiaaXRefspaceReturns0
namespace Go.Proofs.Ytfgaefpdccdfiaa
open Go Go.Lite
set_option linter.unusedVariables false
set_option linter.unusedSimpArgs false
set_option maxRecDepth 100000
set_option maxHeartbeats 4000000
-- @simp rdi

theorem rResponse_c (v w : Int) (h : Due (vwOk v w)) : TC R Try.prog R2_Response_f [.int .i64 v, .int .i64 w] [] (fun x X => x = .int .i64 (resp v w) ∧ X = []) := by
  dsimp only [Due] at h
  have hvw := h
  unfold vwOk at hvw
  refine tc0 env R2_Response_s (by rfl) ?_
  dsimp only [R2_Response_c]
  repeat' (first
    | with_reducible refine Tw.seq ?_
    | with_reducible refine Tw.reg ?_
    | with_reducible refine Tw.block ?_
    | with_reducible refine Tw.scope ?_
    | with_reducible refine Tw.skip ?_
    | with_reducible refine Tw.exit ?_
    | with_reducible refine Tw.ret ?_
    | with_reducible refine seqN ?_
    | with_reducible refine seqR ?_
    | with_reducible refine seqE ?_
    | with_reducible refine blkN ?_
    | with_reducible refine blkR ?_
    | with_reducible refine blkE1 ?_
    | with_reducible refine blkE0 (by kernel_rfl) ?_
    | with_reducible refine scpN ?_
    | with_reducible refine scpR ?_
    | with_reducible refine scpE ?_
    | with_reducible refine TOps.nil ?_
    | with_reducible exact Conj.nil
    | with_reducible refine Conj.cons rfl ?_
    | with_reducible refine Conj.same ?_
    | with_reducible refine Conj.ask ?_ ?_
    | ((with_reducible refine TOps.any ?_); refine TOps.frunP env (by rfl) (by rfl) ?_ ?_)
    | with_reducible refine Tw.regd env ?_
    | ((with_reducible refine TDr.any ?_); refine TDr.frunP env (by rfl) (by rfl) ?_ ?_)
    | with_reducible refine TDr.nil ⟨by kernel_rfl, ?_⟩
    | ((with_reducible refine TOps.any ?_); refine TOps.strip env (by rfl) (by rfl) ?_ ?_)
    | ((with_reducible refine TOps.any ?_); (fail_if_success refine TOps.known (by rfl) ?_); refine TOps.ask (by rfl) (fun h => ?_) (fun h => ?_) <;> (try simp only [decide_eq_true_eq, decide_eq_false_iff_not, Bool.or_eq_true, Bool.and_eq_true, Bool.or_eq_false_iff, Bool.and_eq_false_iff, Bool.not_eq_true', Bool.not_eq_false', Int.not_lt, Int.not_le, Int.toNat_natCast, Int.toNat_zero, cond_false, cond_true, Bool.not_not] at h) <;> (try simp only [rdi, Int.toNat_natCast, Nat.add_zero] at h))
    | ((with_reducible refine Tw.any ?_); refine Tw.condT (by rfl) ?_)
    | ((with_reducible refine Tw.any ?_); refine Tw.condF (by rfl) ?_)
    | ((with_reducible refine Tw.any ?_); refine Tw.cond (by rfl) (fun h => ?_) (fun h => ?_) <;> (try simp only [decide_eq_true_eq, decide_eq_false_iff_not, Bool.or_eq_true, Bool.and_eq_true, Bool.or_eq_false_iff, Bool.and_eq_false_iff, Bool.not_eq_true', Bool.not_eq_false', Int.not_lt, Int.not_le, Int.toNat_natCast, Int.toNat_zero, cond_false, cond_true, Bool.not_not] at h) <;> (try simp only [rdi, Int.toNat_natCast, Nat.add_zero] at h))
    | ((with_reducible refine tret.any ?_); first | refine tret.ok (by rfl) ?_ | refine tret.okN (by rfl) ?_)
    | ((with_reducible refine Due.mk ?_); (first | with_reducible rfl | omega | assumption | decide | ((try simp only [decide_eq_true_eq, decide_eq_false_iff_not, Bool.or_eq_true, Bool.and_eq_true, Bool.or_eq_false_iff, Bool.and_eq_false_iff, Bool.not_eq_true', Bool.not_eq_false', Int.not_lt, Int.not_le, Int.toNat_natCast, Int.toNat_zero, cond_false, cond_true, Bool.not_not] at *) <;> (try intro h) <;> (try intro h') <;> (try simp only [decide_eq_true_eq, decide_eq_false_iff_not, Bool.or_eq_true, Bool.and_eq_true, Bool.or_eq_false_iff, Bool.and_eq_false_iff, Bool.not_eq_true', Bool.not_eq_false', Int.not_lt, Int.not_le, Int.toNat_natCast, Int.toNat_zero, cond_false, cond_true, Bool.not_not] at *) <;> (try simp only [rdi, Int.toNat_natCast, Nat.add_zero] at *) <;> (try simp only [rng]) <;> (first | assumption | omega)) | (intros; simp; done) | (intros; simp; omega)))
    | with_reducible refine Due.mk ?_
    | omega)
  refine Tw.loopK [0, 1] (fun i : Nat => (i : Int) * i * i * w ≤ v * 1000000000000 ∧ i ≤ 15536) (fun i => 15537 - i) (fun i => [(5, .int .i64 i)]) (fun _ => []) ⟨0, ?_, TWk.fcanon env [] (by rfl) ?_⟩ (fun i hi => ?_)
  · simp; omega
  · repeat' (first
      | with_reducible refine Tw.seq ?_
      | with_reducible refine Tw.reg ?_
      | with_reducible refine Tw.block ?_
      | with_reducible refine Tw.scope ?_
      | with_reducible refine Tw.skip ?_
      | with_reducible refine Tw.exit ?_
      | with_reducible refine Tw.ret ?_
      | with_reducible refine seqN ?_
      | with_reducible refine seqR ?_
      | with_reducible refine seqE ?_
      | with_reducible refine blkN ?_
      | with_reducible refine blkR ?_
      | with_reducible refine blkE1 ?_
      | with_reducible refine blkE0 (by kernel_rfl) ?_
      | with_reducible refine scpN ?_
      | with_reducible refine scpR ?_
      | with_reducible refine scpE ?_
      | with_reducible refine TOps.nil ?_
      | with_reducible exact Conj.nil
      | with_reducible refine Conj.cons rfl ?_
      | with_reducible refine Conj.same ?_
      | with_reducible refine Conj.ask ?_ ?_
      | ((with_reducible refine TOps.any ?_); refine TOps.frunP env (by rfl) (by rfl) ?_ ?_)
      | with_reducible refine Tw.regd env ?_
      | ((with_reducible refine TDr.any ?_); refine TDr.frunP env (by rfl) (by rfl) ?_ ?_)
      | with_reducible refine TDr.nil ⟨by kernel_rfl, ?_⟩
      | ((with_reducible refine TOps.any ?_); refine TOps.strip env (by rfl) (by rfl) ?_ ?_)
      | ((with_reducible refine TOps.any ?_); (fail_if_success refine TOps.known (by rfl) ?_); refine TOps.ask (by rfl) (fun h => ?_) (fun h => ?_) <;> (try simp only [decide_eq_true_eq, decide_eq_false_iff_not, Bool.or_eq_true, Bool.and_eq_true, Bool.or_eq_false_iff, Bool.and_eq_false_iff, Bool.not_eq_true', Bool.not_eq_false', Int.not_lt, Int.not_le, Int.toNat_natCast, Int.toNat_zero, cond_false, cond_true, Bool.not_not] at h) <;> (try simp only [rdi, Int.toNat_natCast, Nat.add_zero] at h))
      | ((with_reducible refine Tw.any ?_); refine Tw.condT (by rfl) ?_)
      | ((with_reducible refine Tw.any ?_); refine Tw.condF (by rfl) ?_)
      | ((with_reducible refine Tw.any ?_); refine Tw.cond (by rfl) (fun h => ?_) (fun h => ?_) <;> (try simp only [decide_eq_true_eq, decide_eq_false_iff_not, Bool.or_eq_true, Bool.and_eq_true, Bool.or_eq_false_iff, Bool.and_eq_false_iff, Bool.not_eq_true', Bool.not_eq_false', Int.not_lt, Int.not_le, Int.toNat_natCast, Int.toNat_zero, cond_false, cond_true, Bool.not_not] at h) <;> (try simp only [rdi, Int.toNat_natCast, Nat.add_zero] at h))
      | ((with_reducible refine tret.any ?_); first | refine tret.ok (by rfl) ?_ | refine tret.okN (by rfl) ?_)
      | ((with_reducible refine Due.mk ?_); (first | with_reducible rfl | omega | assumption | decide | ((try simp only [decide_eq_true_eq, decide_eq_false_iff_not, Bool.or_eq_true, Bool.and_eq_true, Bool.or_eq_false_iff, Bool.and_eq_false_iff, Bool.not_eq_true', Bool.not_eq_false', Int.not_lt, Int.not_le, Int.toNat_natCast, Int.toNat_zero, cond_false, cond_true, Bool.not_not] at *) <;> (try intro h) <;> (try intro h') <;> (try simp only [decide_eq_true_eq, decide_eq_false_iff_not, Bool.or_eq_true, Bool.and_eq_true, Bool.or_eq_false_iff, Bool.and_eq_false_iff, Bool.not_eq_true', Bool.not_eq_false', Int.not_lt, Int.not_le, Int.toNat_natCast, Int.toNat_zero, cond_false, cond_true, Bool.not_not] at *) <;> (try simp only [rdi, Int.toNat_natCast, Nat.add_zero] at *) <;> (try simp only [rng]) <;> (first | assumption | omega)) | (intros; simp; done) | (intros; simp; omega)))
      | with_reducible refine Due.mk ?_
      | omega)
  have s0 := sq_bd (x := (i : Int) + 1) (k := 15537) (by omega)
  have s1 : 0 ≤ ((i : Int) + 1) * (i + 1) * (i + 1) ∧ ((i : Int) + 1) * (i + 1) * (i + 1) ≤ 15537 * 15537 * 15537 := ⟨Int.mul_nonneg s0.1 (by omega), Int.mul_le_mul s0.2 (by omega) (by omega) (by omega)⟩
  have s2 : 0 ≤ ((i : Int) + 1) * (i + 1) * (i + 1) * w ∧ ((i : Int) + 1) * (i + 1) * (i + 1) * w ≤ 15537 * 15537 * 15537 * 120000 := ⟨Int.mul_nonneg s1.1 (by omega), Int.mul_le_mul s1.2 (by omega) (by omega) (by omega)⟩
  have hf : v * 1000000000000 < ((i : Int) + 1) * (i + 1) * (i + 1) * w → cr v w = i := fun hh => cr_is h hi.1 hh
  have big := fun hh : 15537 ≤ (i : Int) + 1 => cube_big (f := (i : Int) + 1) h hh
  have hl : v * 1000000000000 < ((i : Int) + 1) * (i + 1) * (i + 1) * w → (i : Int) < 2069 → 0 ≤ v * 8410000 / (108 * w) ∧ v * 8410000 / (108 * w) ≤ 689 := fun h1 h2 => low_bd h (by rw [hf h1]; exact h2)
  repeat' (first
    | refine ⟨i + 1, ⟨?_, ?_⟩, ?_, TWk.fcanon env [] (by rfl) ?_⟩
    | ((with_reducible refine TOps.any ?_); refine TOps.callV env (by rfl) (by rfl) (by rfl) (rFloor_c _ _ ?_) ?_)
    | with_reducible refine Tw.seq ?_
    | with_reducible refine Tw.reg ?_
    | with_reducible refine Tw.block ?_
    | with_reducible refine Tw.scope ?_
    | with_reducible refine Tw.skip ?_
    | with_reducible refine Tw.exit ?_
    | with_reducible refine Tw.ret ?_
    | with_reducible refine seqN ?_
    | with_reducible refine seqR ?_
    | with_reducible refine seqE ?_
    | with_reducible refine blkN ?_
    | with_reducible refine blkR ?_
    | with_reducible refine blkE1 ?_
    | with_reducible refine blkE0 (by kernel_rfl) ?_
    | with_reducible refine scpN ?_
    | with_reducible refine scpR ?_
    | with_reducible refine scpE ?_
    | with_reducible refine TOps.nil ?_
    | with_reducible exact Conj.nil
    | with_reducible refine Conj.cons rfl ?_
    | with_reducible refine Conj.same ?_
    | with_reducible refine Conj.ask ?_ ?_
    | ((with_reducible refine TOps.any ?_); refine TOps.frunP env (by rfl) (by rfl) ?_ ?_)
    | with_reducible refine Tw.regd env ?_
    | ((with_reducible refine TDr.any ?_); refine TDr.frunP env (by rfl) (by rfl) ?_ ?_)
    | with_reducible refine TDr.nil ⟨by kernel_rfl, ?_⟩
    | ((with_reducible refine TOps.any ?_); refine TOps.strip env (by rfl) (by rfl) ?_ ?_)
    | ((with_reducible refine TOps.any ?_); (fail_if_success refine TOps.known (by rfl) ?_); refine TOps.ask (by rfl) (fun h => ?_) (fun h => ?_) <;> (try simp only [decide_eq_true_eq, decide_eq_false_iff_not, Bool.or_eq_true, Bool.and_eq_true, Bool.or_eq_false_iff, Bool.and_eq_false_iff, Bool.not_eq_true', Bool.not_eq_false', Int.not_lt, Int.not_le, Int.toNat_natCast, Int.toNat_zero, cond_false, cond_true, Bool.not_not] at h) <;> (try simp only [rdi, Int.toNat_natCast, Nat.add_zero] at h))
    | ((with_reducible refine Tw.any ?_); refine Tw.condT (by rfl) ?_)
    | ((with_reducible refine Tw.any ?_); refine Tw.condF (by rfl) ?_)
    | ((with_reducible refine Tw.any ?_); refine Tw.cond (by rfl) (fun h => ?_) (fun h => ?_) <;> (try simp only [decide_eq_true_eq, decide_eq_false_iff_not, Bool.or_eq_true, Bool.and_eq_true, Bool.or_eq_false_iff, Bool.and_eq_false_iff, Bool.not_eq_true', Bool.not_eq_false', Int.not_lt, Int.not_le, Int.toNat_natCast, Int.toNat_zero, cond_false, cond_true, Bool.not_not] at h) <;> (try simp only [rdi, Int.toNat_natCast, Nat.add_zero] at h))
    | ((with_reducible refine tret.any ?_); first | refine tret.ok (by rfl) ?_ | refine tret.okN (by rfl) ?_)
    | ((with_reducible refine Due.mk ?_); (first | with_reducible rfl | omega | assumption | decide | ((try simp only [decide_eq_true_eq, decide_eq_false_iff_not, Bool.or_eq_true, Bool.and_eq_true, Bool.or_eq_false_iff, Bool.and_eq_false_iff, Bool.not_eq_true', Bool.not_eq_false', Int.not_lt, Int.not_le, Int.toNat_natCast, Int.toNat_zero, cond_false, cond_true, Bool.not_not] at *) <;> (try intro h) <;> (try intro h') <;> (try simp only [decide_eq_true_eq, decide_eq_false_iff_not, Bool.or_eq_true, Bool.and_eq_true, Bool.or_eq_false_iff, Bool.and_eq_false_iff, Bool.not_eq_true', Bool.not_eq_false', Int.not_lt, Int.not_le, Int.toNat_natCast, Int.toNat_zero, cond_false, cond_true, Bool.not_not] at *) <;> (try simp only [rdi, Int.toNat_natCast, Nat.add_zero] at *) <;> (try simp only [rng]) <;> (first | assumption | omega)) | (intros; simp; done) | (intros; simp; omega)))
    | with_reducible refine Due.mk ?_
    | omega)
  · simpa using (by assumption : ((i : Int) + 1) * (i + 1) * (i + 1) * w ≤ v * 1000000000000)
  · exact ⟨rfl, by rw [resp, hf (by assumption), if_neg (by omega)], rfl⟩
  · exact ⟨rfl, by rw [resp, hf (by assumption), if_pos (by assumption)], rfl⟩

theorem rLab_c (x y z a b c : Int) (h1 : Due (xyzOk x y z)) (h2 : Due (whiteOk a b c)) : TC R Try.prog R2_Lab_f [.agg [.int .i64 x, .int .i64 y, .int .i64 z], .agg [.int .i64 a, .int .i64 b, .int .i64 c]] []
    (fun v X => (∃ t : Bool, (t = false → labL (resp y b) = 116 * resp y b / 100 - 1600 ∧ labA (resp x a) (resp y b) = 5 * (resp x a - resp y b) ∧ labB (resp y b) (resp z c) = 2 * (resp y b - resp z c)) ∧
      v = .tup [.agg [.int .i64 (labL (resp y b)), .int .i64 (labA (resp x a) (resp y b)), .int .i64 (labB (resp y b) (resp z c))], .bool t]) ∧ X = []) := by
  have k1 : vwOk x a := by unfold Due xyzOk at h1; unfold Due whiteOk at h2; unfold vwOk; omega
  have k2 : vwOk y b := by unfold Due xyzOk at h1; unfold Due whiteOk at h2; unfold vwOk; omega
  have k3 : vwOk z c := by unfold Due xyzOk at h1; unfold Due whiteOk at h2; unfold vwOk; omega
  have r1 := resp_bd k1
  have r2 := resp_bd k2
  have r3 := resp_bd k3
  have b1 : 0 ≤ 116 * resp y b / 100 ∧ 116 * resp y b / 100 ≤ 18100 := by omega
  refine tc0 env R2_Lab_s (by rfl) ?_
  dsimp only [R2_Lab_c]
  repeat' (first
    | ((with_reducible refine TDr.any ?_); refine TDr.callE env (by rfl) (by rfl) (by rfl) ?_ (rResponse_c _ _ ?_) (by rfl) (by rfl) ?_)
    | ((with_reducible refine TOps.any ?_); refine TOps.callV env (by rfl) (by rfl) (by rfl) (rResponse_c _ _ ?_) ?_)
    | ((with_reducible refine TOps.any ?_); refine TOps.callV env (by rfl) (by rfl) (by rfl) (rFloor_c _ _ ?_) ?_)
    | ((with_reducible refine TDr.any ?_); refine TDr.callE env (by rfl) (by rfl) (by rfl) ?_ (rFloor_c _ _ ?_) (by rfl) (by rfl) ?_)
    | with_reducible refine Tw.seq ?_
    | with_reducible refine Tw.reg ?_
    | with_reducible refine Tw.block ?_
    | with_reducible refine Tw.scope ?_
    | with_reducible refine Tw.skip ?_
    | with_reducible refine Tw.exit ?_
    | with_reducible refine Tw.ret ?_
    | with_reducible refine seqN ?_
    | with_reducible refine seqR ?_
    | with_reducible refine seqE ?_
    | with_reducible refine blkN ?_
    | with_reducible refine blkR ?_
    | with_reducible refine blkE1 ?_
    | with_reducible refine blkE0 (by kernel_rfl) ?_
    | with_reducible refine scpN ?_
    | with_reducible refine scpR ?_
    | with_reducible refine scpE ?_
    | with_reducible refine TOps.nil ?_
    | with_reducible exact Conj.nil
    | with_reducible refine Conj.cons rfl ?_
    | with_reducible refine Conj.same ?_
    | with_reducible refine Conj.ask ?_ ?_
    | ((with_reducible refine TOps.any ?_); refine TOps.frunP env (by rfl) (by rfl) ?_ ?_)
    | with_reducible refine Tw.regd env ?_
    | ((with_reducible refine TDr.any ?_); refine TDr.frunP env (by rfl) (by rfl) ?_ ?_)
    | with_reducible refine TDr.nil ⟨by kernel_rfl, ?_⟩
    | ((with_reducible refine TOps.any ?_); refine TOps.strip env (by rfl) (by rfl) ?_ ?_)
    | ((with_reducible refine TOps.any ?_); (fail_if_success refine TOps.known (by rfl) ?_); refine TOps.ask (by rfl) (fun h => ?_) (fun h => ?_) <;> (try simp only [decide_eq_true_eq, decide_eq_false_iff_not, Bool.or_eq_true, Bool.and_eq_true, Bool.or_eq_false_iff, Bool.and_eq_false_iff, Bool.not_eq_true', Bool.not_eq_false', Int.not_lt, Int.not_le, Int.toNat_natCast, Int.toNat_zero, cond_false, cond_true, Bool.not_not] at h) <;> (try simp only [rdi, Int.toNat_natCast, Nat.add_zero] at h))
    | ((with_reducible refine Tw.any ?_); refine Tw.condT (by rfl) ?_)
    | ((with_reducible refine Tw.any ?_); refine Tw.condF (by rfl) ?_)
    | ((with_reducible refine Tw.any ?_); refine Tw.cond (by rfl) (fun h => ?_) (fun h => ?_) <;> (try simp only [decide_eq_true_eq, decide_eq_false_iff_not, Bool.or_eq_true, Bool.and_eq_true, Bool.or_eq_false_iff, Bool.and_eq_false_iff, Bool.not_eq_true', Bool.not_eq_false', Int.not_lt, Int.not_le, Int.toNat_natCast, Int.toNat_zero, cond_false, cond_true, Bool.not_not] at h) <;> (try simp only [rdi, Int.toNat_natCast, Nat.add_zero] at h))
    | ((with_reducible refine tret.any ?_); first | refine tret.ok (by rfl) ?_ | refine tret.okN (by rfl) ?_)
    | ((with_reducible refine Due.mk ?_); (first | with_reducible rfl | omega | assumption | decide | ((try simp only [decide_eq_true_eq, decide_eq_false_iff_not, Bool.or_eq_true, Bool.and_eq_true, Bool.or_eq_false_iff, Bool.and_eq_false_iff, Bool.not_eq_true', Bool.not_eq_false', Int.not_lt, Int.not_le, Int.toNat_natCast, Int.toNat_zero, cond_false, cond_true, Bool.not_not] at *) <;> (try intro h) <;> (try intro h') <;> (try simp only [decide_eq_true_eq, decide_eq_false_iff_not, Bool.or_eq_true, Bool.and_eq_true, Bool.or_eq_false_iff, Bool.and_eq_false_iff, Bool.not_eq_true', Bool.not_eq_false', Int.not_lt, Int.not_le, Int.toNat_natCast, Int.toNat_zero, cond_false, cond_true, Bool.not_not] at *) <;> (try simp only [rdi, Int.toNat_natCast, Nat.add_zero] at *) <;> (try simp only [rng]) <;> (first | assumption | omega)) | (intros; simp; done) | (intros; simp; omega)))
    | with_reducible refine Due.mk ?_
    | omega)
  have e1 : min (max (116 * resp y b / 100 - 1600) 0) 10000 = labL (resp y b) := by unfold labL; omega
  have e2 : min (max (5 * (resp x a - resp y b)) (-12800)) 12800 = labA (resp x a) (resp y b) := by unfold labA; omega
  have e3 : min (max (2 * (resp y b - resp z c)) (-12800)) 12800 = labB (resp y b) (resp z c) := by unfold labB; omega
  rw [e1, e2, e3]
  refine ⟨rfl, ⟨_, fun ht => ?_, rfl⟩, rfl⟩
  simp only [Bool.not_eq_false', Bool.and_eq_true, decide_eq_true_eq] at ht
  exact ⟨ht.1, ht.2.1, ht.2.2.1⟩

theorem lab_ok (x y z : Int) : labOk (labL y) (labA x y) (labB y z) := by unfold labOk labL labA labB; omega
theorem val_is (f w v : Int) (hw : 80000 ≤ w ∧ w ≤ 120000) (hv : 0 ≤ v ∧ v ≤ 300000) (hf : f = resp v w) : 0 ≤ val f w ∧ val f w ≤ v ∧ resp (val f w) w = f := by
  -- the search finds one: the least
  have ex : ∃ u, isVal f w u := by
    have : ∀ n : Nat, n ≤ 300000 → f ≤ resp n w → ∃ u, isVal f w u := by
      intro n
      induction n with
      | zero => intro _ h; exact ⟨0, by omega, by omega, .inr (by simpa using h), .inl rfl⟩
      | succ n ih =>
        intro hn h
        rcases Int.lt_or_le (resp n w) f with hl | hl
        · exact ⟨(n : Int) + 1, by omega, by omega, .inr (by simpa using h), .inr (by rw [show (n : Int) + 1 - 1 = n by omega]; exact hl)⟩
        · exact ih (by omega) hl
    exact this v.toNat (by omega) (by rw [Int.toNat_of_nonneg hv.1]; omega)
  obtain ⟨u, hu⟩ := ex
  rw [val_eq hw hu]
  obtain ⟨a1, a2, a3, a4⟩ := hu
  have le : u ≤ v := by
    rcases Int.lt_or_le v u with hl | hl
    · have := resp_mono (v := v) (v' := u - 1) (w := w) (by unfold vwOk; omega) (by unfold vwOk; omega) (by omega)
      omega
    · exact hl
  refine ⟨a1, le, ?_⟩
  have := resp_mono (v := u) (v' := v) (w := w) (by unfold vwOk; omega) (by unfold vwOk; omega) le
  rcases a3 with a3 | a3
  · have : u = v := by omega
    rw [this, hf]
  · omega

theorem val_bd (f w : Int) : 0 ≤ val f w ∧ val f w ≤ 300000 := by
  unfold val
  split
  · rename_i h; have := h.choose_spec; exact ⟨this.1, this.2.1⟩
  · omega

theorem RefspaceReturns_law (x y z a b c : Int) (_ : rng .i64 x) (_ : rng .i64 y) (_ : rng .i64 z) (_ : rng .i64 a) (_ : rng .i64 b) (_ : rng .i64 c) :
    TC R Try.prog K2_RefspaceReturns_f [.agg [.int .i64 x, .int .i64 y, .int .i64 z], .agg [.int .i64 a, .int .i64 b, .int .i64 c]] [] (fun v X => v = .bool true ∧ X = []) := by
  refine tc0 env K2_RefspaceReturns_s (by rfl) ?_
  dsimp only [K2_RefspaceReturns_c]
  by_cases h : xyzOk x y z ∧ whiteOk a b c
  · obtain ⟨h1, h2⟩ := h
    have hw := h2
    unfold whiteOk at hw
    have hx := h1
    unfold xyzOk at hx
    have hl := lab_ok (resp x a) (resp y b) (resp z c)
    generalize hL : labL (resp y b) = L at *
    generalize hA : labA (resp x a) (resp y b) = A at *
    generalize hB : labB (resp y b) (resp z c) = B at *
    have t1 := toLab_y x y z a b c h1 h2
    rw [hL, hA, hB] at t1
    have t2 := toXYZ_y L A B a b c hl h2
    generalize hX : val ((100 * (L + 1600) + 115) / 116 + near A 5) a = X at *
    generalize hY : val ((100 * (L + 1600) + 115) / 116) b = Y at *
    generalize hZ : val ((100 * (L + 1600) + 115) / 116 - near B 2) c = Z at *
    have bX := val_bd ((100 * (L + 1600) + 115) / 116 + near A 5) a
    have bY := val_bd ((100 * (L + 1600) + 115) / 116) b
    have bZ := val_bd ((100 * (L + 1600) + 115) / 116 - near B 2) c
    rw [hX] at bX
    rw [hY] at bY
    rw [hZ] at bZ
    have t3 := toLab_y X Y Z a b c (by unfold xyzOk; omega) h2
    have t4 := refCheck_c L A B
    rw [labE, if_pos hl] at t4
    repeat' (first
      | ((with_reducible refine TOps.any ?_); refine TOps.callV env (by rfl) (by rfl) (by rfl) (refWorks_c) ?_)
      | ((with_reducible refine TOps.any ?_); refine TOps.callV env (by rfl) (by rfl) (by rfl) (t1) ?_)
      | ((with_reducible refine TOps.any ?_); refine TOps.callV env (by rfl) (by rfl) (by rfl) (t2) ?_)
      | ((with_reducible refine TOps.any ?_); refine TOps.callV env (by rfl) (by rfl) (by rfl) (t3) ?_)
      | ((with_reducible refine TOps.any ?_); refine TOps.callV env (by rfl) (by rfl) (by rfl) (t4) ?_)
      | with_reducible refine Tw.seq ?_
      | with_reducible refine Tw.reg ?_
      | with_reducible refine Tw.block ?_
      | with_reducible refine Tw.scope ?_
      | with_reducible refine Tw.skip ?_
      | with_reducible refine Tw.exit ?_
      | with_reducible refine Tw.ret ?_
      | with_reducible refine seqN ?_
      | with_reducible refine seqR ?_
      | with_reducible refine seqE ?_
      | with_reducible refine blkN ?_
      | with_reducible refine blkR ?_
      | with_reducible refine blkE1 ?_
      | with_reducible refine blkE0 (by kernel_rfl) ?_
      | with_reducible refine scpN ?_
      | with_reducible refine scpR ?_
      | with_reducible refine scpE ?_
      | with_reducible refine TOps.nil ?_
      | with_reducible exact Conj.nil
      | with_reducible refine Conj.cons rfl ?_
      | with_reducible refine Conj.same ?_
      | with_reducible refine Conj.ask ?_ ?_
      | ((with_reducible refine TOps.any ?_); refine TOps.frunP env (by rfl) (by rfl) ?_ ?_)
      | with_reducible refine Tw.regd env ?_
      | ((with_reducible refine TDr.any ?_); refine TDr.frunP env (by rfl) (by rfl) ?_ ?_)
      | with_reducible refine TDr.nil ⟨by kernel_rfl, ?_⟩
      | ((with_reducible refine TOps.any ?_); refine TOps.strip env (by rfl) (by rfl) ?_ ?_)
      | ((with_reducible refine TOps.any ?_); (fail_if_success refine TOps.known (by rfl) ?_); refine TOps.ask (by rfl) (fun h => ?_) (fun h => ?_) <;> (try simp only [decide_eq_true_eq, decide_eq_false_iff_not, Bool.or_eq_true, Bool.and_eq_true, Bool.or_eq_false_iff, Bool.and_eq_false_iff, Bool.not_eq_true', Bool.not_eq_false', Int.not_lt, Int.not_le, Int.toNat_natCast, Int.toNat_zero, cond_false, cond_true, Bool.not_not] at h) <;> (try simp only [rdi, Int.toNat_natCast, Nat.add_zero] at h))
      | ((with_reducible refine Tw.any ?_); refine Tw.condT (by rfl) ?_)
      | ((with_reducible refine Tw.any ?_); refine Tw.condF (by rfl) ?_)
      | ((with_reducible refine Tw.any ?_); refine Tw.cond (by rfl) (fun h => ?_) (fun h => ?_) <;> (try simp only [decide_eq_true_eq, decide_eq_false_iff_not, Bool.or_eq_true, Bool.and_eq_true, Bool.or_eq_false_iff, Bool.and_eq_false_iff, Bool.not_eq_true', Bool.not_eq_false', Int.not_lt, Int.not_le, Int.toNat_natCast, Int.toNat_zero, cond_false, cond_true, Bool.not_not] at h) <;> (try simp only [rdi, Int.toNat_natCast, Nat.add_zero] at h))
      | ((with_reducible refine tret.any ?_); first | refine tret.ok (by rfl) ?_ | refine tret.okN (by rfl) ?_)
      | ((with_reducible refine Due.mk ?_); (first | with_reducible rfl | omega | assumption | decide | ((try simp only [decide_eq_true_eq, decide_eq_false_iff_not, Bool.or_eq_true, Bool.and_eq_true, Bool.or_eq_false_iff, Bool.and_eq_false_iff, Bool.not_eq_true', Bool.not_eq_false', Int.not_lt, Int.not_le, Int.toNat_natCast, Int.toNat_zero, cond_false, cond_true, Bool.not_not] at *) <;> (try intro h) <;> (try intro h') <;> (try simp only [decide_eq_true_eq, decide_eq_false_iff_not, Bool.or_eq_true, Bool.and_eq_true, Bool.or_eq_false_iff, Bool.and_eq_false_iff, Bool.not_eq_true', Bool.not_eq_false', Int.not_lt, Int.not_le, Int.toNat_natCast, Int.toNat_zero, cond_false, cond_true, Bool.not_not] at *) <;> (try simp only [rdi, Int.toNat_natCast, Nat.add_zero] at *) <;> (try simp only [rng]) <;> (first | assumption | omega)) | (intros; simp; done) | (intros; simp; omega)))
      | with_reducible refine Due.mk ?_
      | omega)
    refine TOps.call env (by rfl) (by rfl) (by rfl) (rLab_c x y z a b c h1 h2) ?_
    rintro _ _ ⟨⟨t, ht, rfl⟩, rfl⟩
    rw [hL, hA, hB] at ht
    repeat' (first
      | with_reducible refine Tw.seq ?_
      | with_reducible refine Tw.reg ?_
      | with_reducible refine Tw.block ?_
      | with_reducible refine Tw.scope ?_
      | with_reducible refine Tw.skip ?_
      | with_reducible refine Tw.exit ?_
      | with_reducible refine Tw.ret ?_
      | with_reducible refine seqN ?_
      | with_reducible refine seqR ?_
      | with_reducible refine seqE ?_
      | with_reducible refine blkN ?_
      | with_reducible refine blkR ?_
      | with_reducible refine blkE1 ?_
      | with_reducible refine blkE0 (by kernel_rfl) ?_
      | with_reducible refine scpN ?_
      | with_reducible refine scpR ?_
      | with_reducible refine scpE ?_
      | with_reducible refine TOps.nil ?_
      | with_reducible exact Conj.nil
      | with_reducible refine Conj.cons rfl ?_
      | with_reducible refine Conj.same ?_
      | with_reducible refine Conj.ask ?_ ?_
      | ((with_reducible refine TOps.any ?_); refine TOps.frunP env (by rfl) (by rfl) ?_ ?_)
      | with_reducible refine Tw.regd env ?_
      | ((with_reducible refine TDr.any ?_); refine TDr.frunP env (by rfl) (by rfl) ?_ ?_)
      | with_reducible refine TDr.nil ⟨by kernel_rfl, ?_⟩
      | ((with_reducible refine TOps.any ?_); refine TOps.strip env (by rfl) (by rfl) ?_ ?_)
      | ((with_reducible refine TOps.any ?_); (fail_if_success refine TOps.known (by rfl) ?_); refine TOps.ask (by rfl) (fun h => ?_) (fun h => ?_) <;> (try simp only [decide_eq_true_eq, decide_eq_false_iff_not, Bool.or_eq_true, Bool.and_eq_true, Bool.or_eq_false_iff, Bool.and_eq_false_iff, Bool.not_eq_true', Bool.not_eq_false', Int.not_lt, Int.not_le, Int.toNat_natCast, Int.toNat_zero, cond_false, cond_true, Bool.not_not] at h) <;> (try simp only [rdi, Int.toNat_natCast, Nat.add_zero] at h))
      | ((with_reducible refine Tw.any ?_); refine Tw.condT (by rfl) ?_)
      | ((with_reducible refine Tw.any ?_); refine Tw.condF (by rfl) ?_)
      | ((with_reducible refine Tw.any ?_); refine Tw.cond (by rfl) (fun h => ?_) (fun h => ?_) <;> (try simp only [decide_eq_true_eq, decide_eq_false_iff_not, Bool.or_eq_true, Bool.and_eq_true, Bool.or_eq_false_iff, Bool.and_eq_false_iff, Bool.not_eq_true', Bool.not_eq_false', Int.not_lt, Int.not_le, Int.toNat_natCast, Int.toNat_zero, cond_false, cond_true, Bool.not_not] at h) <;> (try simp only [rdi, Int.toNat_natCast, Nat.add_zero] at h))
      | ((with_reducible refine tret.any ?_); first | refine tret.ok (by rfl) ?_ | refine tret.okN (by rfl) ?_)
      | ((with_reducible refine Due.mk ?_); (first | with_reducible rfl | omega | assumption | decide | ((try simp only [decide_eq_true_eq, decide_eq_false_iff_not, Bool.or_eq_true, Bool.and_eq_true, Bool.or_eq_false_iff, Bool.and_eq_false_iff, Bool.not_eq_true', Bool.not_eq_false', Int.not_lt, Int.not_le, Int.toNat_natCast, Int.toNat_zero, cond_false, cond_true, Bool.not_not] at *) <;> (try intro h) <;> (try intro h') <;> (try simp only [decide_eq_true_eq, decide_eq_false_iff_not, Bool.or_eq_true, Bool.and_eq_true, Bool.or_eq_false_iff, Bool.and_eq_false_iff, Bool.not_eq_true', Bool.not_eq_false', Int.not_lt, Int.not_le, Int.toNat_natCast, Int.toNat_zero, cond_false, cond_true, Bool.not_not] at *) <;> (try simp only [rdi, Int.toNat_natCast, Nat.add_zero] at *) <;> (try simp only [rng]) <;> (first | assumption | omega)) | (intros; simp; done) | (intros; simp; omega)))
      | with_reducible refine Due.mk ?_
      | omega)
    · exact ⟨rfl, rfl, rfl⟩
    · obtain ⟨g1, g2, g3⟩ := ht (by assumption)
      have r2 := resp_bd (v := y) (w := b) (by unfold vwOk; omega)
      have ey : (100 * (L + 1600) + 115) / 116 = resp y b := by omega
      have ex : (100 * (L + 1600) + 115) / 116 + near A 5 = resp x a := by rw [ey, g2]; unfold near; omega
      have ez : (100 * (L + 1600) + 115) / 116 - near B 2 = resp z c := by rw [ey, g3]; unfold near; omega
      rw [ex] at hX
      rw [ey] at hY
      rw [ez] at hZ
      have vX := val_is (resp x a) a x (by omega) (by omega) rfl
      have vY := val_is (resp y b) b y (by omega) (by omega) rfl
      have vZ := val_is (resp z c) c z (by omega) (by omega) rfl
      rw [hX] at vX
      rw [hY] at vY
      rw [hZ] at vZ
      rw [vX.2.2, vY.2.2, vZ.2.2, hL, hA, hB]
      exact ⟨rfl, congrArg TV.bool (by simp; omega), rfl⟩
  · repeat' (first
      | ((with_reducible refine TOps.any ?_); refine TOps.callV env (by rfl) (by rfl) (by rfl) (refWorks_c) ?_)
      | ((with_reducible refine TOps.any ?_); refine TOps.callV env (by rfl) (by rfl) (by rfl) (toLab_n _ _ _ _ _ _ h) ?_)
      | with_reducible refine Tw.seq ?_
      | with_reducible refine Tw.reg ?_
      | with_reducible refine Tw.block ?_
      | with_reducible refine Tw.scope ?_
      | with_reducible refine Tw.skip ?_
      | with_reducible refine Tw.exit ?_
      | with_reducible refine Tw.ret ?_
      | with_reducible refine seqN ?_
      | with_reducible refine seqR ?_
      | with_reducible refine seqE ?_
      | with_reducible refine blkN ?_
      | with_reducible refine blkR ?_
      | with_reducible refine blkE1 ?_
      | with_reducible refine blkE0 (by kernel_rfl) ?_
      | with_reducible refine scpN ?_
      | with_reducible refine scpR ?_
      | with_reducible refine scpE ?_
      | with_reducible refine TOps.nil ?_
      | with_reducible exact Conj.nil
      | with_reducible refine Conj.cons rfl ?_
      | with_reducible refine Conj.same ?_
      | with_reducible refine Conj.ask ?_ ?_
      | ((with_reducible refine TOps.any ?_); refine TOps.frunP env (by rfl) (by rfl) ?_ ?_)
      | with_reducible refine Tw.regd env ?_
      | ((with_reducible refine TDr.any ?_); refine TDr.frunP env (by rfl) (by rfl) ?_ ?_)
      | with_reducible refine TDr.nil ⟨by kernel_rfl, ?_⟩
      | ((with_reducible refine TOps.any ?_); refine TOps.strip env (by rfl) (by rfl) ?_ ?_)
      | ((with_reducible refine TOps.any ?_); (fail_if_success refine TOps.known (by rfl) ?_); refine TOps.ask (by rfl) (fun h => ?_) (fun h => ?_) <;> (try simp only [decide_eq_true_eq, decide_eq_false_iff_not, Bool.or_eq_true, Bool.and_eq_true, Bool.or_eq_false_iff, Bool.and_eq_false_iff, Bool.not_eq_true', Bool.not_eq_false', Int.not_lt, Int.not_le, Int.toNat_natCast, Int.toNat_zero, cond_false, cond_true, Bool.not_not] at h) <;> (try simp only [rdi, Int.toNat_natCast, Nat.add_zero] at h))
      | ((with_reducible refine Tw.any ?_); refine Tw.condT (by rfl) ?_)
      | ((with_reducible refine Tw.any ?_); refine Tw.condF (by rfl) ?_)
      | ((with_reducible refine Tw.any ?_); refine Tw.cond (by rfl) (fun h => ?_) (fun h => ?_) <;> (try simp only [decide_eq_true_eq, decide_eq_false_iff_not, Bool.or_eq_true, Bool.and_eq_true, Bool.or_eq_false_iff, Bool.and_eq_false_iff, Bool.not_eq_true', Bool.not_eq_false', Int.not_lt, Int.not_le, Int.toNat_natCast, Int.toNat_zero, cond_false, cond_true, Bool.not_not] at h) <;> (try simp only [rdi, Int.toNat_natCast, Nat.add_zero] at h))
      | ((with_reducible refine tret.any ?_); first | refine tret.ok (by rfl) ?_ | refine tret.okN (by rfl) ?_)
      | ((with_reducible refine Due.mk ?_); (first | with_reducible rfl | omega | assumption | decide | ((try simp only [decide_eq_true_eq, decide_eq_false_iff_not, Bool.or_eq_true, Bool.and_eq_true, Bool.or_eq_false_iff, Bool.and_eq_false_iff, Bool.not_eq_true', Bool.not_eq_false', Int.not_lt, Int.not_le, Int.toNat_natCast, Int.toNat_zero, cond_false, cond_true, Bool.not_not] at *) <;> (try intro h) <;> (try intro h') <;> (try simp only [decide_eq_true_eq, decide_eq_false_iff_not, Bool.or_eq_true, Bool.and_eq_true, Bool.or_eq_false_iff, Bool.and_eq_false_iff, Bool.not_eq_true', Bool.not_eq_false', Int.not_lt, Int.not_le, Int.toNat_natCast, Int.toNat_zero, cond_false, cond_true, Bool.not_not] at *) <;> (try simp only [rdi, Int.toNat_natCast, Nat.add_zero] at *) <;> (try simp only [rng]) <;> (first | assumption | omega)) | (intros; simp; done) | (intros; simp; omega)))
      | with_reducible refine Due.mk ?_
      | omega)
    exact ⟨rfl, congrArg TV.bool (by simp), rfl⟩
end Go.Proofs.Ytfgaefpdccdfiaa
