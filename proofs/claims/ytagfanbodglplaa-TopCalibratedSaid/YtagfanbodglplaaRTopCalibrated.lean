import Derived.Test.YtagfanbodglplaaTopCalibratedZ
import Derived.Test.YtagfanbodglplaaLiteTM
namespace Go.Proofs.Ytagfanbodglplaa.rdTopCalibrated
open Go Go.Lite Go.Proofs.Ytagfanbodglplaa
set_option linter.unusedVariables false
set_option maxRecDepth 100000

theorem uT3 : Try.prog.underlying 3 = some (.int .i64) := by kernel_rfl
theorem rdT3 (n : Nat) (ls : List LV) (h : Shp Try.prog (n + 1) 3 ls) : ∃ a : Int, (rng .i64 a) ∧ LessL [.int .i64 (a)] ls := by
  obtain ⟨x, rfl, w⟩ := shp_int uT3 h
  exact ⟨x, wf_rng w, .one (.free rfl)⟩
theorem uT40 : fieldsT Try.prog 40 = some [3, 3, 3] := by kernel_rfl
theorem rdT40 (n : Nat) (ls : List LV) (h : Shp Try.prog (n + 2) 40 ls) : ∃ a : Int × Int × Int, (rng .i64 a.1 ∧ rng .i64 a.2.1 ∧ rng .i64 a.2.2) ∧ LessL [.int .i64 (a.1), .int .i64 (a.2.1), .int .i64 (a.2.2)] ls := by
  obtain ⟨_, _, rfl, h0, _, _, rfl, h1, _, _, rfl, h2, rfl⟩ := shp_fields uT40 h
  obtain ⟨a0, w0, l0⟩ := rdT3 (n + 0) _ h0
  obtain ⟨a1, w1, l1⟩ := rdT3 (n + 0) _ h1
  obtain ⟨a2, w2, l2⟩ := rdT3 (n + 0) _ h2
  exact ⟨(a0, a1, a2), ⟨w0, w1, w2⟩, (l0.app (l1.app (l2.app .nil)))⟩


theorem any (xs : List LV) (h : ShpA Try.prog 8 Try.f4.params.toList xs) : LC Try.prog 4 xs [] fun x _ => x = .bool true := by
  rw [show Try.f4.params.toList = [40, 3, 3] by kernel_rfl] at h
  obtain ⟨_, _, rfl, h0, _, _, rfl, h1, _, _, rfl, h2, rfl⟩ := h
  obtain ⟨_, rfl, g0⟩ := shpv_aggF uT40 h0
  obtain ⟨a0, w0, l0⟩ := rdT40 6 _ g0
  obtain ⟨a1, rfl, w1⟩ := shpv_int uT3 h1
  obtain ⟨a2, rfl, w2⟩ := shpv_int uT3 h2
  exact (TopCalibrated_law (a0.1) (a0.2.1) (a0.2.2) a1 a2 (w0.1) (w0.2.1) (w0.2.2) (wf_rng w1) (wf_rng w2)).less (LessL.app (.one (.agg' l0)) (LessL.app (.one (.free rfl)) (LessL.app (.one (.free rfl)) .nil)))

end Go.Proofs.Ytagfanbodglplaa.rdTopCalibrated
