import Derived.Test.YtfgaefpdccdfiaaCurveCalibratedZ
import Derived.Test.YtfgaefpdccdfiaaLiteTM
namespace Go.Proofs.Ytfgaefpdccdfiaa.rdCurveCalibrated
open Go Go.Lite Go.Proofs.Ytfgaefpdccdfiaa
set_option linter.unusedVariables false
set_option maxRecDepth 100000

theorem uT3 : Try.prog.underlying 3 = some (.int .i64) := by kernel_rfl
theorem rdT3 (n : Nat) (ls : List LV) (h : Shp Try.prog (n + 1) 3 ls) : ∃ a : Int, (rng .i64 a) ∧ LessL [.int .i64 (a)] ls := by
  obtain ⟨x, rfl, w⟩ := shp_int uT3 h
  exact ⟨x, wf_rng w, .one (.free rfl)⟩
theorem uT64 : fieldsT Try.prog 64 = some [3, 3] := by kernel_rfl
theorem rdT64 (n : Nat) (ls : List LV) (h : Shp Try.prog (n + 2) 64 ls) : ∃ a : Int × Int, (rng .i64 a.1 ∧ rng .i64 a.2) ∧ LessL [.int .i64 (a.1), .int .i64 (a.2)] ls := by
  obtain ⟨_, _, rfl, h0, _, _, rfl, h1, rfl⟩ := shp_fields uT64 h
  obtain ⟨a0, w0, l0⟩ := rdT3 (n + 0) _ h0
  obtain ⟨a1, w1, l1⟩ := rdT3 (n + 0) _ h1
  exact ⟨(a0, a1), ⟨w0, w1⟩, (l0.app (l1.app .nil))⟩

theorem uT50 : Try.prog.underlying 50 = some (.slice 64) := by kernel_rfl
theorem zT50 : Try.prog.cellsOf 64 = R.sz 1 := by kernel_rfl
theorem rdT50 (n : Nat) (ls : List LV) (h : Shp Try.prog (n + 3) 50 ls) : ∃ a : List (Int × Int), ((List.length a ≤ 9223372036854775807 ∧ ∀ y ∈ a, W2i y)) ∧ LessL [emb R (.lst 1 (a))] ls := by
  exact shp_slice (R := R) (e := 1) (ok := W2i) uT50 zT50 (rdT64 (n + 0)) h
theorem uT52 : fieldsT Try.prog 52 = some [50] := by kernel_rfl
theorem rdT52 (n : Nat) (ls : List LV) (h : Shp Try.prog (n + 4) 52 ls) : ∃ a : List (Int × Int), ((List.length a ≤ 9223372036854775807 ∧ ∀ y ∈ a, W2i y)) ∧ LessL [emb R (.lst 1 (a))] ls := by
  obtain ⟨_, _, rfl, h0, rfl⟩ := shp_fields uT52 h
  obtain ⟨a0, w0, l0⟩ := rdT50 (n + 0) _ h0
  exact ⟨a0, w0, (l0.app .nil)⟩


theorem any (xs : List LV) (h : ShpA Try.prog 8 Try.f10.params.toList xs) : LC Try.prog 10 xs [] fun x _ => x = .bool true := by
  rw [show Try.f10.params.toList = [52, 52] by kernel_rfl] at h
  obtain ⟨_, _, rfl, h0, _, _, rfl, h1, rfl⟩ := h
  obtain ⟨_, rfl, g0⟩ := shpv_aggF uT52 h0
  obtain ⟨a0, w0, l0⟩ := rdT52 4 _ g0
  obtain ⟨_, rfl, g1⟩ := shpv_aggF uT52 h1
  obtain ⟨a1, w1, l1⟩ := rdT52 4 _ g1
  exact (CurveCalibrated_law (a0) (a1) (w0) (w1)).less (LessL.app (.one (.agg' l0)) (LessL.app (.one (.agg' l1)) .nil))

end Go.Proofs.Ytfgaefpdccdfiaa.rdCurveCalibrated
