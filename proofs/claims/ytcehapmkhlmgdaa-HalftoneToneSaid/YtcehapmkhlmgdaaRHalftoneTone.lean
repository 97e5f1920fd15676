import Derived.Test.YtcehapmkhlmgdaaHalftoneToneZ
import Derived.Test.YtcehapmkhlmgdaaLiteTM
namespace Go.Proofs.Ytcehapmkhlmgdaa.rdHalftoneTone
open Go Go.Lite Go.Proofs.Ytcehapmkhlmgdaa
set_option linter.unusedVariables false
set_option maxRecDepth 100000

theorem uT3 : Try.prog.underlying 3 = some (.int .i64) := by kernel_rfl
theorem rdT3 (n : Nat) (ls : List LV) (h : Shp Try.prog (n + 1) 3 ls) : ∃ a : Int, (rng .i64 a) ∧ LessL [.int .i64 (a)] ls := by
  obtain ⟨x, rfl, w⟩ := shp_int uT3 h
  exact ⟨x, wf_rng w, .one (.free rfl)⟩
theorem uT28 : fieldsT Try.prog 28 = some [3, 3, 3] := by kernel_rfl
theorem rdT28 (n : Nat) (ls : List LV) (h : Shp Try.prog (n + 2) 28 ls) : ∃ a : Int × Int × Int, (rng .i64 a.1 ∧ rng .i64 a.2.1 ∧ rng .i64 a.2.2) ∧ LessL [.int .i64 (a.1), .int .i64 (a.2.1), .int .i64 (a.2.2)] ls := by
  obtain ⟨_, _, rfl, h0, _, _, rfl, h1, _, _, rfl, h2, rfl⟩ := shp_fields uT28 h
  obtain ⟨a0, w0, l0⟩ := rdT3 (n + 0) _ h0
  obtain ⟨a1, w1, l1⟩ := rdT3 (n + 0) _ h1
  obtain ⟨a2, w2, l2⟩ := rdT3 (n + 0) _ h2
  exact ⟨(a0, a1, a2), ⟨w0, w1, w2⟩, (l0.app (l1.app (l2.app .nil)))⟩

theorem uT5 : Try.prog.underlying 5 = some (.int .u8) := by kernel_rfl
theorem any (xs : List LV) (h : ShpA Try.prog 8 Try.f6.params.toList xs) : LC Try.prog 6 xs [] fun x _ => x = .bool true := by
  rw [show Try.f6.params.toList = [28, 5, 3, 3] by kernel_rfl] at h
  obtain ⟨_, _, rfl, h0, _, _, rfl, h1, _, _, rfl, h2, _, _, rfl, h3, rfl⟩ := h
  obtain ⟨_, rfl, g0⟩ := shpv_aggF uT28 h0
  obtain ⟨a0, w0, l0⟩ := rdT28 6 _ g0
  obtain ⟨a1, rfl, w1⟩ := shpv_int uT5 h1
  obtain ⟨a2, rfl, w2⟩ := shpv_int uT3 h2
  obtain ⟨a3, rfl, w3⟩ := shpv_int uT3 h3
  exact (HalftoneTone_law (a0.1) (a0.2.1) (a0.2.2) a1 a2 a3 (w0.1) (w0.2.1) (w0.2.2) (wf_rng w1) (wf_rng w2) (wf_rng w3)).less (LessL.app (.one (.agg' l0)) (LessL.app (.one (.free rfl)) (LessL.app (.one (.free rfl)) (LessL.app (.one (.free rfl)) .nil))))

end Go.Proofs.Ytcehapmkhlmgdaa.rdHalftoneTone
