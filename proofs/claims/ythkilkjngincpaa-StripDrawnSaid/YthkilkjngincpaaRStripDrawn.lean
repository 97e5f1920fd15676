import Derived.Test.YthkilkjngincpaaStripDrawnZ
import Derived.Test.YthkilkjngincpaaLiteTM
namespace Go.Proofs.Ythkilkjngincpaa.rdStripDrawn
open Go Go.Lite Go.Proofs.Ythkilkjngincpaa
set_option linter.unusedVariables false
set_option maxRecDepth 100000

theorem uT3 : Try.prog.underlying 3 = some (.int .i64) := by kernel_rfl
theorem any (xs : List LV) (h : ShpA Try.prog 8 Try.f7.params.toList xs) : LC Try.prog 7 xs [] fun x _ => x = .bool true := by
  rw [show Try.f7.params.toList = [3, 3, 3, 3] by kernel_rfl] at h
  obtain ⟨_, _, rfl, h0, _, _, rfl, h1, _, _, rfl, h2, _, _, rfl, h3, rfl⟩ := h
  obtain ⟨a0, rfl, w0⟩ := shpv_int uT3 h0
  obtain ⟨a1, rfl, w1⟩ := shpv_int uT3 h1
  obtain ⟨a2, rfl, w2⟩ := shpv_int uT3 h2
  obtain ⟨a3, rfl, w3⟩ := shpv_int uT3 h3
  exact (StripDrawn_law a0 a1 a2 a3 (wf_rng w0) (wf_rng w1) (wf_rng w2) (wf_rng w3)).less (LessL.app (.one (.free rfl)) (LessL.app (.one (.free rfl)) (LessL.app (.one (.free rfl)) (LessL.app (.one (.free rfl)) .nil))))

end Go.Proofs.Ythkilkjngincpaa.rdStripDrawn
