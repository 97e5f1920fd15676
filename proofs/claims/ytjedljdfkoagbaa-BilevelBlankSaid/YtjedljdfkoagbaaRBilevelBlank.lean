import Derived.Test.YtjedljdfkoagbaaBilevelBlankZ
import Derived.Test.YtjedljdfkoagbaaLiteTM
namespace Go.Proofs.Ytjedljdfkoagbaa.rdBilevelBlank
open Go Go.Lite Go.Proofs.Ytjedljdfkoagbaa
set_option linter.unusedVariables false
set_option maxRecDepth 100000

theorem uT3 : Try.prog.underlying 3 = some (.int .i64) := by kernel_rfl
theorem any (xs : List LV) (h : ShpA Try.prog 8 Try.f5.params.toList xs) : LC Try.prog 5 xs [] fun x _ => x = .bool true := by
  rw [show Try.f5.params.toList = [3, 3] by kernel_rfl] at h
  obtain ⟨_, _, rfl, h0, _, _, rfl, h1, rfl⟩ := h
  obtain ⟨a0, rfl, w0⟩ := shpv_int uT3 h0
  obtain ⟨a1, rfl, w1⟩ := shpv_int uT3 h1
  exact (BilevelBlank_law a0 a1 (wf_rng w0) (wf_rng w1)).less (LessL.app (.one (.free rfl)) (LessL.app (.one (.free rfl)) .nil))

end Go.Proofs.Ytjedljdfkoagbaa.rdBilevelBlank
