/- RControlSettles -/
import Derived.Test.YtbaepacihkgalaaControlSettlesZ
import Derived.Test.YtbaepacihkgalaaLiteTM
namespace Go.Proofs.Ytbaepacihkgalaa.rdControlSettles
open Go Go.Lite Go.Proofs.Ytbaepacihkgalaa
set_option linter.unusedVariables false
set_option maxRecDepth 100000

theorem uT3 : Try.prog.underlying 3 = some (.int .i64) := by kernel_rfl
theorem rdT3 (n : Nat) (ls : List LV) (h : Shp Try.prog (n + 1) 3 ls) : ∃ a : Int, (rng .i64 a) ∧ LessL [.int .i64 (a)] ls := by
  obtain ⟨x, rfl, w⟩ := shp_int uT3 h
  exact ⟨x, wf_rng w, .one (.free rfl)⟩
theorem uT22 : Try.prog.underlying 22 = some (.slice 3) := by kernel_rfl
theorem zT22 : Try.prog.cellsOf 3 = R.sz 2 := by kernel_rfl
theorem rdT22 (n : Nat) (ls : List LV) (h : Shp Try.prog (n + 2) 22 ls) : ∃ a : List (Int), ((List.length a ≤ 9223372036854775807 ∧ ∀ y ∈ a, Wi y)) ∧ LessL [emb R (.lst 2 (a))] ls := by
  exact shp_slice (R := R) (e := 2) (ok := Wi) uT22 zT22 (rdT3 (n + 0)) h

theorem any (xs : List LV) (h : ShpA Try.prog 8 Try.f6.params.toList xs) : LC Try.prog 6 xs [] fun x _ => x = .bool true := by
  rw [show Try.f6.params.toList = [22, 22, 22, 3] by kernel_rfl] at h
  obtain ⟨_, _, rfl, h0, _, _, rfl, h1, _, _, rfl, h2, _, _, rfl, h3, rfl⟩ := h
  obtain ⟨a0, w0, l0⟩ := rdT22 6 _ (shpv_slice uT22 h0)
  obtain ⟨a1, w1, l1⟩ := rdT22 6 _ (shpv_slice uT22 h1)
  obtain ⟨a2, w2, l2⟩ := rdT22 6 _ (shpv_slice uT22 h2)
  obtain ⟨a3, rfl, w3⟩ := shpv_int uT3 h3
  exact (ControlSettles_law (a0) (a1) (a2) a3 (w0) (w1) (w2) (wf_rng w3)).less (LessL.app l0 (LessL.app l1 (LessL.app l2 (LessL.app (.one (.free rfl)) .nil))))

end Go.Proofs.Ytbaepacihkgalaa.rdControlSettles
