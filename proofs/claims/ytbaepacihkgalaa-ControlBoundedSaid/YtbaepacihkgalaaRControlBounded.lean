/- RControlBounded -/
import Derived.Test.YtbaepacihkgalaaControlBoundedZ
import Derived.Test.YtbaepacihkgalaaLiteTM
namespace Go.Proofs.Ytbaepacihkgalaa.rdControlBounded
open Go Go.Lite Go.Proofs.Ytbaepacihkgalaa
set_option linter.unusedVariables false
set_option maxRecDepth 100000

theorem uT3 : Try.prog.underlying 3 = some (.int .i64) := by kernel_rfl
theorem rdT3 (n : Nat) (ls : List LV) (h : Shp Try.prog (n + 1) 3 ls) : ∃ a : Int, (rng .i64 a) ∧ LessL [.int .i64 (a)] ls := by
  obtain ⟨x, rfl, w⟩ := shp_int uT3 h
  exact ⟨x, wf_rng w, .one (.free rfl)⟩
theorem uT54 : fieldsT Try.prog 54 = some [3, 3] := by kernel_rfl
theorem rdT54 (n : Nat) (ls : List LV) (h : Shp Try.prog (n + 2) 54 ls) : ∃ a : Int × Int, (rng .i64 a.1 ∧ rng .i64 a.2) ∧ LessL [.int .i64 (a.1), .int .i64 (a.2)] ls := by
  obtain ⟨_, _, rfl, h0, _, _, rfl, h1, rfl⟩ := shp_fields uT54 h
  obtain ⟨a0, w0, l0⟩ := rdT3 (n + 0) _ h0
  obtain ⟨a1, w1, l1⟩ := rdT3 (n + 0) _ h1
  exact ⟨(a0, a1), ⟨w0, w1⟩, (l0.app (l1.app .nil))⟩

theorem uT40 : fieldsT Try.prog 40 = some [3, 3] := by kernel_rfl
theorem rdT40 (n : Nat) (ls : List LV) (h : Shp Try.prog (n + 2) 40 ls) : ∃ a : Int × Int, (rng .i64 a.1 ∧ rng .i64 a.2) ∧ LessL [.int .i64 (a.1), .int .i64 (a.2)] ls := by
  obtain ⟨_, _, rfl, h0, _, _, rfl, h1, rfl⟩ := shp_fields uT40 h
  obtain ⟨a0, w0, l0⟩ := rdT3 (n + 0) _ h0
  obtain ⟨a1, w1, l1⟩ := rdT3 (n + 0) _ h1
  exact ⟨(a0, a1), ⟨w0, w1⟩, (l0.app (l1.app .nil))⟩

theorem uT35 : Try.prog.underlying 35 = some (.slice 40) := by kernel_rfl
theorem zT35 : Try.prog.cellsOf 40 = R.sz 1 := by kernel_rfl
theorem rdT35 (n : Nat) (ls : List LV) (h : Shp Try.prog (n + 3) 35 ls) : ∃ a : List (Int × Int), ((List.length a ≤ 9223372036854775807 ∧ ∀ y ∈ a, W2i y)) ∧ LessL [emb R (.lst 1 (a))] ls := by
  exact shp_slice (R := R) (e := 1) (ok := W2i) uT35 zT35 (rdT40 (n + 0)) h

theorem any (xs : List LV) (h : ShpA Try.prog 8 Try.f7.params.toList xs) : LC Try.prog 7 xs [] fun x _ => x = .bool true := by
  rw [show Try.f7.params.toList = [54, 3, 35, 3] by kernel_rfl] at h
  obtain ⟨_, _, rfl, h0, _, _, rfl, h1, _, _, rfl, h2, _, _, rfl, h3, rfl⟩ := h
  obtain ⟨_, rfl, g0⟩ := shpv_aggF uT54 h0
  obtain ⟨a0, w0, l0⟩ := rdT54 6 _ g0
  obtain ⟨a1, rfl, w1⟩ := shpv_int uT3 h1
  obtain ⟨a2, w2, l2⟩ := rdT35 5 _ (shpv_slice uT35 h2)
  obtain ⟨a3, rfl, w3⟩ := shpv_int uT3 h3
  exact (ControlBounded_law (a0.1) (a0.2) a1 (a2) a3 (w0.1) (w0.2) (wf_rng w1) (w2) (wf_rng w3)).less (LessL.app (.one (.agg' l0)) (LessL.app (.one (.free rfl)) (LessL.app l2 (LessL.app (.one (.free rfl)) .nil))))

end Go.Proofs.Ytbaepacihkgalaa.rdControlBounded
