import Derived.Test.YtfgaefpdccdfiaaOverprintSolidsZ
import Derived.Test.YtfgaefpdccdfiaaLiteTM
namespace Go.Proofs.Ytfgaefpdccdfiaa.rdOverprintSolids
open Go Go.Lite Go.Proofs.Ytfgaefpdccdfiaa
set_option linter.unusedVariables false
set_option maxRecDepth 100000

theorem uT3 : Try.prog.underlying 3 = some (.int .i64) := by kernel_rfl
theorem rdT3 (n : Nat) (ls : List LV) (h : Shp Try.prog (n + 1) 3 ls) : ∃ a : Int, (rng .i64 a) ∧ LessL [.int .i64 (a)] ls := by
  obtain ⟨x, rfl, w⟩ := shp_int uT3 h
  exact ⟨x, wf_rng w, .one (.free rfl)⟩
theorem uT35 : fieldsT Try.prog 35 = some [3, 3, 3] := by kernel_rfl
theorem rdT35 (n : Nat) (ls : List LV) (h : Shp Try.prog (n + 2) 35 ls) : ∃ a : Int × Int × Int, (rng .i64 a.1 ∧ rng .i64 a.2.1 ∧ rng .i64 a.2.2) ∧ LessL [.int .i64 (a.1), .int .i64 (a.2.1), .int .i64 (a.2.2)] ls := by
  obtain ⟨_, _, rfl, h0, _, _, rfl, h1, _, _, rfl, h2, rfl⟩ := shp_fields uT35 h
  obtain ⟨a0, w0, l0⟩ := rdT3 (n + 0) _ h0
  obtain ⟨a1, w1, l1⟩ := rdT3 (n + 0) _ h1
  obtain ⟨a2, w2, l2⟩ := rdT3 (n + 0) _ h2
  exact ⟨(a0, a1, a2), ⟨w0, w1, w2⟩, (l0.app (l1.app (l2.app .nil)))⟩

theorem uT65 : Try.prog.underlying 65 = some (.slice 35) := by kernel_rfl
theorem zT65 : Try.prog.cellsOf 35 = R.sz 2 := by kernel_rfl
theorem rdT65 (n : Nat) (ls : List LV) (h : Shp Try.prog (n + 3) 65 ls) : ∃ a : List (Int × Int × Int), ((List.length a ≤ 9223372036854775807 ∧ ∀ y ∈ a, W3i y)) ∧ LessL [emb R (.lst 2 (a))] ls := by
  exact shp_slice (R := R) (e := 2) (ok := W3i) uT65 zT65 (rdT35 (n + 0)) h

theorem any (xs : List LV) (h : ShpA Try.prog 8 Try.f11.params.toList xs) : LC Try.prog 11 xs [] fun x _ => x = .bool true := by
  rw [show Try.f11.params.toList = [65, 3, 3, 3, 3] by kernel_rfl] at h
  obtain ⟨_, _, rfl, h0, _, _, rfl, h1, _, _, rfl, h2, _, _, rfl, h3, _, _, rfl, h4, rfl⟩ := h
  obtain ⟨a0, w0, l0⟩ := rdT65 5 _ (shpv_slice uT65 h0)
  obtain ⟨a1, rfl, w1⟩ := shpv_int uT3 h1
  obtain ⟨a2, rfl, w2⟩ := shpv_int uT3 h2
  obtain ⟨a3, rfl, w3⟩ := shpv_int uT3 h3
  obtain ⟨a4, rfl, w4⟩ := shpv_int uT3 h4
  exact (OverprintSolids_law (a0) a1 a2 a3 a4 (w0) (wf_rng w1) (wf_rng w2) (wf_rng w3) (wf_rng w4)).less (LessL.app l0 (LessL.app (.one (.free rfl)) (LessL.app (.one (.free rfl)) (LessL.app (.one (.free rfl)) (LessL.app (.one (.free rfl)) .nil)))))

end Go.Proofs.Ytfgaefpdccdfiaa.rdOverprintSolids
