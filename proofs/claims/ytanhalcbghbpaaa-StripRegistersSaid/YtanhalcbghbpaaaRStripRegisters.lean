import Derived.Test.YtanhalcbghbpaaaStripRegistersZ
import Derived.Test.YtanhalcbghbpaaaLiteTM
namespace Go.Proofs.Ytanhalcbghbpaaa.rdStripRegisters
open Go Go.Lite Go.Proofs.Ytanhalcbghbpaaa
set_option linter.unusedVariables false
set_option maxRecDepth 100000

theorem uT3 : Try.prog.underlying 3 = some (.int .i64) := by kernel_rfl
theorem rdT3 (n : Nat) (ls : List LV) (h : Shp Try.prog (n + 1) 3 ls) : ∃ a : Int, (rng .i64 a) ∧ LessL [.int .i64 (a)] ls := by
  obtain ⟨x, rfl, w⟩ := shp_int uT3 h
  exact ⟨x, wf_rng w, .one (.free rfl)⟩
theorem uT31 : fieldsT Try.prog 31 = some [3, 3] := by kernel_rfl
theorem rdT31 (n : Nat) (ls : List LV) (h : Shp Try.prog (n + 2) 31 ls) : ∃ a : Int × Int, (rng .i64 a.1 ∧ rng .i64 a.2) ∧ LessL [.int .i64 (a.1), .int .i64 (a.2)] ls := by
  obtain ⟨_, _, rfl, h0, _, _, rfl, h1, rfl⟩ := shp_fields uT31 h
  obtain ⟨a0, w0, l0⟩ := rdT3 (n + 0) _ h0
  obtain ⟨a1, w1, l1⟩ := rdT3 (n + 0) _ h1
  exact ⟨(a0, a1), ⟨w0, w1⟩, (l0.app (l1.app .nil))⟩

theorem uT35 : Try.prog.underlying 35 = some (.slice 31) := by kernel_rfl
theorem zT35 : Try.prog.cellsOf 31 = R.sz 4 := by kernel_rfl
theorem rdT35 (n : Nat) (ls : List LV) (h : Shp Try.prog (n + 3) 35 ls) : ∃ a : List (Int × Int), ((List.length a ≤ 9223372036854775807 ∧ ∀ y ∈ a, W2i y)) ∧ LessL [emb R (.lst 4 (a))] ls := by
  exact shp_slice (R := R) (e := 4) (ok := W2i) uT35 zT35 (rdT31 (n + 0)) h

theorem any (xs : List LV) (h : ShpA Try.prog 8 Try.f14.params.toList xs) : LC Try.prog 14 xs [] fun x _ => x = .bool true := by
  rw [show Try.f14.params.toList = [3, 35] by kernel_rfl] at h
  obtain ⟨_, _, rfl, h0, _, _, rfl, h1, rfl⟩ := h
  obtain ⟨a0, rfl, w0⟩ := shpv_int uT3 h0
  obtain ⟨a1, w1, l1⟩ := rdT35 5 _ (shpv_slice uT35 h1)
  exact (StripRegisters_law a0 (a1) (wf_rng w0) (w1)).less (LessL.app (.one (.free rfl)) (LessL.app l1 .nil))

end Go.Proofs.Ytanhalcbghbpaaa.rdStripRegisters
