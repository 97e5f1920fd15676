import Derived.Test.YthkilkjngincpaaMatrixWordZ
import Derived.Test.YthkilkjngincpaaLiteTM
namespace Go.Proofs.Ythkilkjngincpaa.rdMatrixWord
open Go Go.Lite Go.Proofs.Ythkilkjngincpaa
set_option linter.unusedVariables false
set_option maxRecDepth 100000

theorem uT5 : Try.prog.underlying 5 = some (.int .u8) := by kernel_rfl
theorem rdT5 (n : Nat) (ls : List LV) (h : Shp Try.prog (n + 1) 5 ls) : ∃ a : Int, (rng .u8 a) ∧ LessL [.int .u8 (a)] ls := by
  obtain ⟨x, rfl, w⟩ := shp_int uT5 h
  exact ⟨x, wf_rng w, .one (.free rfl)⟩
theorem uT22 : Try.prog.underlying 22 = some (.slice 5) := by kernel_rfl
theorem zT22 : Try.prog.cellsOf 5 = R.sz 0 := by kernel_rfl
theorem rdT22 (n : Nat) (ls : List LV) (h : Shp Try.prog (n + 2) 22 ls) : ∃ a : List (Int), ((List.length a ≤ 9223372036854775807 ∧ ∀ y ∈ a, Wy y)) ∧ LessL [emb R (.lst 0 (a))] ls := by
  exact shp_slice (R := R) (e := 0) (ok := Wy) uT22 zT22 (rdT5 (n + 0)) h
theorem uT3 : Try.prog.underlying 3 = some (.int .i64) := by kernel_rfl
theorem any (xs : List LV) (h : ShpA Try.prog 8 Try.f3.params.toList xs) : LC Try.prog 3 xs [] fun x _ => x = .bool true := by
  rw [show Try.f3.params.toList = [22, 3] by kernel_rfl] at h
  obtain ⟨_, _, rfl, h0, _, _, rfl, h1, rfl⟩ := h
  obtain ⟨a0, w0, l0⟩ := rdT22 6 _ (shpv_slice uT22 h0)
  obtain ⟨a1, rfl, w1⟩ := shpv_int uT3 h1
  exact (MatrixWord_law (a0) a1 (w0) (wf_rng w1)).less (LessL.app l0 (LessL.app (.one (.free rfl)) .nil))

end Go.Proofs.Ythkilkjngincpaa.rdMatrixWord
