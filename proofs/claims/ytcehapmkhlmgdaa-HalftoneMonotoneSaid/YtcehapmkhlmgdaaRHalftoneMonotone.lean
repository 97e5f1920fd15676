import Derived.Test.YtcehapmkhlmgdaaHalftoneMonotoneZ
import Derived.Test.YtcehapmkhlmgdaaLiteTM
namespace Go.Proofs.Ytcehapmkhlmgdaa.rdHalftoneMonotone
open Go Go.Lite Go.Proofs.Ytcehapmkhlmgdaa
set_option linter.unusedVariables false
set_option maxRecDepth 100000

theorem uT3 : Try.prog.underlying 3 = some (.int .i64) := by kernel_rfl
theorem rdT3 (n : Nat) (ls : List LV) (h : Shp Try.prog (n + 1) 3 ls) : ∃ a : Int, (rng .i64 a) ∧ LessL [.int .i64 (a)] ls := by
  obtain ⟨x, rfl, w⟩ := shp_int uT3 h
  exact ⟨x, wf_rng w, .one (.free rfl)⟩
theorem uT5 : Try.prog.underlying 5 = some (.int .u8) := by kernel_rfl
theorem rdT5 (n : Nat) (ls : List LV) (h : Shp Try.prog (n + 1) 5 ls) : ∃ a : Int, (rng .u8 a) ∧ LessL [.int .u8 (a)] ls := by
  obtain ⟨x, rfl, w⟩ := shp_int uT5 h
  exact ⟨x, wf_rng w, .one (.free rfl)⟩
theorem uT22 : Try.prog.underlying 22 = some (.slice 5) := by kernel_rfl
theorem zT22 : Try.prog.cellsOf 5 = R.sz 2 := by kernel_rfl
theorem rdT22 (n : Nat) (ls : List LV) (h : Shp Try.prog (n + 2) 22 ls) : ∃ a : List (Int), ((List.length a ≤ 9223372036854775807 ∧ ∀ y ∈ a, Wy y)) ∧ LessL [emb R (.lst 2 (a))] ls := by
  exact shp_slice (R := R) (e := 2) (ok := Wy) uT22 zT22 (rdT5 (n + 0)) h
theorem uT24 : fieldsT Try.prog 24 = some [3, 3, 22] := by kernel_rfl
theorem rdT24 (n : Nat) (ls : List LV) (h : Shp Try.prog (n + 3) 24 ls) : ∃ a : Int × Int × List (Int), (rng .i64 a.1 ∧ rng .i64 a.2.1 ∧ (List.length a.2.2 ≤ 9223372036854775807 ∧ ∀ y ∈ a.2.2, Wy y)) ∧ LessL [.int .i64 (a.1), .int .i64 (a.2.1), emb R (.lst 2 (a.2.2))] ls := by
  obtain ⟨_, _, rfl, h0, _, _, rfl, h1, _, _, rfl, h2, rfl⟩ := shp_fields uT24 h
  obtain ⟨a0, w0, l0⟩ := rdT3 (n + 1) _ h0
  obtain ⟨a1, w1, l1⟩ := rdT3 (n + 1) _ h1
  obtain ⟨a2, w2, l2⟩ := rdT22 (n + 0) _ h2
  exact ⟨(a0, a1, a2), ⟨w0, w1, w2⟩, (l0.app (l1.app (l2.app .nil)))⟩

theorem uT28 : fieldsT Try.prog 28 = some [3, 3, 3] := by kernel_rfl
theorem rdT28 (n : Nat) (ls : List LV) (h : Shp Try.prog (n + 2) 28 ls) : ∃ a : Int × Int × Int, (rng .i64 a.1 ∧ rng .i64 a.2.1 ∧ rng .i64 a.2.2) ∧ LessL [.int .i64 (a.1), .int .i64 (a.2.1), .int .i64 (a.2.2)] ls := by
  obtain ⟨_, _, rfl, h0, _, _, rfl, h1, _, _, rfl, h2, rfl⟩ := shp_fields uT28 h
  obtain ⟨a0, w0, l0⟩ := rdT3 (n + 0) _ h0
  obtain ⟨a1, w1, l1⟩ := rdT3 (n + 0) _ h1
  obtain ⟨a2, w2, l2⟩ := rdT3 (n + 0) _ h2
  exact ⟨(a0, a1, a2), ⟨w0, w1, w2⟩, (l0.app (l1.app (l2.app .nil)))⟩


theorem any (xs : List LV) (h : ShpA Try.prog 8 Try.f5.params.toList xs) : LC Try.prog 5 xs [] fun x _ => x = .bool true := by
  rw [show Try.f5.params.toList = [24, 28, 22] by kernel_rfl] at h
  obtain ⟨_, _, rfl, h0, _, _, rfl, h1, _, _, rfl, h2, rfl⟩ := h
  obtain ⟨_, rfl, g0⟩ := shpv_aggF uT24 h0
  obtain ⟨a0, w0, l0⟩ := rdT24 5 _ g0
  obtain ⟨_, rfl, g1⟩ := shpv_aggF uT28 h1
  obtain ⟨a1, w1, l1⟩ := rdT28 6 _ g1
  obtain ⟨a2, w2, l2⟩ := rdT22 6 _ (shpv_slice uT22 h2)
  exact (HalftoneMonotone_law (a0.1) (a0.2.1) (a0.2.2) (a1.1) (a1.2.1) (a1.2.2) (a2) (w0.1) (w0.2.1) (w0.2.2) (w1.1) (w1.2.1) (w1.2.2) (w2)).less (LessL.app (.one (.agg' l0)) (LessL.app (.one (.agg' l1)) (LessL.app l2 .nil)))

end Go.Proofs.Ytcehapmkhlmgdaa.rdHalftoneMonotone
