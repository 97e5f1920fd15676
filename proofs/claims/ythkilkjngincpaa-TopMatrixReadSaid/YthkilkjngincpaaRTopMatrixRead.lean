import Derived.Test.YthkilkjngincpaaTopMatrixReadZ
import Derived.Test.YthkilkjngincpaaLiteTM
namespace Go.Proofs.Ythkilkjngincpaa.rdTopMatrixRead
open Go Go.Lite Go.Proofs.Ythkilkjngincpaa
set_option linter.unusedVariables false
set_option maxRecDepth 100000

theorem uT5 : Try.prog.underlying 5 = some (.int .u8) := by kernel_rfl
theorem rdT5 (n : Nat) (ls : List LV) (h : Shp Try.prog (n + 1) 5 ls) : ∃ a : Int, (rng .u8 a) ∧ LessL [.int .u8 (a)] ls := by
  obtain ⟨x, rfl, w⟩ := shp_int uT5 h
  exact ⟨x, wf_rng w, .one (.free rfl)⟩
theorem uT22 : Try.prog.underlying 22 = some (.slice 5) := by kernel_rfl
theorem zT22 : Try.prog.cellsOf 5 = R.sz 0 := by kernel_rfl
theorem rdT22 (n : Nat) (ls : List LV) (h : Shp Try.prog (n + 2) 22 ls) : ∃ a : List (Int), ((List.length a ≤ 9223372036854775807 ∧ ∀ y ∈ a, Wy y)) ∧ LessL [emb R (.lst 0 (a))] ls := by
  exact shp_slice (R := R) (e := 0) (ok := Wy) uT22 zT22 (rdT5 (n + 0)) h
theorem uT3 : Try.prog.underlying 3 = some (.int .i64) := by kernel_rfl
theorem rdT3 (n : Nat) (ls : List LV) (h : Shp Try.prog (n + 1) 3 ls) : ∃ a : Int, (rng .i64 a) ∧ LessL [.int .i64 (a)] ls := by
  obtain ⟨x, rfl, w⟩ := shp_int uT3 h
  exact ⟨x, wf_rng w, .one (.free rfl)⟩
theorem uT38 : Try.prog.underlying 38 = some (.slice 3) := by kernel_rfl
theorem zT38 : Try.prog.cellsOf 3 = R.sz 2 := by kernel_rfl
theorem rdT38 (n : Nat) (ls : List LV) (h : Shp Try.prog (n + 2) 38 ls) : ∃ a : List (Int), ((List.length a ≤ 9223372036854775807 ∧ ∀ y ∈ a, Wi y)) ∧ LessL [emb R (.lst 2 (a))] ls := by
  exact shp_slice (R := R) (e := 2) (ok := Wi) uT38 zT38 (rdT3 (n + 0)) h
theorem uT52 : fieldsT Try.prog 52 = some [3, 3, 3, 3, 3, 3, 3, 38] := by kernel_rfl
theorem rdT52 (n : Nat) (ls : List LV) (h : Shp Try.prog (n + 3) 52 ls) : ∃ a : Int × Int × Int × Int × Int × Int × Int × List (Int), (rng .i64 a.1 ∧ rng .i64 a.2.1 ∧ rng .i64 a.2.2.1 ∧ rng .i64 a.2.2.2.1 ∧ rng .i64 a.2.2.2.2.1 ∧ rng .i64 a.2.2.2.2.2.1 ∧ rng .i64 a.2.2.2.2.2.2.1 ∧ (List.length a.2.2.2.2.2.2.2 ≤ 9223372036854775807 ∧ ∀ y ∈ a.2.2.2.2.2.2.2, Wi y)) ∧ LessL [.int .i64 (a.1), .int .i64 (a.2.1), .int .i64 (a.2.2.1), .int .i64 (a.2.2.2.1), .int .i64 (a.2.2.2.2.1), .int .i64 (a.2.2.2.2.2.1), .int .i64 (a.2.2.2.2.2.2.1), emb R (.lst 2 (a.2.2.2.2.2.2.2))] ls := by
  obtain ⟨_, _, rfl, h0, _, _, rfl, h1, _, _, rfl, h2, _, _, rfl, h3, _, _, rfl, h4, _, _, rfl, h5, _, _, rfl, h6, _, _, rfl, h7, rfl⟩ := shp_fields uT52 h
  obtain ⟨a0, w0, l0⟩ := rdT3 (n + 1) _ h0
  obtain ⟨a1, w1, l1⟩ := rdT3 (n + 1) _ h1
  obtain ⟨a2, w2, l2⟩ := rdT3 (n + 1) _ h2
  obtain ⟨a3, w3, l3⟩ := rdT3 (n + 1) _ h3
  obtain ⟨a4, w4, l4⟩ := rdT3 (n + 1) _ h4
  obtain ⟨a5, w5, l5⟩ := rdT3 (n + 1) _ h5
  obtain ⟨a6, w6, l6⟩ := rdT3 (n + 1) _ h6
  obtain ⟨a7, w7, l7⟩ := rdT38 (n + 0) _ h7
  exact ⟨(a0, a1, a2, a3, a4, a5, a6, a7), ⟨w0, w1, w2, w3, w4, w5, w6, w7⟩, (l0.app (l1.app (l2.app (l3.app (l4.app (l5.app (l6.app (l7.app .nil))))))))⟩


theorem any (xs : List LV) (h : ShpA Try.prog 8 Try.f6.params.toList xs) : LC Try.prog 6 xs [] fun x _ => x = .bool true := by
  rw [show Try.f6.params.toList = [22, 3, 38, 52] by kernel_rfl] at h
  obtain ⟨_, _, rfl, h0, _, _, rfl, h1, _, _, rfl, h2, _, _, rfl, h3, rfl⟩ := h
  obtain ⟨a0, w0, l0⟩ := rdT22 6 _ (shpv_slice uT22 h0)
  obtain ⟨a1, rfl, w1⟩ := shpv_int uT3 h1
  obtain ⟨a2, w2, l2⟩ := rdT38 6 _ (shpv_slice uT38 h2)
  obtain ⟨_, rfl, g3⟩ := shpv_aggF uT52 h3
  obtain ⟨a3, w3, l3⟩ := rdT52 5 _ g3
  exact (TopMatrixRead_law (a0) a1 (a2) (a3.1) (a3.2.1) (a3.2.2.1) (a3.2.2.2.1) (a3.2.2.2.2.1) (a3.2.2.2.2.2.1) (a3.2.2.2.2.2.2.1) (a3.2.2.2.2.2.2.2) (w0) (wf_rng w1) (w2) (w3.1) (w3.2.1) (w3.2.2.1) (w3.2.2.2.1) (w3.2.2.2.2.1) (w3.2.2.2.2.2.1) (w3.2.2.2.2.2.2.1) (w3.2.2.2.2.2.2.2)).less (LessL.app l0 (LessL.app (.one (.free rfl)) (LessL.app l2 (LessL.app (.one (.agg' l3)) .nil))))

end Go.Proofs.Ythkilkjngincpaa.rdTopMatrixRead
