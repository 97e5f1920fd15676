import Derived.Test.YtkapjajlkpepmaaDevicelinkSelfZ
import Derived.Test.YtkapjajlkpepmaaLiteTM
namespace Go.Proofs.Ytkapjajlkpepmaa.rdDevicelinkSelf
open Go Go.Lite Go.Proofs.Ytkapjajlkpepmaa
set_option linter.unusedVariables false
set_option maxRecDepth 100000

theorem uT9 : Try.prog.underlying 9 = some .string := by kernel_rfl
theorem rdT9 (n : Nat) (ls : List LV) (h : Shp Try.prog (n + 1) 9 ls) : ∃ a : ByteArray, (ByteArray.size a ≤ 9223372036854775807) ∧ LessL [.str (a)] ls := by
  obtain ⟨x, rfl, w⟩ := shp_str uT9 h
  exact ⟨x, w, .one (.free rfl)⟩
theorem uT22 : Try.prog.underlying 22 = some (.slice 9) := by kernel_rfl
theorem zT22 : Try.prog.cellsOf 9 = R.sz 1 := by kernel_rfl
theorem rdT22 (n : Nat) (ls : List LV) (h : Shp Try.prog (n + 2) 22 ls) : ∃ a : List (ByteArray), ((List.length a ≤ 9223372036854775807 ∧ ∀ y ∈ a, Ws y)) ∧ LessL [emb R (.lst 1 (a))] ls := by
  exact shp_slice (R := R) (e := 1) (ok := Ws) uT22 zT22 (rdT9 (n + 0)) h
theorem uT3 : Try.prog.underlying 3 = some (.int .i64) := by kernel_rfl
theorem rdT3 (n : Nat) (ls : List LV) (h : Shp Try.prog (n + 1) 3 ls) : ∃ a : Int, (rng .i64 a) ∧ LessL [.int .i64 (a)] ls := by
  obtain ⟨x, rfl, w⟩ := shp_int uT3 h
  exact ⟨x, wf_rng w, .one (.free rfl)⟩
theorem uT105 : fieldsT Try.prog 105 = some [3, 3] := by kernel_rfl
theorem rdT105 (n : Nat) (ls : List LV) (h : Shp Try.prog (n + 2) 105 ls) : ∃ a : Int × Int, (rng .i64 a.1 ∧ rng .i64 a.2) ∧ LessL [.int .i64 (a.1), .int .i64 (a.2)] ls := by
  obtain ⟨_, _, rfl, h0, _, _, rfl, h1, rfl⟩ := shp_fields uT105 h
  obtain ⟨a0, w0, l0⟩ := rdT3 (n + 0) _ h0
  obtain ⟨a1, w1, l1⟩ := rdT3 (n + 0) _ h1
  exact ⟨(a0, a1), ⟨w0, w1⟩, (l0.app (l1.app .nil))⟩

theorem uT80 : Try.prog.underlying 80 = some (.slice 105) := by kernel_rfl
theorem zT80 : Try.prog.cellsOf 105 = R.sz 2 := by kernel_rfl
theorem rdT80 (n : Nat) (ls : List LV) (h : Shp Try.prog (n + 3) 80 ls) : ∃ a : List (Int × Int), ((List.length a ≤ 9223372036854775807 ∧ ∀ y ∈ a, W2i y)) ∧ LessL [emb R (.lst 2 (a))] ls := by
  exact shp_slice (R := R) (e := 2) (ok := W2i) uT80 zT80 (rdT105 (n + 0)) h
theorem uT82 : fieldsT Try.prog 82 = some [80] := by kernel_rfl
theorem rdT82 (n : Nat) (ls : List LV) (h : Shp Try.prog (n + 4) 82 ls) : ∃ a : List (Int × Int), ((List.length a ≤ 9223372036854775807 ∧ ∀ y ∈ a, W2i y)) ∧ LessL [emb R (.lst 2 (a))] ls := by
  obtain ⟨_, _, rfl, h0, rfl⟩ := shp_fields uT82 h
  obtain ⟨a0, w0, l0⟩ := rdT80 (n + 0) _ h0
  exact ⟨a0, w0, (l0.app .nil)⟩

theorem uT23 : Try.prog.underlying 23 = some (.slice 82) := by kernel_rfl
theorem zT23 : Try.prog.cellsOf 82 = R.sz 3 := by kernel_rfl
theorem rdT23 (n : Nat) (ls : List LV) (h : Shp Try.prog (n + 5) 23 ls) : ∃ a : List (List (Int × Int)), ((List.length a ≤ 9223372036854775807 ∧ ∀ y ∈ a, WL2iJ y)) ∧ LessL [emb R (.lst 3 (a))] ls := by
  exact shp_slice (R := R) (e := 3) (ok := WL2iJ) uT23 zT23 (rdT82 (n + 0)) h
theorem uT24 : Try.prog.underlying 24 = some (.slice 3) := by kernel_rfl
theorem zT24 : Try.prog.cellsOf 3 = R.sz 0 := by kernel_rfl
theorem rdT24 (n : Nat) (ls : List LV) (h : Shp Try.prog (n + 2) 24 ls) : ∃ a : List (Int), ((List.length a ≤ 9223372036854775807 ∧ ∀ y ∈ a, Wi y)) ∧ LessL [emb R (.lst 0 (a))] ls := by
  exact shp_slice (R := R) (e := 0) (ok := Wi) uT24 zT24 (rdT3 (n + 0)) h
theorem uT26 : fieldsT Try.prog 26 = some [3, 3, 3, 24] := by kernel_rfl
theorem rdT26 (n : Nat) (ls : List LV) (h : Shp Try.prog (n + 3) 26 ls) : ∃ a : Int × Int × Int × List (Int), (rng .i64 a.1 ∧ rng .i64 a.2.1 ∧ rng .i64 a.2.2.1 ∧ (List.length a.2.2.2 ≤ 9223372036854775807 ∧ ∀ y ∈ a.2.2.2, Wi y)) ∧ LessL [.int .i64 (a.1), .int .i64 (a.2.1), .int .i64 (a.2.2.1), emb R (.lst 0 (a.2.2.2))] ls := by
  obtain ⟨_, _, rfl, h0, _, _, rfl, h1, _, _, rfl, h2, _, _, rfl, h3, rfl⟩ := shp_fields uT26 h
  obtain ⟨a0, w0, l0⟩ := rdT3 (n + 1) _ h0
  obtain ⟨a1, w1, l1⟩ := rdT3 (n + 1) _ h1
  obtain ⟨a2, w2, l2⟩ := rdT3 (n + 1) _ h2
  obtain ⟨a3, w3, l3⟩ := rdT24 (n + 0) _ h3
  exact ⟨(a0, a1, a2, a3), ⟨w0, w1, w2, w3⟩, (l0.app (l1.app (l2.app (l3.app .nil))))⟩

theorem uT28 : fieldsT Try.prog 28 = some [9, 22, 23, 26] := by kernel_rfl
theorem rdT28 (n : Nat) (ls : List LV) (h : Shp Try.prog (n + 6) 28 ls) : ∃ a : ByteArray × List (ByteArray) × List (List (Int × Int)) × Int × Int × Int × List (Int), (ByteArray.size a.1 ≤ 9223372036854775807 ∧ (List.length a.2.1 ≤ 9223372036854775807 ∧ ∀ y ∈ a.2.1, Ws y) ∧ (List.length a.2.2.1 ≤ 9223372036854775807 ∧ ∀ y ∈ a.2.2.1, WL2iJ y) ∧ rng .i64 a.2.2.2.1 ∧ rng .i64 a.2.2.2.2.1 ∧ rng .i64 a.2.2.2.2.2.1 ∧ (List.length a.2.2.2.2.2.2 ≤ 9223372036854775807 ∧ ∀ y ∈ a.2.2.2.2.2.2, Wi y)) ∧ LessL [.str (a.1), emb R (.lst 1 (a.2.1)), emb R (.lst 3 (a.2.2.1)), .int .i64 (a.2.2.2.1), .int .i64 (a.2.2.2.2.1), .int .i64 (a.2.2.2.2.2.1), emb R (.lst 0 (a.2.2.2.2.2.2))] ls := by
  obtain ⟨_, _, rfl, h0, _, _, rfl, h1, _, _, rfl, h2, _, _, rfl, h3, rfl⟩ := shp_fields uT28 h
  obtain ⟨a0, w0, l0⟩ := rdT9 (n + 4) _ h0
  obtain ⟨a1, w1, l1⟩ := rdT22 (n + 3) _ h1
  obtain ⟨a2, w2, l2⟩ := rdT23 (n + 0) _ h2
  obtain ⟨a3, w3, l3⟩ := rdT26 (n + 2) _ h3
  exact ⟨(a0, a1, a2, a3.1, a3.2.1, a3.2.2.1, a3.2.2.2), ⟨w0, w1, w2, w3.1, w3.2.1, w3.2.2.1, w3.2.2.2⟩, (l0.app (l1.app (l2.app (l3.app .nil))))⟩


theorem any (xs : List LV) (h : ShpA Try.prog 8 Try.f4.params.toList xs) : LC Try.prog 4 xs [] fun x _ => x = .bool true := by
  rw [show Try.f4.params.toList = [28, 3, 24] by kernel_rfl] at h
  obtain ⟨_, _, rfl, h0, _, _, rfl, h1, _, _, rfl, h2, rfl⟩ := h
  obtain ⟨_, rfl, g0⟩ := shpv_aggF uT28 h0
  obtain ⟨a0, w0, l0⟩ := rdT28 2 _ g0
  obtain ⟨a1, rfl, w1⟩ := shpv_int uT3 h1
  obtain ⟨a2, w2, l2⟩ := rdT24 6 _ (shpv_slice uT24 h2)
  exact (DevicelinkSelf_law (a0.1) (a0.2.1) (a0.2.2.1) (a0.2.2.2.1) (a0.2.2.2.2.1) (a0.2.2.2.2.2.1) (a0.2.2.2.2.2.2) a1 (a2) (w0.1) (w0.2.1) (w0.2.2.1) (w0.2.2.2.1) (w0.2.2.2.2.1) (w0.2.2.2.2.2.1) (w0.2.2.2.2.2.2) (wf_rng w1) (w2)).less (LessL.app (.one (.agg' l0)) (LessL.app (.one (.free rfl)) (LessL.app l2 .nil)))

end Go.Proofs.Ytkapjajlkpepmaa.rdDevicelinkSelf
