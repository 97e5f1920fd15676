import Derived.Test.YtogbkhopanaoiaaConditionTotalsZ
import Derived.Test.YtogbkhopanaoiaaLiteTM
namespace Go.Proofs.Ytogbkhopanaoiaa.rdConditionTotals
open Go Go.Lite Go.Proofs.Ytogbkhopanaoiaa
set_option linter.unusedVariables false
set_option maxRecDepth 100000

theorem uT9 : Try.prog.underlying 9 = some .string := by kernel_rfl
theorem rdT9 (n : Nat) (ls : List LV) (h : Shp Try.prog (n + 1) 9 ls) : ∃ a : ByteArray, (ByteArray.size a ≤ 9223372036854775807) ∧ LessL [.str (a)] ls := by
  obtain ⟨x, rfl, w⟩ := shp_str uT9 h
  exact ⟨x, w, .one (.free rfl)⟩
theorem uT22 : Try.prog.underlying 22 = some (.slice 9) := by kernel_rfl
theorem zT22 : Try.prog.cellsOf 9 = R.sz 1 := by kernel_rfl
theorem rdT22 (n : Nat) (ls : List LV) (h : Shp Try.prog (n + 2) 22 ls) : ∃ a : List (ByteArray), ((List.length a ≤ 9223372036854775807 ∧ ∀ y ∈ a, Ws y)) ∧ LessL [emb R (.lst 1 (a))] ls := by
  exact shp_slice (R := R) (e := 1) (ok := Ws) uT22 zT22 (rdT9 (n + 0)) h
theorem uT3 : Try.prog.underlying 3 = some (.int .i64) := by kernel_rfl
theorem rdT3 (n : Nat) (ls : List LV) (h : Shp Try.prog (n + 1) 3 ls) : ∃ a : Int, (rng .i64 a) ∧ LessL [.int .i64 (a)] ls := by
  obtain ⟨x, rfl, w⟩ := shp_int uT3 h
  exact ⟨x, wf_rng w, .one (.free rfl)⟩
theorem uT23 : Try.prog.underlying 23 = some (.slice 3) := by kernel_rfl
theorem zT23 : Try.prog.cellsOf 3 = R.sz 0 := by kernel_rfl
theorem rdT23 (n : Nat) (ls : List LV) (h : Shp Try.prog (n + 2) 23 ls) : ∃ a : List (Int), ((List.length a ≤ 9223372036854775807 ∧ ∀ y ∈ a, Wi y)) ∧ LessL [emb R (.lst 0 (a))] ls := by
  exact shp_slice (R := R) (e := 0) (ok := Wi) uT23 zT23 (rdT3 (n + 0)) h
theorem uT25 : fieldsT Try.prog 25 = some [3, 3, 3, 23] := by kernel_rfl
theorem rdT25 (n : Nat) (ls : List LV) (h : Shp Try.prog (n + 3) 25 ls) : ∃ a : Int × Int × Int × List (Int), (rng .i64 a.1 ∧ rng .i64 a.2.1 ∧ rng .i64 a.2.2.1 ∧ (List.length a.2.2.2 ≤ 9223372036854775807 ∧ ∀ y ∈ a.2.2.2, Wi y)) ∧ LessL [.int .i64 (a.1), .int .i64 (a.2.1), .int .i64 (a.2.2.1), emb R (.lst 0 (a.2.2.2))] ls := by
  obtain ⟨_, _, rfl, h0, _, _, rfl, h1, _, _, rfl, h2, _, _, rfl, h3, rfl⟩ := shp_fields uT25 h
  obtain ⟨a0, w0, l0⟩ := rdT3 (n + 1) _ h0
  obtain ⟨a1, w1, l1⟩ := rdT3 (n + 1) _ h1
  obtain ⟨a2, w2, l2⟩ := rdT3 (n + 1) _ h2
  obtain ⟨a3, w3, l3⟩ := rdT23 (n + 0) _ h3
  exact ⟨(a0, a1, a2, a3), ⟨w0, w1, w2, w3⟩, (l0.app (l1.app (l2.app (l3.app .nil))))⟩

theorem uT43 : fieldsT Try.prog 43 = some [3, 3, 3] := by kernel_rfl
theorem rdT43 (n : Nat) (ls : List LV) (h : Shp Try.prog (n + 2) 43 ls) : ∃ a : Int × Int × Int, (rng .i64 a.1 ∧ rng .i64 a.2.1 ∧ rng .i64 a.2.2) ∧ LessL [.int .i64 (a.1), .int .i64 (a.2.1), .int .i64 (a.2.2)] ls := by
  obtain ⟨_, _, rfl, h0, _, _, rfl, h1, _, _, rfl, h2, rfl⟩ := shp_fields uT43 h
  obtain ⟨a0, w0, l0⟩ := rdT3 (n + 0) _ h0
  obtain ⟨a1, w1, l1⟩ := rdT3 (n + 0) _ h1
  obtain ⟨a2, w2, l2⟩ := rdT3 (n + 0) _ h2
  exact ⟨(a0, a1, a2), ⟨w0, w1, w2⟩, (l0.app (l1.app (l2.app .nil)))⟩

theorem uT116 : fieldsT Try.prog 116 = some [3, 3] := by kernel_rfl
theorem rdT116 (n : Nat) (ls : List LV) (h : Shp Try.prog (n + 2) 116 ls) : ∃ a : Int × Int, (rng .i64 a.1 ∧ rng .i64 a.2) ∧ LessL [.int .i64 (a.1), .int .i64 (a.2)] ls := by
  obtain ⟨_, _, rfl, h0, _, _, rfl, h1, rfl⟩ := shp_fields uT116 h
  obtain ⟨a0, w0, l0⟩ := rdT3 (n + 0) _ h0
  obtain ⟨a1, w1, l1⟩ := rdT3 (n + 0) _ h1
  exact ⟨(a0, a1), ⟨w0, w1⟩, (l0.app (l1.app .nil))⟩

theorem uT44 : Try.prog.underlying 44 = some (.slice 116) := by kernel_rfl
theorem zT44 : Try.prog.cellsOf 116 = R.sz 2 := by kernel_rfl
theorem rdT44 (n : Nat) (ls : List LV) (h : Shp Try.prog (n + 3) 44 ls) : ∃ a : List (Int × Int), ((List.length a ≤ 9223372036854775807 ∧ ∀ y ∈ a, W2i y)) ∧ LessL [emb R (.lst 2 (a))] ls := by
  exact shp_slice (R := R) (e := 2) (ok := W2i) uT44 zT44 (rdT116 (n + 0)) h
theorem uT46 : fieldsT Try.prog 46 = some [44] := by kernel_rfl
theorem rdT46 (n : Nat) (ls : List LV) (h : Shp Try.prog (n + 4) 46 ls) : ∃ a : List (Int × Int), ((List.length a ≤ 9223372036854775807 ∧ ∀ y ∈ a, W2i y)) ∧ LessL [emb R (.lst 2 (a))] ls := by
  obtain ⟨_, _, rfl, h0, rfl⟩ := shp_fields uT46 h
  obtain ⟨a0, w0, l0⟩ := rdT44 (n + 0) _ h0
  exact ⟨a0, w0, (l0.app .nil)⟩

theorem uT48 : fieldsT Try.prog 48 = some [9, 43, 43, 46, 23] := by kernel_rfl
theorem rdT48 (n : Nat) (ls : List LV) (h : Shp Try.prog (n + 5) 48 ls) : ∃ a : ByteArray × Int × Int × Int × Int × Int × Int × List (Int × Int) × List (Int), (ByteArray.size a.1 ≤ 9223372036854775807 ∧ rng .i64 a.2.1 ∧ rng .i64 a.2.2.1 ∧ rng .i64 a.2.2.2.1 ∧ rng .i64 a.2.2.2.2.1 ∧ rng .i64 a.2.2.2.2.2.1 ∧ rng .i64 a.2.2.2.2.2.2.1 ∧ (List.length a.2.2.2.2.2.2.2.1 ≤ 9223372036854775807 ∧ ∀ y ∈ a.2.2.2.2.2.2.2.1, W2i y) ∧ (List.length a.2.2.2.2.2.2.2.2 ≤ 9223372036854775807 ∧ ∀ y ∈ a.2.2.2.2.2.2.2.2, Wi y)) ∧ LessL [.str (a.1), .int .i64 (a.2.1), .int .i64 (a.2.2.1), .int .i64 (a.2.2.2.1), .int .i64 (a.2.2.2.2.1), .int .i64 (a.2.2.2.2.2.1), .int .i64 (a.2.2.2.2.2.2.1), emb R (.lst 2 (a.2.2.2.2.2.2.2.1)), emb R (.lst 0 (a.2.2.2.2.2.2.2.2))] ls := by
  obtain ⟨_, _, rfl, h0, _, _, rfl, h1, _, _, rfl, h2, _, _, rfl, h3, _, _, rfl, h4, rfl⟩ := shp_fields uT48 h
  obtain ⟨a0, w0, l0⟩ := rdT9 (n + 3) _ h0
  obtain ⟨a1, w1, l1⟩ := rdT43 (n + 2) _ h1
  obtain ⟨a2, w2, l2⟩ := rdT43 (n + 2) _ h2
  obtain ⟨a3, w3, l3⟩ := rdT46 (n + 0) _ h3
  obtain ⟨a4, w4, l4⟩ := rdT23 (n + 2) _ h4
  exact ⟨(a0, a1.1, a1.2.1, a1.2.2, a2.1, a2.2.1, a2.2.2, a3, a4), ⟨w0, w1.1, w1.2.1, w1.2.2, w2.1, w2.2.1, w2.2.2, w3, w4⟩, (l0.app (l1.app (l2.app (l3.app (l4.app .nil)))))⟩

theorem uT26 : Try.prog.underlying 26 = some (.slice 48) := by kernel_rfl
theorem zT26 : Try.prog.cellsOf 48 = R.sz 3 := by kernel_rfl
theorem rdT26 (n : Nat) (ls : List LV) (h : Shp Try.prog (n + 6) 26 ls) : ∃ a : List (ByteArray × Int × Int × Int × Int × Int × Int × List (Int × Int) × List (Int)), ((List.length a ≤ 9223372036854775807 ∧ ∀ y ∈ a, Ws6iL2iJLiJ y)) ∧ LessL [emb R (.lst 3 (a))] ls := by
  exact shp_slice (R := R) (e := 3) (ok := Ws6iL2iJLiJ) uT26 zT26 (rdT48 (n + 0)) h
theorem uT28 : fieldsT Try.prog 28 = some [22, 23, 23, 25, 25, 26, 3] := by kernel_rfl
theorem rdT28 (n : Nat) (ls : List LV) (h : Shp Try.prog (n + 7) 28 ls) : ∃ a : List (ByteArray) × List (Int) × List (Int) × Int × Int × Int × List (Int) × Int × Int × Int × List (Int) × List (ByteArray × Int × Int × Int × Int × Int × Int × List (Int × Int) × List (Int)) × Int, ((List.length a.1 ≤ 9223372036854775807 ∧ ∀ y ∈ a.1, Ws y) ∧ (List.length a.2.1 ≤ 9223372036854775807 ∧ ∀ y ∈ a.2.1, Wi y) ∧ (List.length a.2.2.1 ≤ 9223372036854775807 ∧ ∀ y ∈ a.2.2.1, Wi y) ∧ rng .i64 a.2.2.2.1 ∧ rng .i64 a.2.2.2.2.1 ∧ rng .i64 a.2.2.2.2.2.1 ∧ (List.length a.2.2.2.2.2.2.1 ≤ 9223372036854775807 ∧ ∀ y ∈ a.2.2.2.2.2.2.1, Wi y) ∧ rng .i64 a.2.2.2.2.2.2.2.1 ∧ rng .i64 a.2.2.2.2.2.2.2.2.1 ∧ rng .i64 a.2.2.2.2.2.2.2.2.2.1 ∧ (List.length a.2.2.2.2.2.2.2.2.2.2.1 ≤ 9223372036854775807 ∧ ∀ y ∈ a.2.2.2.2.2.2.2.2.2.2.1, Wi y) ∧ (List.length a.2.2.2.2.2.2.2.2.2.2.2.1 ≤ 9223372036854775807 ∧ ∀ y ∈ a.2.2.2.2.2.2.2.2.2.2.2.1, Ws6iL2iJLiJ y) ∧ rng .i64 a.2.2.2.2.2.2.2.2.2.2.2.2) ∧ LessL [emb R (.lst 1 (a.1)), emb R (.lst 0 (a.2.1)), emb R (.lst 0 (a.2.2.1)), .int .i64 (a.2.2.2.1), .int .i64 (a.2.2.2.2.1), .int .i64 (a.2.2.2.2.2.1), emb R (.lst 0 (a.2.2.2.2.2.2.1)), .int .i64 (a.2.2.2.2.2.2.2.1), .int .i64 (a.2.2.2.2.2.2.2.2.1), .int .i64 (a.2.2.2.2.2.2.2.2.2.1), emb R (.lst 0 (a.2.2.2.2.2.2.2.2.2.2.1)), emb R (.lst 3 (a.2.2.2.2.2.2.2.2.2.2.2.1)), .int .i64 (a.2.2.2.2.2.2.2.2.2.2.2.2)] ls := by
  obtain ⟨_, _, rfl, h0, _, _, rfl, h1, _, _, rfl, h2, _, _, rfl, h3, _, _, rfl, h4, _, _, rfl, h5, _, _, rfl, h6, rfl⟩ := shp_fields uT28 h
  obtain ⟨a0, w0, l0⟩ := rdT22 (n + 4) _ h0
  obtain ⟨a1, w1, l1⟩ := rdT23 (n + 4) _ h1
  obtain ⟨a2, w2, l2⟩ := rdT23 (n + 4) _ h2
  obtain ⟨a3, w3, l3⟩ := rdT25 (n + 3) _ h3
  obtain ⟨a4, w4, l4⟩ := rdT25 (n + 3) _ h4
  obtain ⟨a5, w5, l5⟩ := rdT26 (n + 0) _ h5
  obtain ⟨a6, w6, l6⟩ := rdT3 (n + 5) _ h6
  exact ⟨(a0, a1, a2, a3.1, a3.2.1, a3.2.2.1, a3.2.2.2, a4.1, a4.2.1, a4.2.2.1, a4.2.2.2, a5, a6), ⟨w0, w1, w2, w3.1, w3.2.1, w3.2.2.1, w3.2.2.2, w4.1, w4.2.1, w4.2.2.1, w4.2.2.2, w5, w6⟩, (l0.app (l1.app (l2.app (l3.app (l4.app (l5.app (l6.app .nil)))))))⟩

theorem uT5 : Try.prog.underlying 5 = some (.int .u8) := by kernel_rfl
theorem rdT5 (n : Nat) (ls : List LV) (h : Shp Try.prog (n + 1) 5 ls) : ∃ a : Int, (rng .u8 a) ∧ LessL [.int .u8 (a)] ls := by
  obtain ⟨x, rfl, w⟩ := shp_int uT5 h
  exact ⟨x, wf_rng w, .one (.free rfl)⟩
theorem uT29 : Try.prog.underlying 29 = some (.array 4 5) := by kernel_rfl
theorem rdT29 (n : Nat) (ls : List LV) (h : Shp Try.prog (n + 2) 29 ls) : ∃ a : Int × Int × Int × Int, (rng .u8 a.1 ∧ rng .u8 a.2.1 ∧ rng .u8 a.2.2.1 ∧ rng .u8 a.2.2.2) ∧ LessL [.int .u8 (a.1), .int .u8 (a.2.1), .int .u8 (a.2.2.1), .int .u8 (a.2.2.2)] ls := by
  obtain ⟨_, _, rfl, h0, _, _, rfl, h1, _, _, rfl, h2, _, _, rfl, h3, rfl⟩ := shp_array uT29 h
  obtain ⟨a0, w0, l0⟩ := rdT5 (n + 0) _ h0
  obtain ⟨a1, w1, l1⟩ := rdT5 (n + 0) _ h1
  obtain ⟨a2, w2, l2⟩ := rdT5 (n + 0) _ h2
  obtain ⟨a3, w3, l3⟩ := rdT5 (n + 0) _ h3
  exact ⟨(a0, a1, a2, a3), ⟨w0, w1, w2, w3⟩, (l0.app (l1.app (l2.app (l3.app .nil))))⟩


theorem any (xs : List LV) (h : ShpA Try.prog 8 Try.f3.params.toList xs) : LC Try.prog 3 xs [] fun x _ => x = .bool true := by
  rw [show Try.f3.params.toList = [28, 29, 9] by kernel_rfl] at h
  obtain ⟨_, _, rfl, h0, _, _, rfl, h1, _, _, rfl, h2, rfl⟩ := h
  obtain ⟨_, rfl, g0⟩ := shpv_aggF uT28 h0
  obtain ⟨a0, w0, l0⟩ := rdT28 1 _ g0
  obtain ⟨_, rfl, g1⟩ := shpv_arr uT29 h1
  obtain ⟨a1, w1, l1⟩ := rdT29 6 _ g1
  obtain ⟨a2, rfl, w2⟩ := shpv_str uT9 h2
  exact (ConditionTotals_law (a0.1) (a0.2.1) (a0.2.2.1) (a0.2.2.2.1) (a0.2.2.2.2.1) (a0.2.2.2.2.2.1) (a0.2.2.2.2.2.2.1) (a0.2.2.2.2.2.2.2.1) (a0.2.2.2.2.2.2.2.2.1) (a0.2.2.2.2.2.2.2.2.2.1) (a0.2.2.2.2.2.2.2.2.2.2.1) (a0.2.2.2.2.2.2.2.2.2.2.2.1) (a0.2.2.2.2.2.2.2.2.2.2.2.2) (a1.1) (a1.2.1) (a1.2.2.1) (a1.2.2.2) a2 (w0.1) (w0.2.1) (w0.2.2.1) (w0.2.2.2.1) (w0.2.2.2.2.1) (w0.2.2.2.2.2.1) (w0.2.2.2.2.2.2.1) (w0.2.2.2.2.2.2.2.1) (w0.2.2.2.2.2.2.2.2.1) (w0.2.2.2.2.2.2.2.2.2.1) (w0.2.2.2.2.2.2.2.2.2.2.1) (w0.2.2.2.2.2.2.2.2.2.2.2.1) (w0.2.2.2.2.2.2.2.2.2.2.2.2) (w1.1) (w1.2.1) (w1.2.2.1) (w1.2.2.2) w2).less (LessL.app (.one (.agg' l0)) (LessL.app (.one (.agg' l1)) (LessL.app (.one (.free rfl)) .nil)))

end Go.Proofs.Ytogbkhopanaoiaa.rdConditionTotals
