import Derived.Test.YtogbkhopanaoiaaDevicelinkDistancesZ
import Derived.Test.YtogbkhopanaoiaaLiteTM
namespace Go.Proofs.Ytogbkhopanaoiaa.rdDevicelinkDistances
open Go Go.Lite Go.Proofs.Ytogbkhopanaoiaa
set_option linter.unusedVariables false
set_option maxRecDepth 100000

theorem uT9 : Try.prog.underlying 9 = some .string := by kernel_rfl
theorem rdT9 (n : Nat) (ls : List LV) (h : Shp Try.prog (n + 1) 9 ls) : ∃ a : ByteArray, (ByteArray.size a ≤ 9223372036854775807) ∧ LessL [.str (a)] ls := by
  obtain ⟨x, rfl, w⟩ := shp_str uT9 h
  exact ⟨x, w, .one (.free rfl)⟩
theorem uT22 : Try.prog.underlying 22 = some (.slice 9) := by kernel_rfl
theorem zT22 : Try.prog.cellsOf 9 = R.sz 1 := by kernel_rfl
theorem rdT22 (n : Nat) (ls : List LV) (h : Shp Try.prog (n + 2) 22 ls) : ∃ a : List (ByteArray), ((List.length a ≤ 9223372036854775807 ∧ ∀ y ∈ a, Ws y)) ∧ LessL [emb R (.lst 1 (a))] ls := by
  exact shp_slice (R := R) (e := 1) (ok := Ws) uT22 zT22 (rdT9 (n + 0)) h
theorem uT3 : Try.prog.underlying 3 = some (.int .i64) := by kernel_rfl
theorem rdT3 (n : Nat) (ls : List LV) (h : Shp Try.prog (n + 1) 3 ls) : ∃ a : Int, (rng .i64 a) ∧ LessL [.int .i64 (a)] ls := by
  obtain ⟨x, rfl, w⟩ := shp_int uT3 h
  exact ⟨x, wf_rng w, .one (.free rfl)⟩
theorem uT116 : fieldsT Try.prog 116 = some [3, 3] := by kernel_rfl
theorem rdT116 (n : Nat) (ls : List LV) (h : Shp Try.prog (n + 2) 116 ls) : ∃ a : Int × Int, (rng .i64 a.1 ∧ rng .i64 a.2) ∧ LessL [.int .i64 (a.1), .int .i64 (a.2)] ls := by
  obtain ⟨_, _, rfl, h0, _, _, rfl, h1, rfl⟩ := shp_fields uT116 h
  obtain ⟨a0, w0, l0⟩ := rdT3 (n + 0) _ h0
  obtain ⟨a1, w1, l1⟩ := rdT3 (n + 0) _ h1
  exact ⟨(a0, a1), ⟨w0, w1⟩, (l0.app (l1.app .nil))⟩

theorem uT44 : Try.prog.underlying 44 = some (.slice 116) := by kernel_rfl
theorem zT44 : Try.prog.cellsOf 116 = R.sz 2 := by kernel_rfl
theorem rdT44 (n : Nat) (ls : List LV) (h : Shp Try.prog (n + 3) 44 ls) : ∃ a : List (Int × Int), ((List.length a ≤ 9223372036854775807 ∧ ∀ y ∈ a, W2i y)) ∧ LessL [emb R (.lst 2 (a))] ls := by
  exact shp_slice (R := R) (e := 2) (ok := W2i) uT44 zT44 (rdT116 (n + 0)) h
theorem uT46 : fieldsT Try.prog 46 = some [44] := by kernel_rfl
theorem rdT46 (n : Nat) (ls : List LV) (h : Shp Try.prog (n + 4) 46 ls) : ∃ a : List (Int × Int), ((List.length a ≤ 9223372036854775807 ∧ ∀ y ∈ a, W2i y)) ∧ LessL [emb R (.lst 2 (a))] ls := by
  obtain ⟨_, _, rfl, h0, rfl⟩ := shp_fields uT46 h
  obtain ⟨a0, w0, l0⟩ := rdT44 (n + 0) _ h0
  exact ⟨a0, w0, (l0.app .nil)⟩

theorem uT60 : Try.prog.underlying 60 = some (.slice 46) := by kernel_rfl
theorem zT60 : Try.prog.cellsOf 46 = R.sz 4 := by kernel_rfl
theorem rdT60 (n : Nat) (ls : List LV) (h : Shp Try.prog (n + 5) 60 ls) : ∃ a : List (List (Int × Int)), ((List.length a ≤ 9223372036854775807 ∧ ∀ y ∈ a, WL2iJ y)) ∧ LessL [emb R (.lst 4 (a))] ls := by
  exact shp_slice (R := R) (e := 4) (ok := WL2iJ) uT60 zT60 (rdT46 (n + 0)) h
theorem uT23 : Try.prog.underlying 23 = some (.slice 3) := by kernel_rfl
theorem zT23 : Try.prog.cellsOf 3 = R.sz 0 := by kernel_rfl
theorem rdT23 (n : Nat) (ls : List LV) (h : Shp Try.prog (n + 2) 23 ls) : ∃ a : List (Int), ((List.length a ≤ 9223372036854775807 ∧ ∀ y ∈ a, Wi y)) ∧ LessL [emb R (.lst 0 (a))] ls := by
  exact shp_slice (R := R) (e := 0) (ok := Wi) uT23 zT23 (rdT3 (n + 0)) h
theorem uT25 : fieldsT Try.prog 25 = some [3, 3, 3, 23] := by kernel_rfl
theorem rdT25 (n : Nat) (ls : List LV) (h : Shp Try.prog (n + 3) 25 ls) : ∃ a : Int × Int × Int × List (Int), (rng .i64 a.1 ∧ rng .i64 a.2.1 ∧ rng .i64 a.2.2.1 ∧ (List.length a.2.2.2 ≤ 9223372036854775807 ∧ ∀ y ∈ a.2.2.2, Wi y)) ∧ LessL [.int .i64 (a.1), .int .i64 (a.2.1), .int .i64 (a.2.2.1), emb R (.lst 0 (a.2.2.2))] ls := by
  obtain ⟨_, _, rfl, h0, _, _, rfl, h1, _, _, rfl, h2, _, _, rfl, h3, rfl⟩ := shp_fields uT25 h
  obtain ⟨a0, w0, l0⟩ := rdT3 (n + 1) _ h0
  obtain ⟨a1, w1, l1⟩ := rdT3 (n + 1) _ h1
  obtain ⟨a2, w2, l2⟩ := rdT3 (n + 1) _ h2
  obtain ⟨a3, w3, l3⟩ := rdT23 (n + 0) _ h3
  exact ⟨(a0, a1, a2, a3), ⟨w0, w1, w2, w3⟩, (l0.app (l1.app (l2.app (l3.app .nil))))⟩

theorem uT62 : fieldsT Try.prog 62 = some [9, 22, 60, 25] := by kernel_rfl
theorem rdT62 (n : Nat) (ls : List LV) (h : Shp Try.prog (n + 6) 62 ls) : ∃ a : ByteArray × List (ByteArray) × List (List (Int × Int)) × Int × Int × Int × List (Int), (ByteArray.size a.1 ≤ 9223372036854775807 ∧ (List.length a.2.1 ≤ 9223372036854775807 ∧ ∀ y ∈ a.2.1, Ws y) ∧ (List.length a.2.2.1 ≤ 9223372036854775807 ∧ ∀ y ∈ a.2.2.1, WL2iJ y) ∧ rng .i64 a.2.2.2.1 ∧ rng .i64 a.2.2.2.2.1 ∧ rng .i64 a.2.2.2.2.2.1 ∧ (List.length a.2.2.2.2.2.2 ≤ 9223372036854775807 ∧ ∀ y ∈ a.2.2.2.2.2.2, Wi y)) ∧ LessL [.str (a.1), emb R (.lst 1 (a.2.1)), emb R (.lst 4 (a.2.2.1)), .int .i64 (a.2.2.2.1), .int .i64 (a.2.2.2.2.1), .int .i64 (a.2.2.2.2.2.1), emb R (.lst 0 (a.2.2.2.2.2.2))] ls := by
  obtain ⟨_, _, rfl, h0, _, _, rfl, h1, _, _, rfl, h2, _, _, rfl, h3, rfl⟩ := shp_fields uT62 h
  obtain ⟨a0, w0, l0⟩ := rdT9 (n + 4) _ h0
  obtain ⟨a1, w1, l1⟩ := rdT22 (n + 3) _ h1
  obtain ⟨a2, w2, l2⟩ := rdT60 (n + 0) _ h2
  obtain ⟨a3, w3, l3⟩ := rdT25 (n + 2) _ h3
  exact ⟨(a0, a1, a2, a3.1, a3.2.1, a3.2.2.1, a3.2.2.2), ⟨w0, w1, w2, w3.1, w3.2.1, w3.2.2.1, w3.2.2.2⟩, (l0.app (l1.app (l2.app (l3.app .nil))))⟩


theorem any (xs : List LV) (h : ShpA Try.prog 8 Try.f7.params.toList xs) : LC Try.prog 7 xs [] fun x _ => x = .bool true := by
  rw [show Try.f7.params.toList = [62, 62, 25, 23] by kernel_rfl] at h
  obtain ⟨_, _, rfl, h0, _, _, rfl, h1, _, _, rfl, h2, _, _, rfl, h3, rfl⟩ := h
  obtain ⟨_, rfl, g0⟩ := shpv_aggF uT62 h0
  obtain ⟨a0, w0, l0⟩ := rdT62 2 _ g0
  obtain ⟨_, rfl, g1⟩ := shpv_aggF uT62 h1
  obtain ⟨a1, w1, l1⟩ := rdT62 2 _ g1
  obtain ⟨_, rfl, g2⟩ := shpv_aggF uT25 h2
  obtain ⟨a2, w2, l2⟩ := rdT25 5 _ g2
  obtain ⟨a3, w3, l3⟩ := rdT23 6 _ (shpv_slice uT23 h3)
  exact (DevicelinkDistances_law (a0.1) (a0.2.1) (a0.2.2.1) (a0.2.2.2.1) (a0.2.2.2.2.1) (a0.2.2.2.2.2.1) (a0.2.2.2.2.2.2) (a1.1) (a1.2.1) (a1.2.2.1) (a1.2.2.2.1) (a1.2.2.2.2.1) (a1.2.2.2.2.2.1) (a1.2.2.2.2.2.2) (a2.1) (a2.2.1) (a2.2.2.1) (a2.2.2.2) (a3) (w0.1) (w0.2.1) (w0.2.2.1) (w0.2.2.2.1) (w0.2.2.2.2.1) (w0.2.2.2.2.2.1) (w0.2.2.2.2.2.2) (w1.1) (w1.2.1) (w1.2.2.1) (w1.2.2.2.1) (w1.2.2.2.2.1) (w1.2.2.2.2.2.1) (w1.2.2.2.2.2.2) (w2.1) (w2.2.1) (w2.2.2.1) (w2.2.2.2) (w3)).less (LessL.app (.one (.agg' l0)) (LessL.app (.one (.agg' l1)) (LessL.app (.one (.agg' l2)) (LessL.app l3 .nil))))

end Go.Proofs.Ytogbkhopanaoiaa.rdDevicelinkDistances
