import Derived.Test.YtfgaefpdccdfiaaSpotMergedTwiceZ
import Derived.Test.YtfgaefpdccdfiaaLiteTM
namespace Go.Proofs.Ytfgaefpdccdfiaa.rdSpotMergedTwice
open Go Go.Lite Go.Proofs.Ytfgaefpdccdfiaa
set_option linter.unusedVariables false
set_option maxRecDepth 100000

theorem uT9 : Try.prog.underlying 9 = some .string := by kernel_rfl
theorem rdT9 (n : Nat) (ls : List LV) (h : Shp Try.prog (n + 1) 9 ls) : ∃ a : ByteArray, (ByteArray.size a ≤ 9223372036854775807) ∧ LessL [.str (a)] ls := by
  obtain ⟨x, rfl, w⟩ := shp_str uT9 h
  exact ⟨x, w, .one (.free rfl)⟩
theorem uT3 : Try.prog.underlying 3 = some (.int .i64) := by kernel_rfl
theorem rdT3 (n : Nat) (ls : List LV) (h : Shp Try.prog (n + 1) 3 ls) : ∃ a : Int, (rng .i64 a) ∧ LessL [.int .i64 (a)] ls := by
  obtain ⟨x, rfl, w⟩ := shp_int uT3 h
  exact ⟨x, wf_rng w, .one (.free rfl)⟩
theorem uT35 : fieldsT Try.prog 35 = some [3, 3, 3] := by kernel_rfl
theorem rdT35 (n : Nat) (ls : List LV) (h : Shp Try.prog (n + 2) 35 ls) : ∃ a : Int × Int × Int, (rng .i64 a.1 ∧ rng .i64 a.2.1 ∧ rng .i64 a.2.2) ∧ LessL [.int .i64 (a.1), .int .i64 (a.2.1), .int .i64 (a.2.2)] ls := by
  obtain ⟨_, _, rfl, h0, _, _, rfl, h1, _, _, rfl, h2, rfl⟩ := shp_fields uT35 h
  obtain ⟨a0, w0, l0⟩ := rdT3 (n + 0) _ h0
  obtain ⟨a1, w1, l1⟩ := rdT3 (n + 0) _ h1
  obtain ⟨a2, w2, l2⟩ := rdT3 (n + 0) _ h2
  exact ⟨(a0, a1, a2), ⟨w0, w1, w2⟩, (l0.app (l1.app (l2.app .nil)))⟩

theorem uT64 : fieldsT Try.prog 64 = some [3, 3] := by kernel_rfl
theorem rdT64 (n : Nat) (ls : List LV) (h : Shp Try.prog (n + 2) 64 ls) : ∃ a : Int × Int, (rng .i64 a.1 ∧ rng .i64 a.2) ∧ LessL [.int .i64 (a.1), .int .i64 (a.2)] ls := by
  obtain ⟨_, _, rfl, h0, _, _, rfl, h1, rfl⟩ := shp_fields uT64 h
  obtain ⟨a0, w0, l0⟩ := rdT3 (n + 0) _ h0
  obtain ⟨a1, w1, l1⟩ := rdT3 (n + 0) _ h1
  exact ⟨(a0, a1), ⟨w0, w1⟩, (l0.app (l1.app .nil))⟩

theorem uT50 : Try.prog.underlying 50 = some (.slice 64) := by kernel_rfl
theorem zT50 : Try.prog.cellsOf 64 = R.sz 1 := by kernel_rfl
theorem rdT50 (n : Nat) (ls : List LV) (h : Shp Try.prog (n + 3) 50 ls) : ∃ a : List (Int × Int), ((List.length a ≤ 9223372036854775807 ∧ ∀ y ∈ a, W2i y)) ∧ LessL [emb R (.lst 1 (a))] ls := by
  exact shp_slice (R := R) (e := 1) (ok := W2i) uT50 zT50 (rdT64 (n + 0)) h
theorem uT52 : fieldsT Try.prog 52 = some [50] := by kernel_rfl
theorem rdT52 (n : Nat) (ls : List LV) (h : Shp Try.prog (n + 4) 52 ls) : ∃ a : List (Int × Int), ((List.length a ≤ 9223372036854775807 ∧ ∀ y ∈ a, W2i y)) ∧ LessL [emb R (.lst 1 (a))] ls := by
  obtain ⟨_, _, rfl, h0, rfl⟩ := shp_fields uT52 h
  obtain ⟨a0, w0, l0⟩ := rdT50 (n + 0) _ h0
  exact ⟨a0, w0, (l0.app .nil)⟩

theorem uT22 : Try.prog.underlying 22 = some (.slice 3) := by kernel_rfl
theorem zT22 : Try.prog.cellsOf 3 = R.sz 0 := by kernel_rfl
theorem rdT22 (n : Nat) (ls : List LV) (h : Shp Try.prog (n + 2) 22 ls) : ∃ a : List (Int), ((List.length a ≤ 9223372036854775807 ∧ ∀ y ∈ a, Wi y)) ∧ LessL [emb R (.lst 0 (a))] ls := by
  exact shp_slice (R := R) (e := 0) (ok := Wi) uT22 zT22 (rdT3 (n + 0)) h
theorem uT77 : fieldsT Try.prog 77 = some [9, 35, 35, 52, 22] := by kernel_rfl
theorem rdT77 (n : Nat) (ls : List LV) (h : Shp Try.prog (n + 5) 77 ls) : ∃ a : ByteArray × Int × Int × Int × Int × Int × Int × List (Int × Int) × List (Int), (ByteArray.size a.1 ≤ 9223372036854775807 ∧ rng .i64 a.2.1 ∧ rng .i64 a.2.2.1 ∧ rng .i64 a.2.2.2.1 ∧ rng .i64 a.2.2.2.2.1 ∧ rng .i64 a.2.2.2.2.2.1 ∧ rng .i64 a.2.2.2.2.2.2.1 ∧ (List.length a.2.2.2.2.2.2.2.1 ≤ 9223372036854775807 ∧ ∀ y ∈ a.2.2.2.2.2.2.2.1, W2i y) ∧ (List.length a.2.2.2.2.2.2.2.2 ≤ 9223372036854775807 ∧ ∀ y ∈ a.2.2.2.2.2.2.2.2, Wi y)) ∧ LessL [.str (a.1), .int .i64 (a.2.1), .int .i64 (a.2.2.1), .int .i64 (a.2.2.2.1), .int .i64 (a.2.2.2.2.1), .int .i64 (a.2.2.2.2.2.1), .int .i64 (a.2.2.2.2.2.2.1), emb R (.lst 1 (a.2.2.2.2.2.2.2.1)), emb R (.lst 0 (a.2.2.2.2.2.2.2.2))] ls := by
  obtain ⟨_, _, rfl, h0, _, _, rfl, h1, _, _, rfl, h2, _, _, rfl, h3, _, _, rfl, h4, rfl⟩ := shp_fields uT77 h
  obtain ⟨a0, w0, l0⟩ := rdT9 (n + 3) _ h0
  obtain ⟨a1, w1, l1⟩ := rdT35 (n + 2) _ h1
  obtain ⟨a2, w2, l2⟩ := rdT35 (n + 2) _ h2
  obtain ⟨a3, w3, l3⟩ := rdT52 (n + 0) _ h3
  obtain ⟨a4, w4, l4⟩ := rdT22 (n + 2) _ h4
  exact ⟨(a0, a1.1, a1.2.1, a1.2.2, a2.1, a2.2.1, a2.2.2, a3, a4), ⟨w0, w1.1, w1.2.1, w1.2.2, w2.1, w2.2.1, w2.2.2, w3, w4⟩, (l0.app (l1.app (l2.app (l3.app (l4.app .nil)))))⟩

theorem uT72 : Try.prog.underlying 72 = some (.slice 77) := by kernel_rfl
theorem zT72 : Try.prog.cellsOf 77 = R.sz 4 := by kernel_rfl
theorem rdT72 (n : Nat) (ls : List LV) (h : Shp Try.prog (n + 6) 72 ls) : ∃ a : List (ByteArray × Int × Int × Int × Int × Int × Int × List (Int × Int) × List (Int)), ((List.length a ≤ 9223372036854775807 ∧ ∀ y ∈ a, Ws6iL2iJLiJ y)) ∧ LessL [emb R (.lst 4 (a))] ls := by
  exact shp_slice (R := R) (e := 4) (ok := Ws6iL2iJLiJ) uT72 zT72 (rdT77 (n + 0)) h

theorem any (xs : List LV) (h : ShpA Try.prog 8 Try.f14.params.toList xs) : LC Try.prog 14 xs [] fun x _ => x = .bool true := by
  rw [show Try.f14.params.toList = [72, 72] by kernel_rfl] at h
  obtain ⟨_, _, rfl, h0, _, _, rfl, h1, rfl⟩ := h
  obtain ⟨a0, w0, l0⟩ := rdT72 2 _ (shpv_slice uT72 h0)
  obtain ⟨a1, w1, l1⟩ := rdT72 2 _ (shpv_slice uT72 h1)
  exact (SpotMergedTwice_law (a0) (a1) (w0) (w1)).less (LessL.app l0 (LessL.app l1 .nil))

end Go.Proofs.Ytfgaefpdccdfiaa.rdSpotMergedTwice
