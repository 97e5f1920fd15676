/- RTopPresets -/
import Derived.Test.YtihminfnphichaaTopPresetsZ
import Derived.Test.YtihminfnphichaaLiteTM
namespace Go.Proofs.Ytihminfnphichaa.rdTopPresets
open Go Go.Lite Go.Proofs.Ytihminfnphichaa
set_option linter.unusedVariables false
set_option maxRecDepth 100000

theorem uT3 : Try.prog.underlying 3 = some (.int .i64) := by kernel_rfl
theorem rdT3 (n : Nat) (ls : List LV) (h : Shp Try.prog (n + 1) 3 ls) : ∃ a : Int, (rng .i64 a) ∧ LessL [.int .i64 (a)] ls := by
  obtain ⟨x, rfl, w⟩ := shp_int uT3 h
  exact ⟨x, wf_rng w, .one (.free rfl)⟩
theorem uT5 : Try.prog.underlying 5 = some (.int .u8) := by kernel_rfl
theorem rdT5 (n : Nat) (ls : List LV) (h : Shp Try.prog (n + 1) 5 ls) : ∃ a : Int, (rng .u8 a) ∧ LessL [.int .u8 (a)] ls := by
  obtain ⟨x, rfl, w⟩ := shp_int uT5 h
  exact ⟨x, wf_rng w, .one (.free rfl)⟩
theorem uT29 : Try.prog.underlying 29 = some (.slice 5) := by kernel_rfl
theorem zT29 : Try.prog.cellsOf 5 = R.sz 0 := by kernel_rfl
theorem rdT29 (n : Nat) (ls : List LV) (h : Shp Try.prog (n + 2) 29 ls) : ∃ a : List (Int), ((List.length a ≤ 9223372036854775807 ∧ ∀ y ∈ a, Wy y)) ∧ LessL [emb R (.lst 0 (a))] ls := by
  exact shp_slice (R := R) (e := 0) (ok := Wy) uT29 zT29 (rdT5 (n + 0)) h
theorem uT31 : fieldsT Try.prog 31 = some [3, 3, 29] := by kernel_rfl
theorem rdT31 (n : Nat) (ls : List LV) (h : Shp Try.prog (n + 3) 31 ls) : ∃ a : Int × Int × List (Int), (rng .i64 a.1 ∧ rng .i64 a.2.1 ∧ (List.length a.2.2 ≤ 9223372036854775807 ∧ ∀ y ∈ a.2.2, Wy y)) ∧ LessL [.int .i64 (a.1), .int .i64 (a.2.1), emb R (.lst 0 (a.2.2))] ls := by
  obtain ⟨_, _, rfl, h0, _, _, rfl, h1, _, _, rfl, h2, rfl⟩ := shp_fields uT31 h
  obtain ⟨a0, w0, l0⟩ := rdT3 (n + 1) _ h0
  obtain ⟨a1, w1, l1⟩ := rdT3 (n + 1) _ h1
  obtain ⟨a2, w2, l2⟩ := rdT29 (n + 0) _ h2
  exact ⟨(a0, a1, a2), ⟨w0, w1, w2⟩, (l0.app (l1.app (l2.app .nil)))⟩

theorem uT22 : Try.prog.underlying 22 = some (.slice 31) := by kernel_rfl
theorem zT22 : Try.prog.cellsOf 31 = R.sz 1 := by kernel_rfl
theorem rdT22 (n : Nat) (ls : List LV) (h : Shp Try.prog (n + 4) 22 ls) : ∃ a : List (Int × Int × List (Int)), ((List.length a ≤ 9223372036854775807 ∧ ∀ y ∈ a, W2iLyJ y)) ∧ LessL [emb R (.lst 1 (a))] ls := by
  exact shp_slice (R := R) (e := 1) (ok := W2iLyJ) uT22 zT22 (rdT31 (n + 0)) h
theorem uT24 : fieldsT Try.prog 24 = some [3, 3, 3] := by kernel_rfl
theorem rdT24 (n : Nat) (ls : List LV) (h : Shp Try.prog (n + 2) 24 ls) : ∃ a : Int × Int × Int, (rng .i64 a.1 ∧ rng .i64 a.2.1 ∧ rng .i64 a.2.2) ∧ LessL [.int .i64 (a.1), .int .i64 (a.2.1), .int .i64 (a.2.2)] ls := by
  obtain ⟨_, _, rfl, h0, _, _, rfl, h1, _, _, rfl, h2, rfl⟩ := shp_fields uT24 h
  obtain ⟨a0, w0, l0⟩ := rdT3 (n + 0) _ h0
  obtain ⟨a1, w1, l1⟩ := rdT3 (n + 0) _ h1
  obtain ⟨a2, w2, l2⟩ := rdT3 (n + 0) _ h2
  exact ⟨(a0, a1, a2), ⟨w0, w1, w2⟩, (l0.app (l1.app (l2.app .nil)))⟩

theorem uT25 : Try.prog.underlying 25 = some (.slice 3) := by kernel_rfl
theorem zT25 : Try.prog.cellsOf 3 = R.sz 2 := by kernel_rfl
theorem rdT25 (n : Nat) (ls : List LV) (h : Shp Try.prog (n + 2) 25 ls) : ∃ a : List (Int), ((List.length a ≤ 9223372036854775807 ∧ ∀ y ∈ a, Wi y)) ∧ LessL [emb R (.lst 2 (a))] ls := by
  exact shp_slice (R := R) (e := 2) (ok := Wi) uT25 zT25 (rdT3 (n + 0)) h

theorem any (xs : List LV) (h : ShpA Try.prog 8 Try.f3.params.toList xs) : LC Try.prog 3 xs [] fun x _ => x = .bool true := by
  rw [show Try.f3.params.toList = [22, 24, 3, 25] by kernel_rfl] at h
  obtain ⟨_, _, rfl, h0, _, _, rfl, h1, _, _, rfl, h2, _, _, rfl, h3, rfl⟩ := h
  obtain ⟨a0, w0, l0⟩ := rdT22 4 _ (shpv_slice uT22 h0)
  obtain ⟨_, rfl, g1⟩ := shpv_aggF uT24 h1
  obtain ⟨a1, w1, l1⟩ := rdT24 6 _ g1
  obtain ⟨a2, rfl, w2⟩ := shpv_int uT3 h2
  obtain ⟨a3, w3, l3⟩ := rdT25 6 _ (shpv_slice uT25 h3)
  exact (TopPresets_law (a0) (a1.1) (a1.2.1) (a1.2.2) a2 (a3) (w0) (w1.1) (w1.2.1) (w1.2.2) (wf_rng w2) (w3)).less (LessL.app l0 (LessL.app (.one (.agg' l1)) (LessL.app (.one (.free rfl)) (LessL.app l3 .nil))))

end Go.Proofs.Ytihminfnphichaa.rdTopPresets
