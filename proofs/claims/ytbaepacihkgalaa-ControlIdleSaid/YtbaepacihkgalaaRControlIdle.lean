/- RControlIdle -/
import Derived.Test.YtbaepacihkgalaaControlIdleZ
import Derived.Test.YtbaepacihkgalaaLiteTM
namespace Go.Proofs.Ytbaepacihkgalaa.rdControlIdle
open Go Go.Lite Go.Proofs.Ytbaepacihkgalaa
set_option linter.unusedVariables false
set_option maxRecDepth 100000

theorem uT3 : Try.prog.underlying 3 = some (.int .i64) := by kernel_rfl
theorem rdT3 (n : Nat) (ls : List LV) (h : Shp Try.prog (n + 1) 3 ls) : ∃ a : Int, (rng .i64 a) ∧ LessL [.int .i64 (a)] ls := by
  obtain ⟨x, rfl, w⟩ := shp_int uT3 h
  exact ⟨x, wf_rng w, .one (.free rfl)⟩
theorem uT22 : Try.prog.underlying 22 = some (.slice 3) := by kernel_rfl
theorem zT22 : Try.prog.cellsOf 3 = R.sz 2 := by kernel_rfl
theorem rdT22 (n : Nat) (ls : List LV) (h : Shp Try.prog (n + 2) 22 ls) : ∃ a : List (Int), ((List.length a ≤ 9223372036854775807 ∧ ∀ y ∈ a, Wi y)) ∧ LessL [emb R (.lst 2 (a))] ls := by
  exact shp_slice (R := R) (e := 2) (ok := Wi) uT22 zT22 (rdT3 (n + 0)) h
theorem uT23 : Try.prog.underlying 23 = some (.slice 22) := by kernel_rfl
theorem zT23 : Try.prog.cellsOf 22 = R.sz 3 := by kernel_rfl
theorem rdT23 (n : Nat) (ls : List LV) (h : Shp Try.prog (n + 3) 23 ls) : ∃ a : List (List (Int)), ((List.length a ≤ 9223372036854775807 ∧ ∀ y ∈ a, WLiJ y)) ∧ LessL [emb R (.lst 3 (a))] ls := by
  exact shp_slice (R := R) (e := 3) (ok := WLiJ) uT23 zT23 (rdT22 (n + 0)) h
theorem uT25 : fieldsT Try.prog 25 = some [3, 3, 3, 3, 22, 23, 23] := by kernel_rfl
theorem rdT25 (n : Nat) (ls : List LV) (h : Shp Try.prog (n + 4) 25 ls) : ∃ a : Int × Int × Int × Int × List (Int) × List (List (Int)) × List (List (Int)), (rng .i64 a.1 ∧ rng .i64 a.2.1 ∧ rng .i64 a.2.2.1 ∧ rng .i64 a.2.2.2.1 ∧ (List.length a.2.2.2.2.1 ≤ 9223372036854775807 ∧ ∀ y ∈ a.2.2.2.2.1, Wi y) ∧ (List.length a.2.2.2.2.2.1 ≤ 9223372036854775807 ∧ ∀ y ∈ a.2.2.2.2.2.1, WLiJ y) ∧ (List.length a.2.2.2.2.2.2 ≤ 9223372036854775807 ∧ ∀ y ∈ a.2.2.2.2.2.2, WLiJ y)) ∧ LessL [.int .i64 (a.1), .int .i64 (a.2.1), .int .i64 (a.2.2.1), .int .i64 (a.2.2.2.1), emb R (.lst 2 (a.2.2.2.2.1)), emb R (.lst 3 (a.2.2.2.2.2.1)), emb R (.lst 3 (a.2.2.2.2.2.2))] ls := by
  obtain ⟨_, _, rfl, h0, _, _, rfl, h1, _, _, rfl, h2, _, _, rfl, h3, _, _, rfl, h4, _, _, rfl, h5, _, _, rfl, h6, rfl⟩ := shp_fields uT25 h
  obtain ⟨a0, w0, l0⟩ := rdT3 (n + 2) _ h0
  obtain ⟨a1, w1, l1⟩ := rdT3 (n + 2) _ h1
  obtain ⟨a2, w2, l2⟩ := rdT3 (n + 2) _ h2
  obtain ⟨a3, w3, l3⟩ := rdT3 (n + 2) _ h3
  obtain ⟨a4, w4, l4⟩ := rdT22 (n + 1) _ h4
  obtain ⟨a5, w5, l5⟩ := rdT23 (n + 0) _ h5
  obtain ⟨a6, w6, l6⟩ := rdT23 (n + 0) _ h6
  exact ⟨(a0, a1, a2, a3, a4, a5, a6), ⟨w0, w1, w2, w3, w4, w5, w6⟩, (l0.app (l1.app (l2.app (l3.app (l4.app (l5.app (l6.app .nil)))))))⟩

theorem uT49 : fieldsT Try.prog 49 = some [3, 3, 3, 3, 3, 3] := by kernel_rfl
theorem rdT49 (n : Nat) (ls : List LV) (h : Shp Try.prog (n + 2) 49 ls) : ∃ a : Int × Int × Int × Int × Int × Int, (rng .i64 a.1 ∧ rng .i64 a.2.1 ∧ rng .i64 a.2.2.1 ∧ rng .i64 a.2.2.2.1 ∧ rng .i64 a.2.2.2.2.1 ∧ rng .i64 a.2.2.2.2.2) ∧ LessL [.int .i64 (a.1), .int .i64 (a.2.1), .int .i64 (a.2.2.1), .int .i64 (a.2.2.2.1), .int .i64 (a.2.2.2.2.1), .int .i64 (a.2.2.2.2.2)] ls := by
  obtain ⟨_, _, rfl, h0, _, _, rfl, h1, _, _, rfl, h2, _, _, rfl, h3, _, _, rfl, h4, _, _, rfl, h5, rfl⟩ := shp_fields uT49 h
  obtain ⟨a0, w0, l0⟩ := rdT3 (n + 0) _ h0
  obtain ⟨a1, w1, l1⟩ := rdT3 (n + 0) _ h1
  obtain ⟨a2, w2, l2⟩ := rdT3 (n + 0) _ h2
  obtain ⟨a3, w3, l3⟩ := rdT3 (n + 0) _ h3
  obtain ⟨a4, w4, l4⟩ := rdT3 (n + 0) _ h4
  obtain ⟨a5, w5, l5⟩ := rdT3 (n + 0) _ h5
  exact ⟨(a0, a1, a2, a3, a4, a5), ⟨w0, w1, w2, w3, w4, w5⟩, (l0.app (l1.app (l2.app (l3.app (l4.app (l5.app .nil))))))⟩

theorem uT26 : Try.prog.underlying 26 = some (.slice 49) := by kernel_rfl
theorem zT26 : Try.prog.cellsOf 49 = R.sz 0 := by kernel_rfl
theorem rdT26 (n : Nat) (ls : List LV) (h : Shp Try.prog (n + 3) 26 ls) : ∃ a : List (Int × Int × Int × Int × Int × Int), ((List.length a ≤ 9223372036854775807 ∧ ∀ y ∈ a, W6i y)) ∧ LessL [emb R (.lst 0 (a))] ls := by
  exact shp_slice (R := R) (e := 0) (ok := W6i) uT26 zT26 (rdT49 (n + 0)) h

theorem any (xs : List LV) (h : ShpA Try.prog 8 Try.f8.params.toList xs) : LC Try.prog 8 xs [] fun x _ => x = .bool true := by
  rw [show Try.f8.params.toList = [25, 26, 3] by kernel_rfl] at h
  obtain ⟨_, _, rfl, h0, _, _, rfl, h1, _, _, rfl, h2, rfl⟩ := h
  obtain ⟨_, rfl, g0⟩ := shpv_aggF uT25 h0
  obtain ⟨a0, w0, l0⟩ := rdT25 4 _ g0
  obtain ⟨a1, w1, l1⟩ := rdT26 5 _ (shpv_slice uT26 h1)
  obtain ⟨a2, rfl, w2⟩ := shpv_int uT3 h2
  exact (ControlIdle_law (a0.1) (a0.2.1) (a0.2.2.1) (a0.2.2.2.1) (a0.2.2.2.2.1) (a0.2.2.2.2.2.1) (a0.2.2.2.2.2.2) (a1) a2 (w0.1) (w0.2.1) (w0.2.2.1) (w0.2.2.2.1) (w0.2.2.2.2.1) (w0.2.2.2.2.2.1) (w0.2.2.2.2.2.2) (w1) (wf_rng w2)).less (LessL.app (.one (.agg' l0)) (LessL.app l1 (LessL.app (.one (.free rfl)) .nil)))

end Go.Proofs.Ytbaepacihkgalaa.rdControlIdle
