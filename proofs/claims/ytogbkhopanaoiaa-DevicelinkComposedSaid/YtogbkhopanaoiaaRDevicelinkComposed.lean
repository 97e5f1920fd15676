import Derived.Test.YtogbkhopanaoiaaDevicelinkComposedZ
import Derived.Test.YtogbkhopanaoiaaLiteTM
namespace Go.Proofs.Ytogbkhopanaoiaa.rdDevicelinkComposed
open Go Go.Lite Go.Proofs.Ytogbkhopanaoiaa
set_option linter.unusedVariables false
set_option maxRecDepth 100000

theorem uT3 : Try.prog.underlying 3 = some (.int .i64) := by kernel_rfl
theorem rdT3 (n : Nat) (ls : List LV) (h : Shp Try.prog (n + 1) 3 ls) : ∃ a : Int, (rng .i64 a) ∧ LessL [.int .i64 (a)] ls := by
  obtain ⟨x, rfl, w⟩ := shp_int uT3 h
  exact ⟨x, wf_rng w, .one (.free rfl)⟩
theorem uT23 : Try.prog.underlying 23 = some (.slice 3) := by kernel_rfl
theorem zT23 : Try.prog.cellsOf 3 = R.sz 0 := by kernel_rfl
theorem rdT23 (n : Nat) (ls : List LV) (h : Shp Try.prog (n + 2) 23 ls) : ∃ a : List (Int), ((List.length a ≤ 9223372036854775807 ∧ ∀ y ∈ a, Wi y)) ∧ LessL [emb R (.lst 0 (a))] ls := by
  exact shp_slice (R := R) (e := 0) (ok := Wi) uT23 zT23 (rdT3 (n + 0)) h
theorem uT25 : fieldsT Try.prog 25 = some [3, 3, 3, 23] := by kernel_rfl
theorem rdT25 (n : Nat) (ls : List LV) (h : Shp Try.prog (n + 3) 25 ls) : ∃ a : Int × Int × Int × List (Int), (rng .i64 a.1 ∧ rng .i64 a.2.1 ∧ rng .i64 a.2.2.1 ∧ (List.length a.2.2.2 ≤ 9223372036854775807 ∧ ∀ y ∈ a.2.2.2, Wi y)) ∧ LessL [.int .i64 (a.1), .int .i64 (a.2.1), .int .i64 (a.2.2.1), emb R (.lst 0 (a.2.2.2))] ls := by
  obtain ⟨_, _, rfl, h0, _, _, rfl, h1, _, _, rfl, h2, _, _, rfl, h3, rfl⟩ := shp_fields uT25 h
  obtain ⟨a0, w0, l0⟩ := rdT3 (n + 1) _ h0
  obtain ⟨a1, w1, l1⟩ := rdT3 (n + 1) _ h1
  obtain ⟨a2, w2, l2⟩ := rdT3 (n + 1) _ h2
  obtain ⟨a3, w3, l3⟩ := rdT23 (n + 0) _ h3
  exact ⟨(a0, a1, a2, a3), ⟨w0, w1, w2, w3⟩, (l0.app (l1.app (l2.app (l3.app .nil))))⟩


theorem any (xs : List LV) (h : ShpA Try.prog 8 Try.f6.params.toList xs) : LC Try.prog 6 xs [] fun x _ => x = .bool true := by
  rw [show Try.f6.params.toList = [25, 23] by kernel_rfl] at h
  obtain ⟨_, _, rfl, h0, _, _, rfl, h1, rfl⟩ := h
  obtain ⟨_, rfl, g0⟩ := shpv_aggF uT25 h0
  obtain ⟨a0, w0, l0⟩ := rdT25 5 _ g0
  obtain ⟨a1, w1, l1⟩ := rdT23 6 _ (shpv_slice uT23 h1)
  exact (DevicelinkComposed_law (a0.1) (a0.2.1) (a0.2.2.1) (a0.2.2.2) (a1) (w0.1) (w0.2.1) (w0.2.2.1) (w0.2.2.2) (w1)).less (LessL.app (.one (.agg' l0)) (LessL.app l1 .nil))

end Go.Proofs.Ytogbkhopanaoiaa.rdDevicelinkComposed
