import Derived.Test.YthnfbdihihhoiaaRangecoderAnyBytesZ
import Derived.Test.YthnfbdihihhoiaaLiteTM
namespace Go.Proofs.Ythnfbdihihhoiaa.rdRangecoderAnyBytes
open Go Go.Lite Go.Proofs.Ythnfbdihihhoiaa
set_option linter.unusedVariables false
set_option maxRecDepth 100000

theorem uT5 : Try.prog.underlying 5 = some (.int .u8) := by kernel_rfl
theorem rdT5 (n : Nat) (ls : List LV) (h : Shp Try.prog (n + 1) 5 ls) : ∃ a : Int, (rng .u8 a) ∧ LessL [.int .u8 (a)] ls := by
  obtain ⟨x, rfl, w⟩ := shp_int uT5 h
  exact ⟨x, wf_rng w, .one (.free rfl)⟩
theorem uT57 : Try.prog.underlying 57 = some (.slice 5) := by kernel_rfl
theorem zT57 : Try.prog.cellsOf 5 = R.sz 1 := by kernel_rfl
theorem rdT57 (n : Nat) (ls : List LV) (h : Shp Try.prog (n + 2) 57 ls) : ∃ a : List (Int), ((List.length a ≤ 9223372036854775807 ∧ ∀ y ∈ a, Wy y)) ∧ LessL [emb R (.lst 1 (a))] ls := by
  exact shp_slice (R := R) (e := 1) (ok := Wy) uT57 zT57 (rdT5 (n + 0)) h
theorem uT3 : Try.prog.underlying 3 = some (.int .i64) := by kernel_rfl
theorem rdT3 (n : Nat) (ls : List LV) (h : Shp Try.prog (n + 1) 3 ls) : ∃ a : Int, (rng .i64 a) ∧ LessL [.int .i64 (a)] ls := by
  obtain ⟨x, rfl, w⟩ := shp_int uT3 h
  exact ⟨x, wf_rng w, .one (.free rfl)⟩
theorem uT22 : Try.prog.underlying 22 = some (.slice 3) := by kernel_rfl
theorem zT22 : Try.prog.cellsOf 3 = R.sz 0 := by kernel_rfl
theorem rdT22 (n : Nat) (ls : List LV) (h : Shp Try.prog (n + 2) 22 ls) : ∃ a : List (Int), ((List.length a ≤ 9223372036854775807 ∧ ∀ y ∈ a, Wi y)) ∧ LessL [emb R (.lst 0 (a))] ls := by
  exact shp_slice (R := R) (e := 0) (ok := Wi) uT22 zT22 (rdT3 (n + 0)) h

theorem any (xs : List LV) (h : ShpA Try.prog 8 Try.f10.params.toList xs) : LC Try.prog 10 xs [] fun x _ => x = .bool true := by
  rw [show Try.f10.params.toList = [57, 22] by kernel_rfl] at h
  obtain ⟨_, _, rfl, h0, _, _, rfl, h1, rfl⟩ := h
  obtain ⟨a0, w0, l0⟩ := rdT57 6 _ (shpv_slice uT57 h0)
  obtain ⟨a1, w1, l1⟩ := rdT22 6 _ (shpv_slice uT22 h1)
  exact (RangecoderAnyBytes_law (a0) (a1) (w0) (w1)).less (LessL.app l0 (LessL.app l1 .nil))

end Go.Proofs.Ythnfbdihihhoiaa.rdRangecoderAnyBytes
