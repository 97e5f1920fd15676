import Derived.Test.YthmjeeamomfifaaCurveD
import Derived.Test.YthmjeeamomfifaaLiteTM
namespace Go.Proofs.Ythmjeeamomfifaa
open Go Go.Lite
set_option linter.unusedVariables false
set_option maxRecDepth 100000

theorem u34 : fieldsT Try.prog 34 = some [32] := by kernel_rfl
theorem u65 : fieldsT Try.prog 65 = some [3, 3] := by kernel_rfl
theorem u32 : Try.prog.underlying 32 = some (.slice 65) := by kernel_rfl
theorem u3 : Try.prog.underlying 3 = some (.int .i64) := by kernel_rfl
theorem z65 : Try.prog.cellsOf 65 = R.sz 0 := by kernel_rfl

theorem rd_point (n : Nat) (ls : List LV) (h : Shp Try.prog (n + 2) 65 ls) : ∃ a : Int × Int, True ∧ LessL (R.encL 0 a) ls := by
  obtain ⟨_, _, rfl, h1, _, _, rfl, h2, rfl⟩ := shp_fields u65 h
  obtain ⟨x, rfl, _⟩ := shp_int u3 h1
  obtain ⟨y, rfl, _⟩ := shp_int u3 h2
  exact ⟨(x, y), trivial, .cons (.free rfl) (.cons (.free rfl) .nil)⟩

theorem rd_curve (n : Nat) (x : LV) (h : ShpV Try.prog (n + 4) 34 x) : ∃ c : List (Int × Int), Less (emb R (.agg [.lst 0 c])) x := by
  obtain ⟨_, rfl, _, _, rfl, h1, rfl⟩ := shpv_fields u34 h
  obtain ⟨c, _, h2⟩ := shp_slice (R := R) (e := 0) (ok := fun _ => True) u32 z65 (rd_point n) h1
  exact ⟨c, .agg' (by rw [List.append_nil]; exact h2)⟩

theorem galois_any (xs : List LV) (h : ShpA Try.prog 8 Try.f5.params.toList xs) : LC Try.prog 5 xs [] fun x _ => x = .bool true := by
  rw [show Try.f5.params.toList = [34, 3] by kernel_rfl] at h
  obtain ⟨_, _, rfl, h1, _, _, rfl, h2, rfl⟩ := h
  obtain ⟨c, h1⟩ := rd_curve 4 _ h1
  obtain ⟨y, rfl, _⟩ := shpv_int u3 h2
  exact (galois_c c y).less (.cons h1 (.cons (.free rfl) .nil))

theorem monotone_any (xs : List LV) (h : ShpA Try.prog 8 Try.f6.params.toList xs) : LC Try.prog 6 xs [] fun x _ => x = .bool true := by
  rw [show Try.f6.params.toList = [34, 3, 3] by kernel_rfl] at h
  obtain ⟨_, _, rfl, h1, _, _, rfl, h2, _, _, rfl, h3, rfl⟩ := h
  obtain ⟨c, h1⟩ := rd_curve 4 _ h1
  obtain ⟨x, rfl, _⟩ := shpv_int u3 h2
  obtain ⟨y, rfl, _⟩ := shpv_int u3 h3
  exact (monotone_c c x y).less (.cons h1 (.cons (.free rfl) (.cons (.free rfl) .nil)))
