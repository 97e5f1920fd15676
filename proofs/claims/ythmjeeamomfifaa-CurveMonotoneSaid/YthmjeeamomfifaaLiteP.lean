/- Lite, part P: small facts for the walks. -/
import Derived.Test.YthmjeeamomfifaaLiteO
namespace Go.Lite
open Go

theorem w64 (n : Int) (h1 : -9223372036854775808 ≤ n) (h2 : n ≤ 9223372036854775807) : IntKind.i64.wrap n = n := by
  simp [IntKind.wrap, IntKind.bits, IntKind.signed]; omega
theorem wu64 (n : Int) (h1 : 0 ≤ n) (h2 : n ≤ 18446744073709551615) : IntKind.u64.wrap n = n := by
  simp [IntKind.wrap, IntKind.bits, IntKind.signed]; omega
theorem wu8 (n : Int) (h1 : 0 ≤ n) (h2 : n ≤ 255) : IntKind.u8.wrap n = n := by
  simp [IntKind.wrap, IntKind.bits, IntKind.signed]; omega
theorem wu32 (n : Int) (h1 : 0 ≤ n) (h2 : n ≤ 4294967295) : IntKind.u32.wrap n = n := by
  simp [IntKind.wrap, IntKind.bits, IntKind.signed]; omega

theorem tdiv_pos (n m : Int) (h : 0 ≤ n) : n.tdiv m = n / m := Int.tdiv_eq_ediv_of_nonneg h
theorem tmod_pos (n m : Int) (h : 0 ≤ n) : n.tmod m = n % m := Int.tmod_eq_emod_of_nonneg h

theorem div_unique (n m k : Int) (hm : 1 ≤ m) (h1 : k * m ≤ n) (h2 : n < (k + 1) * m) : n / m = k := by
  have a := (Int.le_ediv_iff_mul_le (show 0 < m by omega)).2 h1
  have b := (Int.ediv_lt_iff_lt_mul (show 0 < m by omega)).2 h2
  omega

theorem tmod_bd (n m : Int) (hm : 1 ≤ m) : n.tdiv m * m + n.tmod m = n ∧ -m < n.tmod m ∧ n.tmod m < m ∧ (n < 0 → n.tmod m ≤ 0) ∧ (0 ≤ n → 0 ≤ n.tmod m) := by
  refine ⟨by rw [Int.mul_comm]; exact Int.mul_tdiv_add_tmod n m, ?_, ?_, fun h => ?_, fun h => Int.tmod_nonneg m h⟩
  · have := Int.lt_tmod_of_pos n (show 0 < m by omega)
    omega
  · exact Int.tmod_lt_of_pos n (by omega)
  · have h1 := Int.tmod_nonneg m (show 0 ≤ -n by omega)
    rw [Int.neg_tmod] at h1
    omega

/-- Go's division and one more step down is the floor. -/
theorem floor_down (n m : Int) (hm : 1 ≤ m) (h : n < n.tdiv m * m) : n.tdiv m - 1 = n / m := by
  obtain ⟨h1, h2, h3, _⟩ := tmod_bd n m hm
  refine (div_unique n m _ hm ?_ ?_).symm
  · rw [Int.sub_mul]; omega
  · rw [Int.sub_add_cancel]; exact h

theorem floor_same (n m : Int) (hm : 1 ≤ m) (h : ¬ n < n.tdiv m * m) : n.tdiv m = n / m := by
  obtain ⟨h1, h2, h3, _⟩ := tmod_bd n m hm
  refine (div_unique n m _ hm ?_ ?_).symm
  · omega
  · rw [Int.add_mul]; omega

theorem tdiv_bd (n m : Int) (hm : 1 ≤ m) (h1 : -9223372036854775808 ≤ n) (h2 : n ≤ 9223372036854775807) : -9223372036854775808 ≤ n.tdiv m ∧ n.tdiv m ≤ 9223372036854775807 ∧
    (n < 0 → n ≤ n.tdiv m ∧ n.tdiv m ≤ 0) ∧ (0 ≤ n → 0 ≤ n.tdiv m ∧ n.tdiv m ≤ n) := by
  rcases Int.lt_or_le n 0 with h | h
  · have e : n.tdiv m = -((-n) / m) := by
      have := Int.neg_tdiv n m
      rw [← tdiv_pos (-n) m (by omega), Int.neg_tdiv]; omega
    have a := Int.ediv_nonneg (show 0 ≤ -n by omega) (show 0 ≤ m by omega)
    have b := Int.ediv_le_self m (show 0 ≤ -n by omega)
    omega
  · rw [tdiv_pos n m h]
    have a := Int.ediv_nonneg h (show 0 ≤ m by omega)
    have b := Int.ediv_le_self m h
    omega

theorem ediv_bd (n m : Int) (hm : 1 ≤ m) : (n < 0 → n ≤ n / m ∧ n / m < 0) ∧ (0 ≤ n → 0 ≤ n / m ∧ n / m ≤ n) := by
  refine ⟨fun h => ⟨?_, Int.ediv_neg_of_neg_of_pos h (by omega)⟩, fun h => ⟨Int.ediv_nonneg h (by omega), Int.ediv_le_self m h⟩⟩
  refine (Int.le_ediv_iff_mul_le (by omega)).2 ?_
  have := Int.mul_le_mul_of_nonpos_left (show n ≤ 0 by omega) hm
  omega

theorem wrap_emod (n m : Int) (hm : 1 ≤ m) (hm2 : m ≤ 4611686018427387904) : 0 ≤ n % m ∧ n % m < m ∧ m * (n / m) + n % m = n :=
  ⟨Int.emod_nonneg n (by omega), Int.emod_lt_of_pos n (by omega), Int.mul_ediv_add_emod n m⟩

theorem w64_sub (a b : Int) : IntKind.i64.wrap (a - IntKind.i64.wrap b) = IntKind.i64.wrap (a - b) := by
  simp [IntKind.wrap, IntKind.bits, IntKind.signed]; omega
theorem w64_add (a b : Int) : IntKind.i64.wrap (a + IntKind.i64.wrap b) = IntKind.i64.wrap (a + b) := by
  simp [IntKind.wrap, IntKind.bits, IntKind.signed]; omega

theorem prod_sign (n m : Int) (hm : 1 ≤ m) : (n < 0 → n.tdiv m * m ≤ 0) ∧ (0 ≤ n → 0 ≤ n.tdiv m * m) := by
  obtain ⟨h1, h2, h3, h4, h5⟩ := tmod_bd n m hm
  refine ⟨fun h => ?_, fun h => ?_⟩
  · rcases Int.lt_or_le 0 (n.tdiv m) with hq | hq
    · have := Int.mul_le_mul_of_nonneg_right (show 1 ≤ n.tdiv m by omega) (show 0 ≤ m by omega)
      have := h4 h
      omega
    · exact Int.mul_nonpos_of_nonpos_of_nonneg hq (by omega)
  · exact Int.mul_nonneg (by rw [tdiv_pos n m h]; exact Int.ediv_nonneg h (by omega)) (by omega)

end Go.Lite
