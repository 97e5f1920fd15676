/- Plain: a density that is corrected again and again comes near its target. -/
import Derived.Test.YtihminfnphichaaPrsS
import Derived.Test.YtihminfnphichaaNear
namespace Go.Proofs.Ytihminfnphichaa
open Go Go.Lite
set_option linter.unusedVariables false
set_option linter.unusedSimpArgs false
set_option maxRecDepth 100000
set_option maxHeartbeats 4000000

/-- What is left of a first error behind m sheets. -/
def shr : Nat → Int
  | 0 => 145000
  | m + 1 => shr m * 7 / 8
/-- A bound of the keys' error behind j corrections. -/
def kyBd : Nat → Int
  | 0 => 96000
  | j + 1 => kyBd j / 2 + 234
theorem shr_pos : ∀ m, 0 ≤ shr m
  | 0 => by show (0 : Int) ≤ 145000; omega
  | m + 1 => by have := shr_pos m; rw [shr]; omega
theorem kyBd_12 : kyBd 12 ≤ 492 := by decide +kernel
theorem kyBd_le : ∀ j, 12 ≤ j → kyBd j ≤ 492
  | 0, h => by omega
  | j + 1, h => by
    by_cases e : j + 1 = 12
    · rw [e]; exact kyBd_12
    · have := kyBd_le j (by omega); rw [kyBd]; omega
/-- With j corrections done, and m sheets behind the last: the errors of a key and of a density, both times 8 + load. -/
structure NI (A T g K F : Int) (j m : Nat) : Prop where
  e : -kyBd j ≤ 16 * g * K - A * T ∧ 16 * g * K - A * T ≤ kyBd j
  d : -(7 + shr m) ≤ 16 * g * K - A * F ∧ 16 * g * K - A * F ≤ 63 + shr m
  t : 13 ≤ j → -584 ≤ A * T - A * F ∧ A * T - A * F ≤ 584
theorem NI.mk3 {A T g K F : Int} {j m : Nat} (h : (-kyBd j ≤ 16 * g * K - A * T ∧ 16 * g * K - A * T ≤ kyBd j) ∧ (-(7 + shr m) ≤ 16 * g * K - A * F ∧ 16 * g * K - A * F ≤ 63 + shr m) ∧ (13 ≤ j → -584 ≤ A * T - A * F ∧ A * T - A * F ≤ 584)) : NI A T g K F j m := ⟨h.1, h.2.1, h.2.2⟩
theorem ni_print {v T g K F : Int} {j m : Nat} (hv : 0 ≤ v ∧ v ≤ 8) (h : NI (8 + v) T g K F j m) : NI (8 + v) T g K (inkV F K g v) j (m + 1) := by
  obtain ⟨⟨e1, e2⟩, ⟨d1, d2⟩, t⟩ := h
  have sp := shr_pos m
  have kb := kyBd_le j
  refine NI.mk3 ?_
  unfold inkV
  obtain ⟨w, hw⟩ : ∃ w, w = F * (8 + v) := ⟨_, rfl⟩
  obtain ⟨r, hr⟩ : ∃ r, r = 2 * K * g := ⟨_, rfl⟩
  obtain ⟨x, hx⟩ : ∃ x, x = (r - w / 8) / 8 := ⟨_, rfl⟩
  rw [← hw, ← hr, ← hx]
  have hr8 : 16 * g * K = 8 * r := by rw [hr, show 2 * K * g = 2 * (K * g) by rw [Int.mul_assoc], show 16 * g * K = 16 * (g * K) by rw [Int.mul_assoc], Int.mul_comm g K]; omega
  have hAF : (8 + v) * F = w := by rw [hw, Int.mul_comm]
  have hAx : (8 + v) * (F + x) = w + (8 + v) * x := by rw [Int.mul_add, hAF]
  have hs : shr (m + 1) = shr m * 7 / 8 := rfl
  have p1 : 0 ≤ x → 8 * x ≤ (8 + v) * x ∧ (8 + v) * x ≤ 16 * x := fun h => ⟨Int.mul_le_mul_of_nonneg_right (by omega) h, Int.mul_le_mul_of_nonneg_right (by omega) h⟩
  have p2 : x ≤ 0 → 16 * x ≤ (8 + v) * x ∧ (8 + v) * x ≤ 8 * x := fun h => ⟨Int.mul_le_mul_of_nonpos_right (by omega) h, Int.mul_le_mul_of_nonpos_right (by omega) h⟩
  rw [hAF, hr8] at d1 d2
  rw [hr8] at e1 e2
  rw [hAF] at t
  rw [hr8, hAx]
  generalize (8 + v) * T = at' at *
  generalize (8 + v) * x = ax at *
  generalize shr m = s at *
  generalize kyBd j = kb' at *
  have x1 : 8 * x ≤ r - w / 8 := by omega
  have x2 : r - w / 8 ≤ 8 * x + 7 := by omega
  have hp : (0 ≤ x ∧ 8 * x ≤ ax ∧ ax ≤ 16 * x) ∨ (x ≤ 0 ∧ 16 * x ≤ ax ∧ ax ≤ 8 * x) := by
    rcases Int.le_total 0 x with h | h
    · exact .inl ⟨h, p1 h⟩
    · exact .inr ⟨h, p2 h⟩
  clear p1 p2
  have c1 : 64 * x ≤ 8 * r - w + 7 := by omega
  have c2 : 8 * r - w - 56 ≤ 64 * x := by omega
  have lo : -(7 + shr (m + 1)) ≤ 8 * r - (w + ax) := by rw [hs]; omega
  have hi : 8 * r - (w + ax) ≤ 63 + shr (m + 1) := by rw [hs]; omega
  have up : 8 * r - (w + ax) ≤ 63 ∨ 8 * r - (w + ax) ≤ 8 * r - w := by omega
  have dn : -7 ≤ 8 * r - (w + ax) ∨ 8 * r - w ≤ 8 * r - (w + ax) := by omega
  refine ⟨⟨e1, e2⟩, ⟨lo, hi⟩, fun hj => ?_⟩
  have k1 := kb (by omega)
  have k2 := t hj
  omega
end Go.Proofs.Ytihminfnphichaa
