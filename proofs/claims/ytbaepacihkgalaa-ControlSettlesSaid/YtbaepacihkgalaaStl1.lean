/- Plain: a density that is corrected again and again comes near its target. -/
import Derived.Test.YtbaepacihkgalaaPrsS
import Derived.Test.YtbaepacihkgalaaNear
namespace Go.Proofs.Ytbaepacihkgalaa
open Go Go.Lite
set_option linter.unusedVariables false
set_option linter.unusedSimpArgs false
set_option maxRecDepth 100000
set_option maxHeartbeats 4000000

/-- What is left of a first error behind m sheets. -/
def shr : Nat → Int
  | 0 => 145000
  | m + 1 => shr m * 7 / 8
/-- A bound of the keys' error behind j corrections. -/
def kyBd : Nat → Int
  | 0 => 96000
  | j + 1 => kyBd j / 2 + 234
theorem shr_pos : ∀ m, 0 ≤ shr m
  | 0 => by show (0 : Int) ≤ 145000; omega
  | m + 1 => by have := shr_pos m; rw [shr]; omega
theorem shr_dn (m : Nat) : shr (m + 1) ≤ shr m := by have := shr_pos m; rw [shr]; omega
theorem shr_64 : shr 64 ≤ 29 := by decide +kernel
theorem shr_le : ∀ m, 64 ≤ m → shr m ≤ 29
  | 0, h => by omega
  | m + 1, h => by
    by_cases e : m + 1 = 64
    · rw [e]; exact shr_64
    · have := shr_le m (by omega); have := shr_dn m; omega
theorem kyBd_in : ∀ j, 0 ≤ kyBd j ∧ kyBd j ≤ 96000
  | 0 => by show (0 : Int) ≤ 96000 ∧ (96000 : Int) ≤ 96000; omega
  | j + 1 => by have := kyBd_in j; rw [kyBd]; omega
theorem kyBd_12 : kyBd 12 ≤ 492 := by decide +kernel
theorem kyBd_le : ∀ j, 12 ≤ j → kyBd j ≤ 492
  | 0, h => by omega
  | j + 1, h => by
    by_cases e : j + 1 = 12
    · rw [e]; exact kyBd_12
    · have := kyBd_le j (by omega); rw [kyBd]; omega
/-- With j corrections done, and m sheets behind the last: the errors of a key and of a density, both times 8 + load. -/
structure NI (A T g K F : Int) (j m : Nat) : Prop where
  e : -kyBd j ≤ 16 * g * K - A * T ∧ 16 * g * K - A * T ≤ kyBd j
  d : -(7 + shr m) ≤ 16 * g * K - A * F ∧ 16 * g * K - A * F ≤ 63 + shr m
  t : 13 ≤ j → -584 ≤ A * T - A * F ∧ A * T - A * F ≤ 584
theorem NI.mk3 {A T g K F : Int} {j m : Nat} (h : (-kyBd j ≤ 16 * g * K - A * T ∧ 16 * g * K - A * T ≤ kyBd j) ∧ (-(7 + shr m) ≤ 16 * g * K - A * F ∧ 16 * g * K - A * F ≤ 63 + shr m) ∧ (13 ≤ j → -584 ≤ A * T - A * F ∧ A * T - A * F ≤ 584)) : NI A T g K F j m := ⟨h.1, h.2.1, h.2.2⟩
theorem ni_print {v T g K F : Int} {j m : Nat} (hv : 0 ≤ v ∧ v ≤ 8) (h : NI (8 + v) T g K F j m) : NI (8 + v) T g K (inkV F K g v) j (m + 1) := by
  obtain ⟨⟨e1, e2⟩, ⟨d1, d2⟩, t⟩ := h
  have sp := shr_pos m
  have kb := kyBd_le j
  refine NI.mk3 ?_
  unfold inkV
  obtain ⟨w, hw⟩ : ∃ w, w = F * (8 + v) := ⟨_, rfl⟩
  obtain ⟨r, hr⟩ : ∃ r, r = 2 * K * g := ⟨_, rfl⟩
  obtain ⟨x, hx⟩ : ∃ x, x = (r - w / 8) / 8 := ⟨_, rfl⟩
  rw [← hw, ← hr, ← hx]
  have hr8 : 16 * g * K = 8 * r := by rw [hr, show 2 * K * g = 2 * (K * g) by rw [Int.mul_assoc], show 16 * g * K = 16 * (g * K) by rw [Int.mul_assoc], Int.mul_comm g K]; omega
  have hAF : (8 + v) * F = w := by rw [hw, Int.mul_comm]
  have hAx : (8 + v) * (F + x) = w + (8 + v) * x := by rw [Int.mul_add, hAF]
  have hs : shr (m + 1) = shr m * 7 / 8 := rfl
  have p1 : 0 ≤ x → 8 * x ≤ (8 + v) * x ∧ (8 + v) * x ≤ 16 * x := fun h => ⟨Int.mul_le_mul_of_nonneg_right (by omega) h, Int.mul_le_mul_of_nonneg_right (by omega) h⟩
  have p2 : x ≤ 0 → 16 * x ≤ (8 + v) * x ∧ (8 + v) * x ≤ 8 * x := fun h => ⟨Int.mul_le_mul_of_nonpos_right (by omega) h, Int.mul_le_mul_of_nonpos_right (by omega) h⟩
  rw [hAF, hr8] at d1 d2
  rw [hr8] at e1 e2
  rw [hAF] at t
  rw [hr8, hAx]
  generalize (8 + v) * T = at' at *
  generalize (8 + v) * x = ax at *
  generalize shr m = s at *
  generalize kyBd j = kb' at *
  have x1 : 8 * x ≤ r - w / 8 := by omega
  have x2 : r - w / 8 ≤ 8 * x + 7 := by omega
  have hp : (0 ≤ x ∧ 8 * x ≤ ax ∧ ax ≤ 16 * x) ∨ (x ≤ 0 ∧ 16 * x ≤ ax ∧ ax ≤ 8 * x) := by
    rcases Int.le_total 0 x with h | h
    · exact .inl ⟨h, p1 h⟩
    · exact .inr ⟨h, p2 h⟩
  clear p1 p2
  have c1 : 64 * x ≤ 8 * r - w + 7 := by omega
  have c2 : 8 * r - w - 56 ≤ 64 * x := by omega
  have lo : -(7 + shr (m + 1)) ≤ 8 * r - (w + ax) := by rw [hs]; omega
  have hi : 8 * r - (w + ax) ≤ 63 + shr (m + 1) := by rw [hs]; omega
  have up : 8 * r - (w + ax) ≤ 63 ∨ 8 * r - (w + ax) ≤ 8 * r - w := by omega
  have dn : -7 ≤ 8 * r - (w + ax) ∨ 8 * r - w ≤ 8 * r - (w + ax) := by omega
  refine ⟨⟨e1, e2⟩, ⟨lo, hi⟩, fun hj => ?_⟩
  have k1 := kb (by omega)
  have k2 := t hj
  omega
theorem ni_correct {v T g K F : Int} {j m : Nat} (hv : 0 ≤ v ∧ v ≤ 8) (hT : 0 ≤ T ∧ T ≤ 4000) (hg : 4 ≤ g ∧ g ≤ 12) (hm : 64 ≤ m) (h : NI (8 + v) T g K F j m) : NI (8 + v) T g (max 0 (min 1000 (K + near ((T - F) * (8 + v)) 128))) F (j + 1) 0 := by
  obtain ⟨⟨e1, e2⟩, ⟨d1, d2⟩, t⟩ := h
  have sp := shr_pos m
  have sl := shr_le m hm
  have kb := kyBd_le j
  have ki := kyBd_in j
  have hAT : 0 ≤ (8 + v) * T ∧ (8 + v) * T ≤ 16 * 4000 := ⟨Int.mul_nonneg (by omega) hT.1, Int.mul_le_mul (by omega) hT.2 hT.1 (by omega)⟩
  have hd : (T - F) * (8 + v) = (8 + v) * T - (8 + v) * F := by rw [Int.mul_comm, Int.mul_sub]
  have hk : kyBd (j + 1) = kyBd j / 2 + 234 := rfl
  have hs0 : shr 0 = 145000 := rfl
  refine NI.mk3 ?_
  rw [hd, hk, hs0]
  unfold near
  generalize (8 + v) * T = at' at *
  generalize (8 + v) * F = af at *
  obtain ⟨n, hn⟩ : ∃ n, n = (2 * (at' - af) + 128) / (2 * 128) := ⟨_, rfl⟩
  rw [← hn]
  have n1 : 256 * n ≤ 2 * (at' - af) + 128 := by omega
  have n2 : 2 * (at' - af) + 128 < 256 * n + 256 := by omega
  obtain ⟨K', hK'⟩ : ∃ K', K' = max 0 (min 1000 (K + n)) := ⟨_, rfl⟩
  rw [← hK']
  generalize shr m = s at *
  generalize kyBd j = b at *
  have key : (-(b / 2 + 234) ≤ 16 * g * K' - at' ∧ 16 * g * K' - at' ≤ b / 2 + 234) := by
    obtain rfl | rfl | rfl | rfl | rfl | rfl | rfl | rfl | rfl : g = 4 ∨ g = 5 ∨ g = 6 ∨ g = 7 ∨ g = 8 ∨ g = 9 ∨ g = 10 ∨ g = 11 ∨ g = 12 := by omega
    all_goals omega
  refine ⟨key, ?_, fun hj => ?_⟩
  · generalize 16 * g * K' = y' at *
    generalize 16 * g * K = y at *
    omega
  · by_cases h13 : 13 ≤ j
    · exact t h13
    · have := kb (by omega)
      generalize 16 * g * K = y at *
      omega
theorem ni_good {v T g K F : Int} {j m : Nat} (hv : 0 ≤ v ∧ v ≤ 8) (hj : 13 ≤ j ∨ (j = 12 ∧ 64 ≤ m)) (h : NI (8 + v) T g K F j m) : -80 ≤ F - T ∧ F - T ≤ 80 := by
  obtain ⟨⟨e1, e2⟩, ⟨d1, d2⟩, t⟩ := h
  have b : -584 ≤ (8 + v) * T - (8 + v) * F ∧ (8 + v) * T - (8 + v) * F ≤ 584 := by
    rcases hj with hj | ⟨hj, hm⟩
    · exact t hj
    · have := kyBd_le j (by omega)
      have := shr_le m hm
      omega
  have e : (8 + v) * T - (8 + v) * F = (8 + v) * (T - F) := by rw [Int.mul_sub]
  rw [e] at b
  obtain ⟨x, hx⟩ : ∃ x, x = T - F := ⟨_, rfl⟩
  rw [← hx] at b
  rcases Int.le_total 0 x with h | h
  · have : 8 * x ≤ (8 + v) * x := Int.mul_le_mul_of_nonneg_right (by omega) h
    omega
  · have : (8 + v) * x ≤ 8 * x := Int.mul_le_mul_of_nonpos_right (by omega) h
    omega
theorem ni_first {v T g K : Int} (hv : 0 ≤ v ∧ v ≤ 8) (hT : 0 ≤ T ∧ T ≤ 4000) (hg : 4 ≤ g ∧ g ≤ 12) (hK : 0 ≤ K ∧ K ≤ 500) : NI (8 + v) T g K 0 0 0 := by
  have hAT : 0 ≤ (8 + v) * T ∧ (8 + v) * T ≤ 16 * 4000 := ⟨Int.mul_nonneg (by omega) hT.1, Int.mul_le_mul (by omega) hT.2 hT.1 (by omega)⟩
  have hk0 : kyBd 0 = 96000 := rfl
  have hs0 : shr 0 = 145000 := rfl
  have h0 : (8 + v) * 0 = 0 := Int.mul_zero _
  refine NI.mk3 ⟨?_, ?_, fun h => absurd h (by omega)⟩
  · rw [hk0]
    generalize (8 + v) * T = at' at *
    obtain rfl | rfl | rfl | rfl | rfl | rfl | rfl | rfl | rfl : g = 4 ∨ g = 5 ∨ g = 6 ∨ g = 7 ∨ g = 8 ∨ g = 9 ∨ g = 10 ∨ g = 11 ∨ g = 12 := by omega
    all_goals omega
  · rw [hs0, h0]
    obtain rfl | rfl | rfl | rfl | rfl | rfl | rfl | rfl | rfl : g = 4 ∨ g = 5 ∨ g = 6 ∨ g = 7 ∨ g = 8 ∨ g = 9 ∨ g = 10 ∨ g = 11 ∨ g = 12 := by omega
    all_goals omega
end Go.Proofs.Ytbaepacihkgalaa
