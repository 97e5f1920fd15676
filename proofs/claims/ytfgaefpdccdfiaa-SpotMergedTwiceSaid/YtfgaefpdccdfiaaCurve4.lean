/- A curve that is flipped, and one that is calibrated: plain laws. -/
import Derived.Test.YtfgaefpdccdfiaaCurve3
import Derived.Test.YtfgaefpdccdfiaaLists
namespace Go.Proofs.Ytfgaefpdccdfiaa
open Go Go.Lite
set_option linter.unusedVariables false
set_option linter.unusedSimpArgs false
set_option maxRecDepth 100000
set_option maxHeartbeats 4000000
-- @simp rd2i

def comp (p : Int × Int) : Int × Int := (65280 - p.1, 65280 - p.2)
def flipL (c : List (Int × Int)) : List (Int × Int) := tab c.length fun j => comp (c.getD (c.length - 1 - j) (0, 0))
theorem flipL_len (c : List (Int × Int)) : (flipL c).length = c.length := tab_len
theorem flipL_get {c : List (Int × Int)} {j : Nat} (h : j < c.length) : (flipL c).getD j (0, 0) = comp (c.getD (c.length - 1 - j) (0, 0)) := tab_get h
theorem comp_comp (p : Int × Int) : comp (comp p) = p := by
  obtain ⟨a, b⟩ := p
  simp only [comp, Prod.mk.injEq]; omega
theorem flip_flip (c : List (Int × Int)) : flipL (flipL c) = c := ext_getD (0, 0) (by rw [flipL_len, flipL_len]) fun i hi => by
  rw [flipL_len, flipL_len] at hi
  rw [flipL_get (by rw [flipL_len]; exact hi), flipL_len, flipL_get (by omega), show c.length - 1 - (c.length - 1 - i) = i by omega, comp_comp]

theorem scan_valid {c : List (Int × Int)} (v : Valid c) : ∀ n i, c.length - i = n → scan c i = 0 := by
  intro n
  induction n with
  | zero =>
    intro i h
    have h1 := v.first
    have h2 := v.last
    rw [scan, dif_neg (by omega), if_neg (by omega)]
  | succ n ih =>
    intro i h
    have hr := v.rg i (by omega)
    rw [scan, dif_pos (by omega), if_neg (by omega), if_neg, ih (i + 1) (by omega)]
    rintro ⟨h0, h1⟩
    have := v.ord (i - 1) (by omega)
    rw [show i - 1 + 1 = i by omega] at this
    omega
theorem check_valid {c : List (Int × Int)} (v : Valid c) : check c = 0 := by
  have := v.len
  rw [check, if_neg (by omega), if_neg (by omega), scan_valid v _ _ rfl]

theorem flip_valid {c : List (Int × Int)} (v : Valid c) : Valid (flipL c) := by
  have hl := v.len
  refine ⟨by rw [flipL_len]; exact hl, fun i hi => ?_, fun i hi => ?_, ?_, ?_⟩
  · rw [flipL_len] at hi
    rw [flipL_get hi]
    have := v.rg (c.length - 1 - i) (by omega)
    simp only [comp]; omega
  · rw [flipL_len] at hi
    rw [flipL_get hi, flipL_get (by omega)]
    have := v.ord (c.length - 1 - (i + 1)) (by omega)
    rw [show c.length - 1 - (i + 1) + 1 = c.length - 1 - i by omega] at this
    simp only [comp]; omega
  · rw [flipL_get (by omega)]
    have := v.last
    simp only [comp, Nat.sub_zero]; omega
  · rw [flipL_len, flipL_get (by omega), show c.length - 1 - (c.length - 1) = 0 by omega]
    have := v.first
    simp only [comp]; omega

theorem near_split {a d k : Int} (hd : 0 < d) : near a d + near (k * d - a) d = k ∨ near a d + near (k * d - a) d = k + 1 := by
  unfold near
  have h1 : 2 * d * ((2 * a + d) / (2 * d)) + (2 * a + d) % (2 * d) = 2 * a + d := Int.mul_ediv_add_emod _ _
  have h2 := Int.emod_nonneg (2 * a + d) (show 2 * d ≠ 0 by omega)
  have h3 := Int.emod_lt_of_pos (2 * a + d) (show 0 < 2 * d by omega)
  generalize (2 * a + d) / (2 * d) = q at *
  generalize (2 * a + d) % (2 * d) = r at *
  have e : 2 * (k * d - a) + d = 2 * d * (k - q) + (2 * d - r) := by
    have : 2 * d * (k - q) = 2 * (k * d) - 2 * d * q := by rw [Int.mul_sub]; congr 1; rw [Int.mul_assoc, Int.mul_comm d k]
    omega
  rw [e, Int.mul_add_ediv_left _ _ (show 2 * d ≠ 0 by omega)]
  by_cases hr : r = 0
  · subst hr
    rw [Int.sub_zero, Int.ediv_self (by omega)]; right; omega
  · rw [Int.ediv_eq_zero_of_lt (by omega) (by omega)]; left; omega

/-- A value, by any part that holds x. -/
theorem raw_at {c : List (Int × Int)} (v : Valid c) {x : Int} {i : Nat} (hi : i + 1 < c.length) (h : (c.getD i (0, 0)).1 ≤ x ∧ x ≤ (c.getD (i + 1) (0, 0)).1) : raw c x = rawAt c x i := by
  have ho := v.ord i hi
  by_cases e : i = c.length - 2 ∨ x < (c.getD (i + 1) (0, 0)).1
  · unfold raw
    rw [seg_is v h.1 _ (by omega) (by omega) e]
  · have hx : x = (c.getD (i + 1) (0, 0)).1 := by omega
    have ho2 := v.ord (i + 1) (by omega)
    unfold raw
    rw [seg_is v (i := i + 1) (by omega) _ (by omega) (by omega) (by omega)]
    unfold rawAt
    rw [hx, Int.sub_self, Int.mul_zero, near_zero (by omega), near_full (by omega)]
    omega

theorem flip_value {c : List (Int × Int)} (v : Valid c) {x : Int} (hx : 0 ≤ x ∧ x ≤ 65280) : raw c x + raw (flipL c) (65280 - x) = 65280 ∨ raw c x + raw (flipL c) (65280 - x) = 65281 := by
  obtain ⟨h1, h2, h3⟩ := seg_has v hx
  have hr : raw c x = rawAt c x (seg c x (c.length - 2)) := rfl
  generalize seg c x (c.length - 2) = i at *
  have e1 : (flipL c).getD (c.length - 2 - i) (0, 0) = comp (c.getD (i + 1) (0, 0)) := by rw [flipL_get (by omega), show c.length - 1 - (c.length - 2 - i) = i + 1 by omega]
  have e2 : (flipL c).getD (c.length - 2 - i + 1) (0, 0) = comp (c.getD i (0, 0)) := by rw [flipL_get (by omega), show c.length - 1 - (c.length - 2 - i + 1) = i by omega]
  have ho := v.ord i h1
  rw [hr, raw_at (flip_valid v) (i := c.length - 2 - i) (by rw [flipL_len]; omega) (by rw [e1, e2]; simp only [comp]; omega)]
  unfold rawAt
  rw [e1, e2]
  simp only [comp]
  generalize (c.getD i (0, 0)).1 = a at *
  generalize (c.getD i (0, 0)).2 = b at *
  generalize (c.getD (i + 1) (0, 0)).1 = a' at *
  generalize (c.getD (i + 1) (0, 0)).2 = b' at *
  have k := near_split (a := (b' - b) * (x - a)) (d := a' - a) (k := b' - b) (by omega)
  have e3 : (b' - b) * (a' - a) - (b' - b) * (x - a) = (65280 - b - (65280 - b')) * (65280 - x - (65280 - a')) := by
    rw [← Int.mul_sub]; congr 1 <;> omega
  rw [e3] at k
  rw [show 65280 - a - (65280 - a') = a' - a by omega]
  omega

/-- The least tone with at least a value. -/
def isLeast (c : List (Int × Int)) (y x : Int) : Prop := 0 ≤ x ∧ x ≤ 65280 ∧ y ≤ raw c x ∧ (x = 0 ∨ raw c (x - 1) < y)
open Classical in
noncomputable def lst (c : List (Int × Int)) (y : Int) : Int := if h : ∃ x, isLeast c y x then h.choose else 0
theorem isLeast_uniq {c : List (Int × Int)} (v : Valid c) {y x x' : Int} (h : isLeast c y x) (h' : isLeast c y x') : x = x' := by
  obtain ⟨a1, a2, a3, a4⟩ := h
  obtain ⟨b1, b2, b3, b4⟩ := h'
  rcases Int.lt_trichotomy x x' with hl | hl | hl
  · have := raw_mono v (x := x) (y := x' - 1) ⟨a1, a2⟩ (by omega) (by omega); omega
  · exact hl
  · have := raw_mono v (x := x') (y := x - 1) ⟨b1, b2⟩ (by omega) (by omega); omega
theorem lst_eq {c : List (Int × Int)} (v : Valid c) {y x : Int} (h : isLeast c y x) : lst c y = x := by
  have hx : ∃ x, isLeast c y x := ⟨x, h⟩
  unfold lst
  rw [dif_pos hx]
  exact isLeast_uniq v hx.choose_spec h
theorem least_f (c : List (Int × Int)) (y : Int) (v : Valid c) (hy : Due (y ≤ (c.getD (c.length - 1) (0, 0)).2)) : TC R Try.prog curve_least_f [.agg [.lst E2i c], .int .i64 y] [] (fun w X => w = .int .i64 (lst c y) ∧ X = []) :=
  (least_c c y v hy).mono fun w X ⟨x, hx, hw, hX⟩ => ⟨by rw [hw, lst_eq v hx], hX⟩
theorem lst_is {c : List (Int × Int)} (v : Valid c) {y : Int} (hy : y ≤ (c.getD (c.length - 1) (0, 0)).2) : isLeast c y (lst c y) := by
  have ex : ∃ x, isLeast c y x := by
    have : ∀ n : Nat, n ≤ 65280 → y ≤ raw c n → ∃ x, isLeast c y x := by
      intro n
      induction n with
      | zero => intro _ h; exact ⟨0, by omega, by omega, by simpa using h, .inl rfl⟩
      | succ n ih =>
        intro hn h
        rcases Int.lt_or_le (raw c n) y with hl | hl
        · exact ⟨(n : Int) + 1, by omega, by omega, by simpa using h, .inr (by rw [show (n : Int) + 1 - 1 = n by omega]; exact hl)⟩
        · exact ih (by omega) hl
    exact this 65280 (by omega) (by have := raw_last v; show y ≤ raw c 65280; omega)
  unfold lst
  rw [dif_pos ex]
  exact ex.choose_spec
end Go.Proofs.Ytfgaefpdccdfiaa
