/- A curve that is flipped, and one that is calibrated: plain laws. -/
import Derived.Test.YtagfanbodglplaaCurve3
import Derived.Test.YtagfanbodglplaaSheet3
namespace Go.Proofs.Ytagfanbodglplaa
open Go Go.Lite
set_option linter.unusedVariables false
set_option linter.unusedSimpArgs false
set_option maxRecDepth 100000
set_option maxHeartbeats 4000000
-- @simp rd2i

theorem scan_valid {c : List (Int × Int)} (v : Valid c) : ∀ n i, c.length - i = n → scan c i = 0 := by
  intro n
  induction n with
  | zero =>
    intro i h
    have h1 := v.first
    have h2 := v.last
    rw [scan, dif_neg (by omega), if_neg (by omega)]
  | succ n ih =>
    intro i h
    have hr := v.rg i (by omega)
    rw [scan, dif_pos (by omega), if_neg (by omega), if_neg, ih (i + 1) (by omega)]
    rintro ⟨h0, h1⟩
    have := v.ord (i - 1) (by omega)
    rw [show i - 1 + 1 = i by omega] at this
    omega
theorem check_valid {c : List (Int × Int)} (v : Valid c) : check c = 0 := by
  have := v.len
  rw [check, if_neg (by omega), if_neg (by omega), scan_valid v _ _ rfl]

/-- A value, by any part that holds x. -/
theorem raw_at {c : List (Int × Int)} (v : Valid c) {x : Int} {i : Nat} (hi : i + 1 < c.length) (h : (c.getD i (0, 0)).1 ≤ x ∧ x ≤ (c.getD (i + 1) (0, 0)).1) : raw c x = rawAt c x i := by
  have ho := v.ord i hi
  by_cases e : i = c.length - 2 ∨ x < (c.getD (i + 1) (0, 0)).1
  · unfold raw
    rw [seg_is v h.1 _ (by omega) (by omega) e]
  · have hx : x = (c.getD (i + 1) (0, 0)).1 := by omega
    have ho2 := v.ord (i + 1) (by omega)
    unfold raw
    rw [seg_is v (i := i + 1) (by omega) _ (by omega) (by omega) (by omega)]
    unfold rawAt
    rw [hx, Int.sub_self, Int.mul_zero, near_zero (by omega), near_full (by omega)]
    omega

/-- The least tone with at least a value. -/
def isLeast (c : List (Int × Int)) (y x : Int) : Prop := 0 ≤ x ∧ x ≤ 65280 ∧ y ≤ raw c x ∧ (x = 0 ∨ raw c (x - 1) < y)
open Classical in
noncomputable def lst (c : List (Int × Int)) (y : Int) : Int := if h : ∃ x, isLeast c y x then h.choose else 0
theorem isLeast_uniq {c : List (Int × Int)} (v : Valid c) {y x x' : Int} (h : isLeast c y x) (h' : isLeast c y x') : x = x' := by
  obtain ⟨a1, a2, a3, a4⟩ := h
  obtain ⟨b1, b2, b3, b4⟩ := h'
  rcases Int.lt_trichotomy x x' with hl | hl | hl
  · have := raw_mono v (x := x) (y := x' - 1) ⟨a1, a2⟩ (by omega) (by omega); omega
  · exact hl
  · have := raw_mono v (x := x') (y := x - 1) ⟨b1, b2⟩ (by omega) (by omega); omega
theorem lst_eq {c : List (Int × Int)} (v : Valid c) {y x : Int} (h : isLeast c y x) : lst c y = x := by
  have hx : ∃ x, isLeast c y x := ⟨x, h⟩
  unfold lst
  rw [dif_pos hx]
  exact isLeast_uniq v hx.choose_spec h
theorem least_f (c : List (Int × Int)) (y : Int) (v : Valid c) (hy : Due (y ≤ (c.getD (c.length - 1) (0, 0)).2)) : TC R Try.prog curve_least_f [.agg [.lst E2i c], .int .i64 y] [] (fun w X => w = .int .i64 (lst c y) ∧ X = []) :=
  (least_c c y v hy).mono fun w X ⟨x, hx, hw, hX⟩ => ⟨by rw [hw, lst_eq v hx], hX⟩
theorem lst_is {c : List (Int × Int)} (v : Valid c) {y : Int} (hy : y ≤ (c.getD (c.length - 1) (0, 0)).2) : isLeast c y (lst c y) := by
  have ex : ∃ x, isLeast c y x := by
    have : ∀ n : Nat, n ≤ 65280 → y ≤ raw c n → ∃ x, isLeast c y x := by
      intro n
      induction n with
      | zero => intro _ h; exact ⟨0, by omega, by omega, by simpa using h, .inl rfl⟩
      | succ n ih =>
        intro hn h
        rcases Int.lt_or_le (raw c n) y with hl | hl
        · exact ⟨(n : Int) + 1, by omega, by omega, by simpa using h, .inr (by rw [show (n : Int) + 1 - 1 = n by omega]; exact hl)⟩
        · exact ih (by omega) hl
    exact this 65280 (by omega) (by have := raw_last v; show y ≤ raw c 65280; omega)
  unfold lst
  rw [dif_pos ex]
  exact ex.choose_spec
end Go.Proofs.Ytagfanbodglplaa
