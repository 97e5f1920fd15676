/- A curve that is flipped, and one that is calibrated: plain laws. -/
import Derived.Test.YtkapjajlkpepmaaPrfM
import Derived.Test.YtkapjajlkpepmaaGrid1
namespace Go.Proofs.Ytkapjajlkpepmaa
open Go Go.Lite
set_option linter.unusedVariables false
set_option linter.unusedSimpArgs false
set_option maxRecDepth 100000
set_option maxHeartbeats 4000000
-- @simp rd2i

def comp (p : Int × Int) : Int × Int := (65280 - p.1, 65280 - p.2)
theorem scan_valid {c : List (Int × Int)} (v : Valid c) : ∀ n i, c.length - i = n → scan c i = 0 := by
  intro n
  induction n with
  | zero =>
    intro i h
    have h1 := v.first
    have h2 := v.last
    rw [scan, dif_neg (by omega), if_neg (by omega)]
  | succ n ih =>
    intro i h
    have hr := v.rg i (by omega)
    rw [scan, dif_pos (by omega), if_neg (by omega), if_neg, ih (i + 1) (by omega)]
    rintro ⟨h0, h1⟩
    have := v.ord (i - 1) (by omega)
    rw [show i - 1 + 1 = i by omega] at this
    omega
theorem check_valid {c : List (Int × Int)} (v : Valid c) : check c = 0 := by
  have := v.len
  rw [check, if_neg (by omega), if_neg (by omega), scan_valid v _ _ rfl]

/-- The least tone with at least a value. -/
def isLeast (c : List (Int × Int)) (y x : Int) : Prop := 0 ≤ x ∧ x ≤ 65280 ∧ y ≤ raw c x ∧ (x = 0 ∨ raw c (x - 1) < y)
open Classical in
noncomputable def lst (c : List (Int × Int)) (y : Int) : Int := if h : ∃ x, isLeast c y x then h.choose else 0
end Go.Proofs.Ytkapjajlkpepmaa
