/- Runs of a row: plain laws. -/
import Derived.Test.YtanhalcbghbpaaaBm
namespace Go.Proofs.Ytanhalcbghbpaaa
open Go Go.Lite
set_option linter.unusedVariables false
set_option linter.unusedSimpArgs false
set_option maxRecDepth 100000
set_option maxHeartbeats 4000000

def enF (p : Nat → Bool) (w : Nat) : Nat → Nat → Nat
  | 0, x => x
  | k + 1, x => if x < w ∧ p x = true then enF p w k (x + 1) else x
/-- The end of the run that begins at x. -/
def en (p : Nat → Bool) (w x : Nat) : Nat := enF p w (w - x) x
theorem en_step {p : Nat → Bool} {w x : Nat} (h : x < w) (hp : p x = true) : en p w x = en p w (x + 1) := by
  unfold en
  obtain ⟨k, hk⟩ : ∃ k, w - x = k + 1 := ⟨w - x - 1, by omega⟩
  rw [hk, show w - (x + 1) = k by omega]
  simp only [enF]
  rw [if_pos ⟨h, hp⟩]
theorem en_stop {p : Nat → Bool} {w x : Nat} (h : ¬ (x < w ∧ p x = true)) : en p w x = x := by
  unfold en
  cases w - x with
  | zero => rfl
  | succ k => simp only [enF]; rw [if_neg h]
theorem en_spec {p : Nat → Bool} {w : Nat} : ∀ {k x : Nat}, w - x = k → x ≤ w → x ≤ en p w x ∧ en p w x ≤ w ∧ (∀ i, x ≤ i → i < en p w x → p i = true) ∧ (en p w x < w → p (en p w x) = false) := by
  intro k
  induction k with
  | zero =>
    intro x hk hx
    rw [en_stop (by omega)]
    exact ⟨by omega, hx, fun i h1 h2 => by omega, fun h => by omega⟩
  | succ k ih =>
    intro x hk hx
    by_cases hp : p x = true
    · rw [en_step (by omega) hp]
      obtain ⟨h1, h2, h3, h4⟩ := ih (x := x + 1) (by omega) (by omega)
      refine ⟨by omega, h2, fun i hi hi2 => ?_, h4⟩
      rcases Nat.lt_or_ge x i with h | h
      · exact h3 i (by omega) hi2
      · obtain rfl : i = x := by omega
        exact hp
    · rw [en_stop (fun h => hp h.2)]
      exact ⟨by omega, hx, fun i h1 h2 => by omega, fun _ => by simpa using hp⟩

def rrF (p : Nat → Bool) (w : Nat) : Nat → Nat → List (Nat × Nat)
  | 0, _ => []
  | k + 1, x => if x < w then (if p x then (x, en p w (x + 1)) :: rrF p w k (en p w (x + 1)) else rrF p w k (x + 1)) else []
/-- The runs of a row from x on. -/
def rr (p : Nat → Bool) (w x : Nat) : List (Nat × Nat) := rrF p w (w - x) x
theorem rrF_out {p : Nat → Bool} {w x : Nat} (h : w ≤ x) : ∀ k, rrF p w k x = []
  | 0 => rfl
  | k + 1 => by simp only [rrF]; rw [if_neg (by omega)]
theorem rrF_fuel {p : Nat → Bool} {w : Nat} : ∀ (k x : Nat), w - x ≤ k → rrF p w k x = rr p w x := by
  intro k
  induction k using Nat.strongRecOn with
  | _ k ih =>
    intro x hk
    rcases Nat.lt_or_ge x w with hx | hx
    · obtain ⟨j, rfl⟩ : ∃ j, k = j + 1 := ⟨k - 1, by omega⟩
      obtain ⟨m, hm⟩ : ∃ m, w - x = m + 1 := ⟨w - x - 1, by omega⟩
      unfold rr
      rw [hm]
      simp only [rrF]
      rw [if_pos hx, if_pos hx]
      have he := (en_spec (p := p) (w := w) (x := x + 1) rfl (by omega)).1
      by_cases hp : p x = true
      · rw [if_pos hp, if_pos hp, ih j (by omega) _ (by omega)]
        rcases Nat.lt_or_ge m (j + 1) with h | h
        · rw [ih m (by omega) _ (by omega)]
        · omega
      · rw [if_neg hp, if_neg hp, ih j (by omega) _ (by omega), ih m (by omega) _ (by omega)]
    · rw [rrF_out hx]; unfold rr; rw [rrF_out hx]
theorem rr_out {p : Nat → Bool} {w x : Nat} (h : w ≤ x) : rr p w x = [] := rrF_out h _
theorem rr_no {p : Nat → Bool} {w x : Nat} (h : x < w) (hp : p x = false) : rr p w x = rr p w (x + 1) := by
  obtain ⟨k, hk⟩ : ∃ k, w - x = k + 1 := ⟨w - x - 1, by omega⟩
  conv => lhs; unfold rr; rw [hk]; simp only [rrF]; rw [if_pos h, if_neg (by rw [hp]; simp)]
  exact rrF_fuel _ _ (by omega)
theorem rr_yes {p : Nat → Bool} {w x : Nat} (h : x < w) (hp : p x = true) : rr p w x = (x, en p w (x + 1)) :: rr p w (en p w (x + 1)) := by
  obtain ⟨k, hk⟩ : ∃ k, w - x = k + 1 := ⟨w - x - 1, by omega⟩
  have he := (en_spec (p := p) (w := w) (x := x + 1) rfl (by omega)).1
  conv => lhs; unfold rr; rw [hk]; simp only [rrF]; rw [if_pos h, if_pos hp]
  rw [rrF_fuel _ _ (by omega)]
theorem rr_len {p : Nat → Bool} {w : Nat} : ∀ (k x : Nat), w - x ≤ k → (rr p w x).length ≤ w - x := by
  intro k
  induction k with
  | zero => intro x h; rw [rr_out (by omega)]; simp
  | succ k ih =>
    intro x h
    rcases Nat.lt_or_ge x w with hx | hx
    · by_cases hp : p x = true
      · have he := (en_spec (p := p) (w := w) (x := x + 1) rfl (by omega)).1
        rw [rr_yes hx hp]
        have := ih (en p w (x + 1)) (by omega)
        simp only [List.length_cons]; omega
      · rw [rr_no hx (by simpa using hp)]
        have := ih (x + 1) (by omega)
        omega
    · rw [rr_out hx]; simp

def row3 (p : Nat → Bool) (w y x : Nat) : List (Int × Int × Int) := (rr p w x).map fun q => ((y : Int), (q.1 : Int), (q.2 : Int))
theorem row3_out {p : Nat → Bool} {w y x : Nat} (h : w ≤ x) : row3 p w y x = [] := by unfold row3; rw [rr_out h]; rfl
theorem row3_no {p : Nat → Bool} {w y x : Nat} (h : x < w) (hp : p x = false) : row3 p w y x = row3 p w y (x + 1) := by unfold row3; rw [rr_no h hp]
theorem row3_yes {p : Nat → Bool} {w y x : Nat} (h : x < w) (hp : p x = true) : row3 p w y x = ((y : Int), (x : Int), (en p w (x + 1) : Int)) :: row3 p w y (en p w (x + 1)) := by unfold row3; rw [rr_yes h hp]; rfl
theorem row3_len {p : Nat → Bool} {w y x : Nat} : (row3 p w y x).length ≤ w - x := by unfold row3; simpa using rr_len (p := p) (w := w) _ x (Nat.le_refl _)
/-- The runs of the rows below y. -/
def runsTo (p : Nat → Nat → Bool) (w : Nat) : Nat → List (Int × Int × Int)
  | 0 => []
  | y + 1 => runsTo p w y ++ row3 (fun x => p x y) w y 0
theorem runsTo_len {p : Nat → Nat → Bool} {w : Nat} : ∀ y, (runsTo p w y).length ≤ y * w
  | 0 => by simp [runsTo]
  | y + 1 => by
    have h1 := runsTo_len (p := p) (w := w) y
    have h2 := row3_len (p := fun x => p x y) (w := w) (y := y) (x := 0)
    simp only [runsTo, List.length_append]
    rw [Nat.add_mul]; omega
end Go.Proofs.Ytanhalcbghbpaaa
