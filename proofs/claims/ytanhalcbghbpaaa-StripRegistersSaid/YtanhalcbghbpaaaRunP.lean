/- Runs of a bitmap: they are in order, they cover its pixels, their lengths add up. -/
import Derived.Test.YtanhalcbghbpaaaRunM
import Derived.Test.YtanhalcbghbpaaaPop
namespace Go.Proofs.Ytanhalcbghbpaaa
open Go Go.Lite
set_option linter.unusedVariables false
set_option linter.unusedSimpArgs false
set_option maxRecDepth 100000
set_option maxHeartbeats 4000000

theorem rr_mem {p : Nat → Bool} {w : Nat} : ∀ (k x : Nat), w - x ≤ k → ∀ q ∈ rr p w x, x ≤ q.1 ∧ q.1 < q.2 ∧ q.2 ≤ w := by
  intro k
  induction k with
  | zero => intro x h q hq; rw [rr_out (by omega)] at hq; simp at hq
  | succ k ih =>
    intro x h q hq
    rcases Nat.lt_or_ge x w with hx | hx
    · by_cases hp : p x = true
      · obtain ⟨e1, e2, _⟩ := en_spec (p := p) (w := w) (x := x + 1) rfl (by omega)
        rw [rr_yes hx hp] at hq
        rcases List.mem_cons.1 hq with rfl | hq
        · exact ⟨Nat.le_refl _, by omega, e2⟩
        · have := ih _ (by omega) q hq; omega
      · rw [rr_no hx (by simpa using hp)] at hq
        have := ih _ (by omega) q hq; omega
    · rw [rr_out hx] at hq; simp at hq
theorem rr_pair {p : Nat → Bool} {w : Nat} : ∀ (k x : Nat), w - x ≤ k → (rr p w x).Pairwise fun q r => q.2 < r.1 := by
  intro k
  induction k with
  | zero => intro x h; rw [rr_out (by omega)]; exact .nil
  | succ k ih =>
    intro x h
    rcases Nat.lt_or_ge x w with hx | hx
    · by_cases hp : p x = true
      · obtain ⟨e1, e2, _, e4⟩ := en_spec (p := p) (w := w) (x := x + 1) rfl (by omega)
        rw [rr_yes hx hp]
        refine List.pairwise_cons.2 ⟨fun q hq => ?_, ih _ (by omega)⟩
        rcases Nat.lt_or_ge (en p w (x + 1)) w with he | he
        · rw [rr_no he (e4 he)] at hq
          have := rr_mem _ _ (Nat.le_refl _) q hq
          simp only; omega
        · rw [rr_out he] at hq; simp at hq
      · rw [rr_no hx (by simpa using hp)]
        exact ih _ (by omega)
    · rw [rr_out hx]; exact .nil
theorem rr_cov {p : Nat → Bool} {w : Nat} : ∀ (k x : Nat), w - x ≤ k → ∀ i, x ≤ i → i < w → (p i = true ↔ ∃ q ∈ rr p w x, q.1 ≤ i ∧ i < q.2) := by
  intro k
  induction k with
  | zero => intro x h i h1 h2; omega
  | succ k ih =>
    intro x h i h1 h2
    by_cases hp : p x = true
    · obtain ⟨e1, e2, e3, e4⟩ := en_spec (p := p) (w := w) (x := x + 1) rfl (by omega)
      rw [rr_yes (by omega) hp]
      rcases Nat.lt_or_ge i (en p w (x + 1)) with hi | hi
      · refine ⟨fun _ => ⟨_, List.mem_cons_self .., h1, hi⟩, fun _ => ?_⟩
        rcases Nat.lt_or_ge x i with h3 | h3
        · exact e3 i (by omega) hi
        · obtain rfl : i = x := by omega
          exact hp
      · rw [ih _ (by omega) i hi h2]
        constructor
        · rintro ⟨q, hq, hq2⟩; exact ⟨q, List.mem_cons_of_mem _ hq, hq2⟩
        · rintro ⟨q, hq, hq2⟩
          rcases List.mem_cons.1 hq with rfl | hq
          · simp only at hq2; omega
          · exact ⟨q, hq, hq2⟩
    · rw [rr_no (by omega) (by simpa using hp)]
      rcases Nat.lt_or_ge x i with h3 | h3
      · exact ih _ (by omega) i h3 h2
      · obtain rfl : i = x := by omega
        refine ⟨fun h => absurd h hp, ?_⟩
        rintro ⟨q, hq, hq2⟩
        have := rr_mem _ _ (Nat.le_refl _) q hq
        omega
abbrev R3 := Int × Int × Int
/-- A run as it must be. -/
def runOk (w k : Nat) (t : R3) : Prop := ∃ y a b : Nat, t = ((y : Int), (a : Int), (b : Int)) ∧ y < k ∧ a < b ∧ b ≤ w
def ordR (s t : R3) : Prop := s.1 < t.1 ∨ (s.1 = t.1 ∧ s.2.2 < t.2.1)
theorem row3_ok {p : Nat → Bool} {w y : Nat} : ∀ t ∈ row3 p w y 0, runOk w (y + 1) t ∧ t.1 = y := by
  intro t ht
  unfold row3 at ht
  obtain ⟨q, hq, rfl⟩ := List.mem_map.1 ht
  have := rr_mem _ _ (Nat.le_refl _) q hq
  exact ⟨⟨y, q.1, q.2, rfl, by omega, this.2.1, this.2.2⟩, rfl⟩
theorem runsTo_ok {p : Nat → Nat → Bool} {w : Nat} : ∀ y, ∀ t ∈ runsTo p w y, runOk w y t
  | 0, t, h => by simp [runsTo] at h
  | y + 1, t, h => by
    simp only [runsTo] at h
    rcases List.mem_append.1 h with h | h
    · obtain ⟨y', a, b, e, h1, h2⟩ := runsTo_ok y t h
      exact ⟨y', a, b, e, by omega, h2⟩
    · exact (row3_ok t h).1
theorem runsTo_pair {p : Nat → Nat → Bool} {w : Nat} : ∀ y, (runsTo p w y).Pairwise ordR
  | 0 => .nil
  | y + 1 => by
    simp only [runsTo]
    refine List.pairwise_append.2 ⟨runsTo_pair y, ?_, fun s hs t ht => ?_⟩
    · unfold row3
      refine List.pairwise_map.2 ((rr_pair _ _ (Nat.le_refl _)).imp fun {q r} h => .inr ⟨rfl, ?_⟩)
      simp only; omega
    · obtain ⟨y', a, b, rfl, h1, _⟩ := runsTo_ok y s hs
      have := (row3_ok t ht).2
      left
      simp only; omega
theorem runsTo_cov {p : Nat → Nat → Bool} {w : Nat} : ∀ (k x y : Nat), x < w → y < k → (p x y = true ↔ ∃ t ∈ runsTo p w k, t.1 = y ∧ t.2.1 ≤ x ∧ (x : Int) < t.2.2)
  | 0, x, y, _, h => by omega
  | k + 1, x, y, hx, hy => by
    simp only [runsTo, List.mem_append]
    by_cases e : y = k
    · subst e
      have hcov : p x y = true ↔ _ := rr_cov (p := fun x => p x y) (w := w) _ 0 (Nat.le_refl _) x (by omega) hx
      rw [hcov]
      constructor
      · rintro ⟨q, hq, h1, h2⟩
        refine ⟨((y : Int), (q.1 : Int), (q.2 : Int)), .inr ?_, rfl, by simp only; omega, by simp only; omega⟩
        unfold row3
        exact List.mem_map.2 ⟨q, hq, rfl⟩
      · rintro ⟨t, ht | ht, h1, h2, h3⟩
        · obtain ⟨y', a, b, rfl, h4, _⟩ := runsTo_ok y t ht
          simp only at h1; omega
        · unfold row3 at ht
          obtain ⟨q, hq, rfl⟩ := List.mem_map.1 ht
          simp only at h2 h3
          exact ⟨q, hq, by omega, by omega⟩
    · rw [runsTo_cov k x y hx (by omega)]
      constructor
      · rintro ⟨t, ht, h⟩; exact ⟨t, .inl ht, h⟩
      · rintro ⟨t, ht | ht, h1, h2⟩
        · exact ⟨t, ht, h1, h2⟩
        · have := (row3_ok t ht).2
          rw [this] at h1; omega
end Go.Proofs.Ytanhalcbghbpaaa
