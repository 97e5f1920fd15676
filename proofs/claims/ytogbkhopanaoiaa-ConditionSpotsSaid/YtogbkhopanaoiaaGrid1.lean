/- Grids: the place of a node; interpolation. -/
import Derived.Test.YtogbkhopanaoiaaGridM
import Derived.Test.YtogbkhopanaoiaaNear
import Derived.Test.YtogbkhopanaoiaaXConditionSpots0
import Derived.Test.YtogbkhopanaoiaaGo
namespace Go.Proofs.Ytogbkhopanaoiaa
open Go Go.Lite
set_option linter.unusedVariables false
set_option linter.unusedSimpArgs false
set_option maxRecDepth 100000
set_option maxHeartbeats 4000000
-- @simp rdi

theorem TWk.re {N : Dim} {F : TF A} {H H' : TH A} (h : embH R H' = embH R H) : TWk R N F H' F H := by unfold TWk; rw [h]; exact Wk.refl _ _
/-- The axes that are sorted: k of them, by decreasing parts. -/
structure Srt (p : Nat → Nat) (k : Nat) (ax : Nat → Nat) : Prop where
  lt : ∀ i, i < k → ax i < k
  inj : ∀ i j, i < j → j < k → ax i ≠ ax j
  ord : ∀ i j, i < j → j < k → p (ax j) ≤ p (ax i)
  all : ∀ i, i < k → ∃ j, j < k ∧ ax j = i
/-- The axes while k is brought to its place, which is not behind j. -/
structure Sft (p : Nat → Nat) (k : Nat) (ax : Nat → Nat) (j : Nat) (h : Nat → Nat) : Prop where
  j1 : j ≤ k
  lo : ∀ i, i < j → h i = ax i
  hi : ∀ i, j < i → i ≤ k → h i = ax (i - 1)
  less : ∀ i, j ≤ i → i < k → p (ax i) < p k
theorem Sft.step {p : Nat → Nat} {k j : Nat} {ax h : Nat → Nat} (s : Sft p k ax (j + 1) h) (hp : p (ax j) < p k) : Sft p k ax j (fun i => if i = j + 1 then h j else h i) := by
  obtain ⟨s1, s2, s3, s4⟩ := s
  refine ⟨by omega, fun i hi => ?_, fun i h1 h2 => ?_, fun i h1 h2 => ?_⟩
  · rw [if_neg (by omega)]; exact s2 i (by omega)
  · by_cases e : i = j + 1
    · subst e; rw [if_pos rfl]; exact s2 j (by omega)
    · rw [if_neg e]; exact s3 i (by omega) h2
  · by_cases e : i = j
    · subst e; exact hp
    · exact s4 i (by omega) h2
theorem Sft.done {p : Nat → Nat} {k j : Nat} {ax h : Nat → Nat} (t : Srt p k ax) (s : Sft p k ax j h) (hp : j = 0 ∨ p k ≤ p (ax (j - 1))) : Srt p (k + 1) (fun i => if i = j then k else h i) := by
  obtain ⟨s1, s2, s3, s4⟩ := s
  obtain ⟨t1, t2, t3, t4⟩ := t
  have val : ∀ i, i ≠ j → i ≤ k → ∃ m, m < k ∧ h i = ax m ∧ (i < j → m = i) ∧ (j < i → m = i - 1) := fun i hi hk => by
    rcases Nat.lt_or_ge i j with h1 | h1
    · exact ⟨i, by omega, s2 i h1, fun _ => rfl, fun h => by omega⟩
    · exact ⟨i - 1, by omega, s3 i (by omega) hk, fun h => by omega, fun _ => rfl⟩
  refine ⟨fun i hi => ?_, fun a b hab hb => ?_, fun a b hab hb => ?_, fun i hi => ?_⟩
  · by_cases e : i = j
    · rw [if_pos e]; omega
    · rw [if_neg e]
      obtain ⟨m, m1, m2, _⟩ := val i e (by omega)
      rw [m2]; have := t1 m m1; omega
  · by_cases ea : a = j
    · rw [if_pos ea, if_neg (by omega)]
      obtain ⟨m, m1, m2, _⟩ := val b (by omega) (by omega)
      rw [m2]; have := t1 m m1; omega
    · obtain ⟨m, m1, m2, m3, m4⟩ := val a ea (by omega)
      rw [if_neg ea, m2]
      by_cases eb : b = j
      · rw [if_pos eb]; have := t1 m m1; omega
      · obtain ⟨n, n1, n2, n3, n4⟩ := val b eb (by omega)
        rw [if_neg eb, n2]
        refine t2 m n ?_ n1
        rcases Nat.lt_or_ge a j with h1 | h1 <;> rcases Nat.lt_or_ge b j with h2 | h2
        · rw [m3 h1, n3 h2]; omega
        · rw [m3 h1, n4 (by omega)]; omega
        · omega
        · rw [m4 (by omega), n4 (by omega)]; omega
  · by_cases ea : a = j
    · rw [if_pos ea, if_neg (by omega)]
      obtain ⟨m, m1, m2, m3, m4⟩ := val b (by omega) (by omega)
      rw [m2, m4 (by omega)]
      exact Nat.le_of_lt (s4 _ (by omega) (by omega))
    · obtain ⟨m, m1, m2, m3, m4⟩ := val a ea (by omega)
      rw [if_neg ea, m2]
      by_cases eb : b = j
      · rw [if_pos eb, m3 (by omega)]
        rcases hp with hp | hp
        · omega
        · by_cases e : a = j - 1
          · rw [e]; exact hp
          · exact Nat.le_trans hp (t3 a (j - 1) (by omega) (by omega))
      · obtain ⟨n, n1, n2, n3, n4⟩ := val b eb (by omega)
        rw [if_neg eb, n2]
        refine t3 m n ?_ n1
        rcases Nat.lt_or_ge a j with h1 | h1 <;> rcases Nat.lt_or_ge b j with h2 | h2
        · rw [m3 h1, n3 h2]; omega
        · rw [m3 h1, n4 (by omega)]; omega
        · omega
        · rw [m4 (by omega), n4 (by omega)]; omega
  · by_cases e : i = k
    · exact ⟨j, by omega, by rw [if_pos rfl, e]⟩
    · obtain ⟨m, m1, m2⟩ := t4 i (by omega)
      rcases Nat.lt_or_ge m j with h | h
      · exact ⟨m, by omega, by rw [if_neg (by omega), s2 m h, m2]⟩
      · exact ⟨m + 1, by omega, by rw [if_neg (by omega), s3 (m + 1) (by omega) (by omega)]; exact m2⟩
/-- The cell, moved along the first j axes. -/
def cj (q ax : Nat → Nat) (j i : Nat) : Nat := q i + if ∃ j', j' < j ∧ ax j' = i then 1 else 0
end Go.Proofs.Ytogbkhopanaoiaa
