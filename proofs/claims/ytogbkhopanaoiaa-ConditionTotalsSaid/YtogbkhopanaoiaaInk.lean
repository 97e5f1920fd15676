/- Limits of ink: plain laws. -/
import Derived.Test.YtogbkhopanaoiaaGrid1
import Derived.Test.YtogbkhopanaoiaaTones
namespace Go.Proofs.Ytogbkhopanaoiaa
open Go Go.Lite
set_option linter.unusedVariables false
set_option linter.unusedSimpArgs false
set_option maxRecDepth 100000
set_option maxHeartbeats 4000000
-- @simp rdi

def sumL (l : List Int) : Int := sumN (fun i => l.getD i 0) l.length
theorem sumL_bd {l : List Int} (h : inTone l) (hl : l.length ≤ 8) : 0 ≤ sumL l ∧ sumL l ≤ 2040 := by
  have := sumN_bd (f := fun i => l.getD i 0) (k := 255) (n := l.length) fun i hi => h i hi
  unfold sumL; omega
theorem sumN_div {f : Nat → Int} {K D : Int} (hD : 0 < D) : ∀ {n : Nat}, D * sumN (fun i => f i * K / D) n ≤ sumN f n * K := by
  intro n
  induction n with
  | zero => simp [sumN]
  | succ n ih =>
    simp only [sumN]
    rw [Int.mul_add, Int.add_mul]
    have := Int.mul_ediv_self_le (x := f n * K) (k := D) (by omega)
    omega

/-- The tone of black that is kept, and the amount that is shared. -/
def keptI (t : List Int) (b T : Int) : Int := if 0 ≤ b then min (t.getD b.toNat 0) T else 0
def restI (t : List Int) (b : Int) : Int := if 0 ≤ b then sumL t - t.getD b.toNat 0 else sumL t
def cutI (t : List Int) (b T : Int) (i : Nat) : Int := if (i : Int) = b then keptI t b T else if 0 < restI t b then t.getD i 0 * (T - keptI t b T) / restI t b else 0
def quickL (t : List Int) (b T : Int) : List Int := if sumL t ≤ T then t else tab t.length (cutI t b T)
theorem quickL_len (t : List Int) (b T : Int) : (quickL t b T).length = t.length := by unfold quickL; split <;> simp [tab_len]
theorem quickL_get {t : List Int} {b T : Int} {i : Nat} (h : i < t.length) : (quickL t b T).getD i 0 = if sumL t ≤ T then t.getD i 0 else cutI t b T i := by
  unfold quickL; split
  · rfl
  · exact tab_get h

structure InkOk (t : List Int) (b T : Int) : Prop where
  tone : inTone t
  black : -1 ≤ b ∧ b < t.length
  total : 0 ≤ T ∧ T ≤ 2040

theorem rest_eq {t : List Int} {b T : Int} (h : InkOk t b T) : restI t b = sumN (fun i => if (i : Int) = b then 0 else t.getD i 0) t.length := by
  unfold restI
  have hb := h.black
  split
  · obtain ⟨k, rfl⟩ : ∃ k : Nat, b = k := ⟨b.toNat, by omega⟩
    have := sumN_one (f := fun i => t.getD i 0) (b := k) (n := t.length) (by omega)
    unfold sumL
    rw [this]
    simp only [Int.toNat_natCast, Int.ofNat_inj]; omega
  · unfold sumL
    exact sumN_congr fun i hi => (if_neg (by omega)).symm
theorem kept_bd {t : List Int} {b T : Int} (h : InkOk t b T) : 0 ≤ keptI t b T ∧ keptI t b T ≤ T := by
  have hb := h.black; have ht := h.total
  unfold keptI
  split
  · have := h.tone b.toNat (by omega); omega
  · omega
theorem rest_nn {t : List Int} {b T : Int} (h : InkOk t b T) : 0 ≤ restI t b := by
  rw [rest_eq h]
  exact sumN_nonneg fun i hi => by
    have := h.tone i hi
    split <;> omega
/-- What is shared is no more than there was. -/
theorem share_le {t : List Int} {b T : Int} (h : InkOk t b T) (hs : T < sumL t) : T - keptI t b T ≤ restI t b := by
  have hn := rest_nn h
  unfold keptI restI at *
  have hb := h.black
  split
  · have := h.tone b.toNat (by omega)
    rename_i h0
    rw [if_pos h0] at hn
    omega
  · omega
theorem cutI_bd {t : List Int} {b T : Int} (h : InkOk t b T) (hs : T < sumL t) {i : Nat} (hi : i < t.length) : 0 ≤ cutI t b T i ∧ cutI t b T i ≤ t.getD i 0 := by
  have hk := kept_bd h
  have hh := share_le h hs
  have hv := h.tone i hi
  unfold cutI
  split
  · rename_i e
    refine ⟨hk.1, ?_⟩
    unfold keptI
    rw [if_pos (by omega), ← e, Int.toNat_natCast]; omega
  · split
    · rename_i h0
      refine ⟨Int.ediv_nonneg (Int.mul_nonneg hv.1 (by omega)) (by omega), ?_⟩
      have : t.getD i 0 * (T - keptI t b T) ≤ t.getD i 0 * restI t b := Int.mul_le_mul_of_nonneg_left hh hv.1
      have := Int.ediv_le_ediv h0 this
      rwa [Int.mul_ediv_cancel _ (by omega)] at this
    · omega
theorem quickL_bd {t : List Int} {b T : Int} (h : InkOk t b T) {i : Nat} (hi : i < t.length) : 0 ≤ (quickL t b T).getD i 0 ∧ (quickL t b T).getD i 0 ≤ t.getD i 0 := by
  rw [quickL_get hi]
  split
  · exact ⟨(h.tone i hi).1, Int.le_refl _⟩
  · exact cutI_bd h (by omega) hi
theorem quickL_tone {t : List Int} {b T : Int} (h : InkOk t b T) : inTone (quickL t b T) := fun i hi => by
  rw [quickL_len] at hi
  have := quickL_bd h hi
  have := h.tone i hi
  omega
theorem quickL_sum {t : List Int} {b T : Int} (h : InkOk t b T) : sumL (quickL t b T) ≤ T := by
  by_cases hs : sumL t ≤ T
  · unfold quickL; rw [if_pos hs]; exact hs
  · have e : sumL (quickL t b T) = sumN (cutI t b T) t.length := by
      unfold sumL
      rw [quickL_len]
      exact sumN_congr fun i hi => by rw [quickL_get hi, if_neg hs]
    rw [e]
    have hk := kept_bd h
    have hb := h.black
    -- without black
    have key : sumN (fun i => if (i : Int) = b then 0 else cutI t b T i) t.length ≤ T - keptI t b T := by
      by_cases h0 : 0 < restI t b
      · have e1 : sumN (fun i => if (i : Int) = b then 0 else cutI t b T i) t.length = sumN (fun i => (fun j : Nat => if (j : Int) = b then 0 else t.getD j 0) i * (T - keptI t b T) / restI t b) t.length := sumN_congr fun i hi => by
          dsimp only
          split
          · simp
          · rename_i e; unfold cutI; rw [if_neg e, if_pos h0]
        rw [e1]
        have := sumN_div (f := fun j : Nat => if (j : Int) = b then 0 else t.getD j 0) (K := T - keptI t b T) (D := restI t b) h0 (n := t.length)
        rw [← rest_eq h] at this
        exact Int.le_of_mul_le_mul_left this h0
      · rw [sumN_zero fun i hi => ?_]
        · omega
        · split
          · rfl
          · rename_i e; unfold cutI; rw [if_neg e, if_neg h0]
    by_cases h0 : 0 ≤ b
    · obtain ⟨k, rfl⟩ : ∃ k : Nat, b = k := ⟨b.toNat, by omega⟩
      rw [sumN_one (b := k) (by omega)]
      have e2 : cutI t k T k = keptI t k T := by unfold cutI; rw [if_pos rfl]
      simp only [Int.ofNat_inj] at key
      omega
    · have e3 : sumN (cutI t b T) t.length = sumN (fun i => if (i : Int) = b then 0 else cutI t b T i) t.length := sumN_congr fun i hi => (if_neg (by omega)).symm
      rw [e3]; omega
end Go.Proofs.Ytogbkhopanaoiaa
