/- Range coder: the bits of one context take few bytes (plain). -/
import Derived.Test.YthnfbdihihhoiaaRc7
namespace Go.Proofs.Ythnfbdihihhoiaa
open Go Go.Lite
set_option linter.unusedVariables false
set_option linter.unusedSimpArgs false
set_option maxRecDepth 100000
set_option maxHeartbeats 4000000

def fac : Nat → Nat
  | 0 => 1
  | n + 1 => (n + 1) * fac n
theorem fac_pos : ∀ n, 0 < fac n
  | 0 => Nat.one_pos
  | n + 1 => Nat.mul_pos (Nat.succ_pos n) (fac_pos n)
/-- The ones among the first k bits. -/
def onesN (bi : Nat → Nat) : Nat → Nat
  | 0 => 0
  | k + 1 => onesN bi k + bi k
theorem onesN_le {bi : Nat → Nat} : ∀ {k : Nat}, (∀ j, j < k → bi j ≤ 1) → onesN bi k ≤ k
  | 0, _ => Nat.le_refl _
  | k + 1, h => by simp only [onesN]; have := onesN_le fun j (hj : j < k) => h j (by omega); have := h k (by omega); omega

/-- One step, in whole numbers. -/
theorem zero_step {w w' k z : Nat} (hk : k + 1 ≤ 60) (hw : 16777216 ≤ w) (hz : z ≤ k) (e : w' = w / (k + 2) * (z + 1)) : w * 16777156 * (z + 1) ≤ w' * (k + 2) * 16777216 := by
  have h1 : w ≤ w / (k + 2) * (k + 2) + (k + 1) := by
    have := Nat.div_add_mod w (k + 2)
    have := Nat.mod_lt w (show 0 < k + 2 by omega)
    rw [Nat.mul_comm]; omega
  have h2 : w * 16777156 ≤ (w / (k + 2) * (k + 2)) * 16777216 := by omega
  have h3 := Nat.mul_le_mul_right (z + 1) h2
  rw [e]
  generalize w / (k + 2) = q at *
  calc w * 16777156 * (z + 1) ≤ q * (k + 2) * 16777216 * (z + 1) := h3
    _ = q * (z + 1) * (k + 2) * 16777216 := by grind
theorem one_step {w w' k z o : Nat} (ho : z + o = k) (hw : w' + w / (k + 2) * (z + 1) = w) : w * 16777156 * (o + 1) ≤ w' * (k + 2) * 16777216 := by
  have h1 : w / (k + 2) * (k + 2) ≤ w := Nat.div_mul_le_self w (k + 2)
  generalize w / (k + 2) = q at *
  subst ho
  have h2 : w * (o + 1) ≤ w' * (z + o + 2) := by
    have e1 : w * (z + o + 2) = w' * (z + o + 2) + q * (z + o + 2) * (z + 1) := by rw [← hw]; grind
    have e2 := Nat.mul_le_mul_right (z + 1) h1
    have e3 : w * (z + o + 2) = w * (o + 1) + w * (z + 1) := by grind
    omega
  calc w * 16777156 * (o + 1) = w * (o + 1) * 16777156 := by grind
    _ ≤ w' * (z + o + 2) * 16777156 := Nat.mul_le_mul_right _ h2
    _ ≤ w' * (z + o + 2) * 16777216 := Nat.mul_le_mul_left _ (by decide)

/-- The state behind k bits: the counts, and how much of the interval is left. -/
theorem short_inv {bi : Nat → Nat} : ∀ {k : Nat}, k ≤ 60 → (∀ j, j < k → bi j ≤ 1) →
    (eRun 1 (fun _ => 0) bi k).cs = [(((k - onesN bi k : Nat) : Int), (k : Int))] ∧ ∃ W : Nat, (eRun 1 (fun _ => 0) bi k).w = W ∧
      256 ^ (eRun 1 (fun _ => 0) bi k).n * (4294967295 * 16777156 ^ k * (fac (k - onesN bi k) * fac (onesN bi k))) ≤ W * (fac (k + 1) * 16777216 ^ k)
  | 0, _, _ => ⟨rfl, 4294967295, rfl, by simp [eRun, onesN, fac]⟩
  | k + 1, hk, hb => by
    obtain ⟨i1, W, i2, i3⟩ := short_inv (bi := bi) (k := k) (by omega) fun j hj => hb j (by omega)
    have ok := eRun_ok (N := 1) (ci := fun _ => 0) (bi := bi) (k := k) fun j hj => ⟨by decide, hb j (by omega)⟩
    have ho := onesN_le (bi := bi) (k := k) fun j hj => hb j (by omega)
    have hbk := hb k (by omega)
    generalize hs : eRun 1 (fun _ => 0) bi k = s at *
    have es : eRun 1 (fun _ => 0) bi (k + 1) = estep s 0 (bi k) := by rw [← hs]; rfl
    generalize hob : onesN bi k = o at *
    have eo : onesN bi (k + 1) = o + bi k := by rw [← hob]; rfl
    rw [es, eo]
    have hw := ok.w
    have zz : czE s.cs 0 = ((k - o : Nat) : Int) := by rw [i1]; rfl
    have aa : caE s.cs 0 = (k : Int) := by rw [i1]; rfl
    obtain ⟨z, hz⟩ : ∃ z, z = k - o := ⟨_, rfl⟩
    rw [← hz] at zz i1 i3
    have sp : rspl s.cs 0 s.w = ((W / (k + 2) * (z + 1) : Nat) : Int) := by
      unfold rspl
      rw [zz, aa, i2]
      simp
    have hWd : W / (k + 2) * (z + 1) ≤ W := by
      have h1 : W / (k + 2) * (z + 1) ≤ W / (k + 2) * (k + 2) := Nat.mul_le_mul_left _ (by omega)
      have h2 := Nat.div_mul_le_self W (k + 2)
      omega
    -- the interval that is left, ahead of its renewal
    obtain ⟨W', hW', hst⟩ : ∃ W' : Nat, pW s.cs s.w 0 (bi k) = W' ∧ W * 16777156 * ((if bi k = 0 then z else o) + 1) ≤ W' * (k + 2) * 16777216 := by
      unfold pW
      rw [sp]
      by_cases h0 : bi k = 0
      · rw [if_pos h0, if_pos h0]
        exact ⟨_, rfl, zero_step (by omega) (by omega) (by omega) rfl⟩
      · rw [if_neg h0, if_neg h0]
        refine ⟨W - W / (k + 2) * (z + 1), by rw [i2]; omega, one_step (z := z) (by omega) (by omega)⟩
    have hl : lrn (((z : Nat) : Int), (k : Int)) (bi k) = (((k + 1 - (o + bi k) : Nat) : Int), ((k + 1 : Nat) : Int)) := by
      unfold lrn
      rw [if_neg (by simp only; omega)]
      exact Prod.ext (by simp only; omega) (by simp only; omega)
    have hc : lrnC s.cs 0 (bi k) = [(((k + 1 - (o + bi k) : Nat) : Int), ((k + 1 : Nat) : Int))] := by
      unfold lrnC
      rw [i1]
      exact congrArg (· :: []) hl
    have hf : fac (k + 1 - (o + bi k)) * fac (o + bi k) = fac z * fac o * ((if bi k = 0 then z else o) + 1) := by
      by_cases h0 : bi k = 0
      · rw [if_pos h0, h0, show k + 1 - (o + 0) = z + 1 by omega, Nat.add_zero]
        simp only [fac]; grind
      · have h1 : bi k = 1 := by omega
        rw [if_neg h0, h1, show k + 1 - (o + 1) = z by omega]
        simp only [fac]; grind
    -- with the scale of the bytes that are out
    have main : 256 ^ s.n * (4294967295 * 16777156 ^ (k + 1) * (fac (k + 1 - (o + bi k)) * fac (o + bi k))) ≤ W' * (fac (k + 1 + 1) * 16777216 ^ (k + 1)) := by
      rw [hf]
      generalize (if bi k = 0 then z else o) + 1 = c at *
      have m1 := Nat.mul_le_mul_right (16777156 * c) i3
      have m2 := Nat.mul_le_mul_right (fac (k + 1) * 16777216 ^ k) hst
      have f2 : fac (k + 1 + 1) = (k + 2) * fac (k + 1) := rfl
      rw [f2, Nat.pow_succ, Nat.pow_succ]
      generalize fac (k + 1) = f at *
      generalize fac z * fac o = g at *
      generalize 16777156 ^ k = x at *
      generalize 16777216 ^ k = y at *
      generalize 256 ^ s.n = u at *
      calc u * (4294967295 * (x * 16777156) * (g * c)) = u * (4294967295 * x * g) * (16777156 * c) := by grind
        _ ≤ W * (f * y) * (16777156 * c) := m1
        _ = W * 16777156 * c * (f * y) := by grind
        _ ≤ W' * (k + 2) * 16777216 * (f * y) := m2
        _ = W' * ((k + 2) * f * (y * 16777216)) := by grind
    unfold estep
    rw [hW']
    split
    · refine ⟨hc, W' * 256, by simp, ?_⟩
      simp only
      rw [Nat.pow_succ]
      generalize 4294967295 * 16777156 ^ (k + 1) * (fac (k + 1 - (o + bi k)) * fac (o + bi k)) = g at *
      generalize fac (k + 1 + 1) * 16777216 ^ (k + 1) = f at *
      calc 256 ^ s.n * 256 * g = 256 ^ s.n * g * 256 := by grind
        _ ≤ W' * f * 256 := Nat.mul_le_mul_right _ main
        _ = W' * 256 * f := by grind
    · exact ⟨hc, W', rfl, main⟩

theorem loss : ∀ k, k ≤ 60 → 16777216 ^ k ≤ 2 * 16777156 ^ k := by decide

/-- No more bytes than the number of the ones permits. -/
theorem short_le {bi : Nat → Nat} {k : Nat} (hk : k ≤ 60) (hb : ∀ j, j < k → bi j ≤ 1) : 256 ^ (eRun 1 (fun _ => 0) bi k).n * (fac (k - onesN bi k) * fac (onesN bi k)) ≤ 2 * fac (k + 1) := by
  obtain ⟨_, W, h1, h2⟩ := short_inv hk hb
  have ok := eRun_ok (N := 1) (ci := fun _ => 0) (bi := bi) (k := k) fun j hj => ⟨by decide, hb j hj⟩
  have hw := ok.w.2
  have hW : W ≤ 4294967295 := by omega
  have h3 := loss k hk
  have hp : 0 < 16777156 ^ k := Nat.pow_pos (by decide)
  generalize (eRun 1 (fun _ => 0) bi k).n = n at *
  generalize fac (k - onesN bi k) * fac (onesN bi k) = g at *
  generalize fac (k + 1) = f at *
  generalize 16777156 ^ k = x at *
  generalize 16777216 ^ k = y at *
  have h4 : 256 ^ n * g * (4294967295 * x) ≤ 2 * f * (4294967295 * x) := by
    calc 256 ^ n * g * (4294967295 * x) = 256 ^ n * (4294967295 * x * g) := by grind
      _ ≤ W * (f * y) := h2
      _ ≤ 4294967295 * (f * y) := Nat.mul_le_mul_right _ hW
      _ ≤ 4294967295 * (f * (2 * x)) := Nat.mul_le_mul_left _ (Nat.mul_le_mul_left _ h3)
      _ = 2 * f * (4294967295 * x) := by grind
  exact Nat.le_of_mul_le_mul_right h4 (by omega)
end Go.Proofs.Ythnfbdihihhoiaa
