/- The camera and matrix codes, in plain words: noise, the rectangle, the sample. -/
import Derived.Test.YthkilkjngincpaaTmr4
import Derived.Test.YthkilkjngincpaaCam2
import Derived.Test.YthkilkjngincpaaMtx8
namespace Go.Proofs.Ythkilkjngincpaa
open Go Go.Lite
set_option linter.unusedVariables false
set_option linter.unusedSimpArgs false
set_option maxRecDepth 100000
set_option maxHeartbeats 4000000

theorem mn_leq {P : List Int} : ∀ {k i : Nat}, i < k → mnN P k ≤ P.getD i 0
  | k + 1, i, h => by
    simp only [mnN]
    rcases Nat.lt_or_ge i k with h1 | h1
    · have := mn_leq (P := P) h1; omega
    · obtain rfl : i = k := by omega
      omega
theorem mn_geq {P : List Int} {b : Int} (h : ∀ i, i < P.length → b ≤ P.getD i 0) (h0 : 0 < P.length) : ∀ {k : Nat}, k ≤ P.length → b ≤ mnN P k
  | 0, _ => h 0 h0
  | k + 1, hk => by simp only [mnN]; have := mn_geq h h0 (k := k) (by omega); have := h k (by omega); omega
theorem mx_geq {P : List Int} : ∀ {k i : Nat}, i < k → P.getD i 0 ≤ mxN P k
  | k + 1, i, h => by
    simp only [mxN]
    rcases Nat.lt_or_ge i k with h1 | h1
    · have := mx_geq (P := P) h1; omega
    · obtain rfl : i = k := by omega
      omega
theorem mx_leq {P : List Int} {b : Int} (h : ∀ i, i < P.length → P.getD i 0 ≤ b) (h0 : 0 < P.length) : ∀ {k : Nat}, k ≤ P.length → mxN P k ≤ b
  | 0, _ => h 0 h0
  | k + 1, hk => by simp only [mxN]; have := mx_leq h h0 (k := k) (by omega); have := h k (by omega); omega
/-- Where the magnified code is dark. -/
def cJ (n s X Y : Nat) (f : Nat → Nat → Bool) (x y : Nat) : Bool := decide (X ≤ x) && decide (Y ≤ y) && (decide ((x - X) / s < n) && decide ((y - Y) / s < n) && f ((x - X) / s) ((y - Y) / s))
theorem camT_j {n s X Y : Nat} {l d : Int} {D : List Int} {f : Nat → Nat → Bool} (hs : 1 ≤ s) (hf : ∀ x y, x < n → y < n → px n n D (x : Int) (y : Int) = f x y) (x y : Nat) : camT (n, n, D) s X Y l d x y = if cJ n s X Y f x y then d else l := by
  unfold camT cJ
  by_cases h1 : X ≤ x
  · by_cases h2 : Y ≤ y
    · have e1 : quo ((x : Int) - X) s = (((x - X) / s : Nat) : Int) := by rw [quo_nn (by omega), show (x : Int) - X = ((x - X : Nat) : Int) by omega]; rfl
      have e2 : quo ((y : Int) - Y) s = (((y - Y) / s : Nat) : Int) := by rw [quo_nn (by omega), show (y : Int) - Y = ((y - Y : Nat) : Int) by omega]; rfl
      rw [e1, e2, decide_eq_true h1, decide_eq_true h2]
      generalize (x - X) / s = u at *
      generalize (y - Y) / s = v at *
      dsimp only
      by_cases h3 : u < n ∧ v < n
      · rw [hf u v h3.1 h3.2, decide_eq_true h3.1, decide_eq_true h3.2]
        cases f u v
        · rw [if_neg (by simp)]; rfl
        · rw [if_pos ⟨by omega, by omega, rfl⟩]; rfl
      · rw [px_out (by omega), if_neg (by simp)]
        have : (decide (u < n) && decide (v < n)) = false := by rw [← Bool.decide_and]; exact decide_eq_false h3
        rw [this]; rfl
    · rw [if_neg (by omega), decide_eq_false h2]; simp
  · rw [if_neg (by omega), decide_eq_false h1]; simp
/-- With little noise the dark places are seen. -/
theorem dark_j {n s X Y : Nat} {l d : Int} {D N : List Int} {f : Nat → Nat → Bool} (hs : 1 ≤ s) (hn : 1 ≤ n) (hX : X ≤ 32) (hY : Y ≤ 32) (hf : ∀ x y, x < n → y < n → px n n D (x : Int) (y : Int) = f x y) (hd : 0 ≤ d) (hl : d + 60 ≤ l) (hl2 : l ≤ 255)
    (hN : ∀ i, i < N.length → -14 ≤ N.getD i 0 ∧ N.getD i 0 ≤ 14) (hex : ∃ a b, a < n ∧ b < n ∧ f a b = true) {x y : Nat} (hx : x < n * s + 32) (hy : y < n * s + 32) :
    dark (n * s + 32) (capP (n, n, D) s X Y 0 l d N) x y = cJ n s X Y f x y := by
  obtain ⟨w, hw⟩ : ∃ w, w = n * s + 32 := ⟨_, rfl⟩
  have hlen : (capP (n, n, D) s X Y 0 l d N).length = w * w := by rw [hw]; exact tab_len
  have cw : camW (n, n, D) s = w := by rw [hw]; rfl
  have ch : camH (n, n, D) s = w := by rw [hw]; rfl
  rw [← hw] at hx hy ⊢
  have w0 : 0 < w := by omega
  have val : ∀ m, m < w * w → (if cJ n s X Y f (m % w) (m / w) then d else l) - 14 ≤ (capP (n, n, D) s X Y 0 l d N).getD m 0 ∧ (capP (n, n, D) s X Y 0 l d N).getD m 0 ≤ (if cJ n s X Y f (m % w) (m / w) then d else l) + 14 := fun m hm => by
    have hb : (tab (camW (n, n, D) s * camH (n, n, D) s) (camB (n, n, D) s X Y l d)).getD m 0 = if cJ n s X Y f (m % w) (m / w) then d else l := by
      rw [tab_get (by rw [cw, ch]; exact hm)]
      unfold camB
      rw [cw, camT_j hs hf]
    unfold capP
    rw [tab_get (by rw [cw, ch]; exact hm)]
    unfold nzF
    show _ ∧ _
    have hb2 : (blurL (camW (n, n, D) s) (camH (n, n, D) s) (tab (camW (n, n, D) s * camH (n, n, D) s) (camB (n, n, D) s X Y l d)) 0).getD m 0 = if cJ n s X Y f (m % w) (m / w) then d else l := hb
    rw [hb2]
    generalize hbase : (if cJ n s X Y f (m % w) (m / w) then d else l) = base
    have hbd : 0 ≤ base ∧ base ≤ 255 := by rw [← hbase]; split <;> omega
    split
    · omega
    · have := hN (m % N.length) (Nat.mod_lt _ (by omega))
      omega
  have idx : ∀ a b, a < w → b < w → b * w + a < w * w ∧ (b * w + a) % w = a ∧ (b * w + a) / w = b := fun a b ha hb => by
    refine ⟨?_, ?_, ?_⟩
    · have h1 : (b + 1) * w ≤ w * w := Nat.mul_le_mul_right _ (by omega)
      rw [Nat.add_mul, Nat.one_mul] at h1
      omega
    · rw [Nat.mul_add_mod']; exact Nat.mod_eq_of_lt ha
    · rw [Nat.mul_comm, Nat.mul_add_div w0, Nat.div_eq_of_lt ha, Nat.add_zero]
  generalize hP : capP (n, n, D) s X Y 0 l d N = P at *
  have ww : 0 < P.length := by rw [hlen]; exact Nat.mul_pos w0 w0
  -- the darkest and the lightest tone
  obtain ⟨a, b, ha, hb, hab⟩ := hex
  have as1 : a * s + s ≤ n * s := by have : (a + 1) * s ≤ n * s := Nat.mul_le_mul_right _ ha; rw [Nat.add_mul, Nat.one_mul] at this; exact this
  have bs1 : b * s + s ≤ n * s := by have : (b + 1) * s ≤ n * s := Nat.mul_le_mul_right _ hb; rw [Nat.add_mul, Nat.one_mul] at this; exact this
  have j1 : cJ n s X Y f (X + a * s) (Y + b * s) = true := by
    unfold cJ
    rw [show X + a * s - X = a * s by omega, show Y + b * s - Y = b * s by omega, Nat.mul_div_cancel _ (by omega), Nat.mul_div_cancel _ (by omega), decide_eq_true (show X ≤ X + a * s by omega), decide_eq_true (show Y ≤ Y + b * s by omega), decide_eq_true ha, decide_eq_true hb, hab]; rfl
  obtain ⟨i1, i2, i3⟩ := idx (X + a * s) (Y + b * s) (by omega) (by omega)
  have v1 := val _ i1
  rw [i2, i3, j1, if_pos rfl] at v1
  have lo1 := mn_leq (P := P) (k := P.length) (i := (Y + b * s) * w + (X + a * s)) (by omega)
  obtain ⟨x0, hx0, hj0⟩ : ∃ x0, x0 < w ∧ cJ n s X Y f x0 0 = false := by
    rcases Nat.eq_zero_or_pos X with h | h
    · subst h
      refine ⟨n * s, by omega, ?_⟩
      unfold cJ
      rw [Nat.sub_zero, Nat.mul_div_cancel _ (by omega), decide_eq_false (show ¬ n < n by omega)]; simp
    · exact ⟨0, w0, by unfold cJ; rw [decide_eq_false (by omega)]; rfl⟩
  obtain ⟨k1, k2, k3⟩ := idx x0 0 hx0 w0
  have v2 := val _ k1
  rw [k2, k3, hj0, if_neg (by simp)] at v2
  have hi1 := mx_geq (P := P) (k := P.length) (i := 0 * w + x0) (by omega)
  have lo2 : d - 14 ≤ mnN P P.length := mn_geq (fun i hi => by have := val i (by omega); split at this <;> omega) ww (Nat.le_refl _)
  have hi2 : mxN P P.length ≤ l + 14 := mx_leq (fun i hi => by have := val i (by omega); split at this <;> omega) ww (Nat.le_refl _)
  unfold dark
  obtain ⟨m1, m2, m3⟩ := idx x y hx hy
  have v3 := val _ m1
  rw [m2, m3] at v3
  cases hj : cJ n s X Y f x y with
  | true => rw [hj, if_pos rfl] at v3; exact decide_eq_true (by omega)
  | false => rw [hj, if_neg (by simp)] at v3; exact decide_eq_false (by omega)
end Go.Proofs.Ythkilkjngincpaa
