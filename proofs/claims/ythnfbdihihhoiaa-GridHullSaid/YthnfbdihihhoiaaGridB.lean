/- Boxes of nodes: an odometer comes to each. -/
import Derived.Test.YthnfbdihihhoiaaGridM
namespace Go.Proofs.Ythnfbdihihhoiaa
open Go Go.Lite
set_option linter.unusedVariables false
set_option linter.unusedSimpArgs false
set_option maxRecDepth 100000
set_option maxHeartbeats 4000000

/-- The number of nodes of the last m axes of a box. -/
def bw (n : Nat) (fr to : Nat → Nat) : Nat → Nat
  | 0 => 1
  | m + 1 => (to (n - 1 - m) - fr (n - 1 - m) + 1) * bw n fr to m
/-- The rank of a node by its last m axes. -/
def br (n : Nat) (fr to ix : Nat → Nat) : Nat → Nat
  | 0 => 0
  | m + 1 => (ix (n - 1 - m) - fr (n - 1 - m)) * bw n fr to m + br n fr to ix m
def inB (n : Nat) (fr to ix : Nat → Nat) : Prop := ∀ k, k < n → fr k ≤ ix k ∧ ix k ≤ to k
theorem bw_pos {n : Nat} {fr to : Nat → Nat} : ∀ {m : Nat}, 0 < bw n fr to m
  | 0 => Nat.one_pos
  | m + 1 => Nat.mul_pos (by omega) bw_pos
theorem br_lt {n : Nat} {fr to ix : Nat → Nat} (h : inB n fr to ix) : ∀ {m : Nat}, m ≤ n → br n fr to ix m < bw n fr to m
  | 0, _ => Nat.one_pos
  | m + 1, hm => by
    have h1 := br_lt h (m := m) (by omega)
    have h2 := h (n - 1 - m) (by omega)
    simp only [br, bw]
    have h3 : (ix (n - 1 - m) - fr (n - 1 - m) + 1) * bw n fr to m ≤ (to (n - 1 - m) - fr (n - 1 - m) + 1) * bw n fr to m := Nat.mul_le_mul_right _ (by omega)
    rw [Nat.add_mul, Nat.one_mul] at h3
    omega
theorem br_inj {n : Nat} {fr to ix iy : Nat → Nat} (hx : inB n fr to ix) (hy : inB n fr to iy) : ∀ {m : Nat}, m ≤ n → br n fr to ix m = br n fr to iy m → ∀ k, n - m ≤ k → k < n → ix k = iy k
  | 0, _, _ => fun k h1 h2 => by omega
  | m + 1, hm, he => by
    have a1 := br_lt hx (m := m) (by omega)
    have a2 := br_lt hy (m := m) (by omega)
    have b1 := hx (n - 1 - m) (by omega)
    have b2 := hy (n - 1 - m) (by omega)
    simp only [br] at he
    have c0 : ∀ a b u v w : Nat, u < w → v < w → a * w + u = b * w + v → a = b := fun a b u v w h1 h2 h3 => by
      rcases Nat.lt_trichotomy a b with h | h | h
      · have : (a + 1) * w ≤ b * w := Nat.mul_le_mul_right _ h
        rw [Nat.add_mul] at this; omega
      · exact h
      · have : (b + 1) * w ≤ a * w := Nat.mul_le_mul_right _ h
        rw [Nat.add_mul] at this; omega
    have c1 := c0 _ _ _ _ _ a1 a2 he
    rw [c1] at he
    have ih := br_inj hx hy (m := m) (by omega) (by omega)
    intro k h1 h2
    by_cases e : k = n - 1 - m
    · subst e; omega
    · exact ih k (by omega) h2
theorem br_top {n : Nat} {fr to ix : Nat → Nat} (h : inB n fr to ix) : ∀ {m : Nat}, m ≤ n → (∀ k, n - m ≤ k → k < n → ix k = to k) → br n fr to ix m + 1 = bw n fr to m
  | 0, _, _ => rfl
  | m + 1, hm, ht => by
    have h1 := br_top h (m := m) (by omega) fun k h1 h2 => ht k (by omega) h2
    have h2 := ht (n - 1 - m) (by omega) (by omega)
    simp only [br, bw, h2]
    rw [Nat.add_mul, Nat.one_mul]
    omega
theorem br_bot {n : Nat} {fr to ix : Nat → Nat} : ∀ {m : Nat}, (∀ k, n - m ≤ k → k < n → ix k = fr k) → m ≤ n → br n fr to ix m = 0
  | 0, _, _ => rfl
  | m + 1, h, hm => by
    have h1 := br_bot (to := to) (m := m) (fun k h1 h2 => h k (by omega) h2) (by omega)
    have h2 := h (n - 1 - m) (by omega) (by omega)
    simp only [br, h1, h2]
    simp
theorem br_same {n : Nat} {fr to ix iy : Nat → Nat} {k0 : Nat} (hk : k0 < n) (hs : ∀ k, k < k0 → ix k = iy k) (h0 : br n fr to iy (n - k0) = br n fr to ix (n - k0) + 1) : ∀ {m : Nat}, n - k0 ≤ m → m ≤ n → br n fr to iy m = br n fr to ix m + 1 := by
  intro m h1 h2
  obtain ⟨d, rfl⟩ := Nat.exists_eq_add_of_le h1
  induction d with
  | zero => exact h0
  | succ d ih =>
    have := ih (by omega) (by omega)
    rw [← Nat.add_assoc]
    simp only [br]
    rw [this, hs (n - 1 - (n - k0 + d)) (by omega)]
    omega
/-- The next node. -/
theorem br_next {n : Nat} {fr to ix iy : Nat → Nat} {k0 : Nat} (hk : k0 < n) (hb : inB n fr to ix) (hs : ∀ k, k < k0 → iy k = ix k) (h0 : iy k0 = ix k0 + 1) (h1 : ix k0 < to k0) (h2 : ∀ k, k0 < k → k < n → ix k = to k ∧ iy k = fr k) :
    br n fr to iy n = br n fr to ix n + 1 ∧ inB n fr to iy := by
  constructor
  · refine br_same hk (fun k h => (hs k h).symm) ?_ (by omega) (Nat.le_refl _)
    have e : n - k0 = (n - 1 - k0) + 1 := by omega
    have t1 := br_top hb (m := n - 1 - k0) (by omega) fun k a b => (h2 k (by omega) b).1
    have t2 := br_bot (n := n) (fr := fr) (to := to) (ix := iy) (m := n - 1 - k0) (fun k a b => (h2 k (by omega) b).2) (by omega)
    rw [e]
    simp only [br]
    rw [t2, show n - 1 - (n - 1 - k0) = k0 by omega, h0]
    have := hb k0 hk
    rw [show ix k0 + 1 - fr k0 = (ix k0 - fr k0) + 1 by omega, Nat.add_mul, Nat.one_mul]
    omega
  · intro k hkn
    rcases Nat.lt_trichotomy k k0 with h | h | h
    · rw [hs k h]; exact hb k hkn
    · subst h; rw [h0]; have := hb k hkn; omega
    · have := h2 k h hkn; have := hb k hkn; omega
end Go.Proofs.Ythnfbdihihhoiaa
