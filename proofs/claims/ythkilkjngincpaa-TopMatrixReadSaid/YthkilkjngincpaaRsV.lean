/- Sums over places; Vandermonde; a polynomial with too many roots is zero. -/
import Derived.Test.YthkilkjngincpaaRsF
namespace Go.Proofs.Ythkilkjngincpaa
open Go Go.Lite
set_option linter.unusedVariables false
set_option linter.unusedSimpArgs false
set_option maxRecDepth 100000
set_option maxHeartbeats 4000000

def xl (l : List Nat) (f : Nat → BitVec 8) : BitVec 8 := l.foldr (fun j s => f j ^^^ s) 0#8
theorem xl_cons (a : Nat) (l : List Nat) (f : Nat → BitVec 8) : xl (a :: l) f = f a ^^^ xl l f := rfl
theorem xl_congr {f g : Nat → BitVec 8} : ∀ {l : List Nat}, (∀ j, j ∈ l → f j = g j) → xl l f = xl l g
  | [], _ => rfl
  | a :: l, h => by rw [xl_cons, xl_cons, h a (by simp), xl_congr fun j hj => h j (by simp [hj])]
theorem xl_xor {f g : Nat → BitVec 8} : ∀ {l : List Nat}, xl l (fun j => f j ^^^ g j) = xl l f ^^^ xl l g
  | [] => by simp [xl]
  | a :: l => by rw [xl_cons, xl_cons, xl_cons, xl_xor, xor4]
theorem xl_mul {x : BitVec 8} {f : Nat → BitVec 8} : ∀ {l : List Nat}, xl l (fun j => mulF x (f j)) = mulF x (xl l f)
  | [] => by simp [xl, mulF_zeroR]
  | a :: l => by rw [xl_cons, xl_cons, xl_mul, mulF_xorR]
theorem xl_zero {f : Nat → BitVec 8} {l : List Nat} (h : ∀ j, j ∈ l → f j = 0#8) : xl l f = 0#8 := by
  induction l with
  | nil => rfl
  | cons a l ih => rw [xl_cons, h a (by simp), ih fun j hj => h j (by simp [hj]), BitVec.zero_xor]
theorem xl_app {f : Nat → BitVec 8} : ∀ {l m : List Nat}, xl (l ++ m) f = xl l f ^^^ xl m f
  | [], m => by simp [xl]
  | a :: l, m => by rw [List.cons_append, xl_cons, xl_cons, xl_app, BitVec.xor_assoc]
theorem xl_filter {f : Nat → BitVec 8} {p : Nat → Bool} : ∀ {l : List Nat}, (∀ j, j ∈ l → p j = false → f j = 0#8) → xl (l.filter p) f = xl l f
  | [], _ => rfl
  | a :: l, h => by
    have ih := xl_filter (f := f) (p := p) (l := l) fun j hj => h j (by simp [hj])
    cases hp : p a with
    | true => rw [List.filter_cons_of_pos (by rw [hp]), xl_cons, xl_cons, ih]
    | false => rw [List.filter_cons_of_neg (by rw [hp]; simp), xl_cons, h a (by simp) hp, ih, BitVec.zero_xor]
theorem xl_range {f : Nat → BitVec 8} : ∀ {n : Nat}, xl (List.range n) f = xs f n
  | 0 => rfl
  | n + 1 => by rw [List.range_succ, xl_app, xl_range]; simp [xl, xs]
/-- Vandermonde. -/
theorem vand (X : Nat → BitVec 8) : ∀ (l : List Nat), l.Nodup → (∀ i, i ∈ l → ∀ j, j ∈ l → X i = X j → i = j) → ∀ z : Nat → BitVec 8, (∀ k, k < l.length → xl l (fun j => mulF (z j) (pw (X j) k)) = 0#8) → ∀ j, j ∈ l → z j = 0#8
  | [], _, _, _, _, j, hj => by cases hj
  | a :: l, hn, hi, z, h, j, hj => by
    have hnd := List.nodup_cons.1 hn
    have step : ∀ k, k < l.length → xl l (fun j => mulF (mulF (z j) (X j ^^^ X a)) (pw (X j) k)) = 0#8 := fun k hk => by
      have h0 := h k (by simp; omega)
      have h1 := h (k + 1) (by simp; omega)
      rw [xl_cons] at h0 h1
      have e : xl l (fun j => mulF (mulF (z j) (X j ^^^ X a)) (pw (X j) k)) = xl l (fun j => mulF (z j) (pw (X j) (k + 1))) ^^^ mulF (X a) (xl l fun j => mulF (z j) (pw (X j) k)) := by
        rw [← xl_mul, ← xl_xor]
        refine xl_congr fun j _ => ?_
        simp only [pw, mulF_xorR, mulF_xorL]
        congr 1
        · rw [mulF_assoc, mulF_comm (X j)]
        · rw [mulF_assoc, mulF_left]
      have e1 := xor_zero_eq h0
      have e2 := xor_zero_eq h1
      rw [e, ← e1, ← e2]
      simp only [pw]
      rw [mulF_left (X a), mulF_comm (X a), BitVec.xor_self]
    have ih := vand X l hnd.2 (fun i hi' j hj' => hi i (by simp [hi']) j (by simp [hj'])) _ step
    have tail : ∀ j, j ∈ l → z j = 0#8 := fun j hj => by
      have h1 := ih j hj
      refine Decidable.byContradiction fun hz => ?_
      refine mulF_nz hz (fun h2 => ?_) h1
      have h3 := hi j (by simp [hj]) a (by simp) (xor_zero_eq h2)
      exact hnd.1 (h3 ▸ hj)
    rcases List.mem_cons.1 hj with rfl | hj
    · have h0 := h 0 (by simp)
      rw [xl_cons, xl_zero fun j hj => by rw [tail j hj, mulF_zeroL]] at h0
      simpa [pw, mulF_one] using h0
    · exact tail j hj
/-- A polynomial of m coefficients with m roots. -/
theorem roots (X Y : Nat → BitVec 8) (hXY : ∀ j, mulF (X j) (Y j) = 1#8) : ∀ (l : List Nat), l.Nodup → (∀ i, i ∈ l → ∀ j, j ∈ l → X i = X j → i = j) → ∀ (c : Nat → BitVec 8) (m : Nat), m ≤ l.length → (∀ k, m ≤ k → c k = 0#8) → (∀ j, j ∈ l → ev c m (Y j) = 0#8) → ∀ k, c k = 0#8
  | [], _, _, c, m, hm, hc, _, k => hc k (by simp at hm; omega)
  | a :: l, hn, hi, c, m, hm, hc, hr, k => by
    cases m with
    | zero => exact hc k (by omega)
    | succ m =>
    have hnd := List.nodup_cons.1 hn
    have hh : hor (X a) c (m + 1) = 0#8 := by rw [hor_ev (hXY a), hr a (by simp), mulF_zeroR]
    have div : ∀ y, ev c (m + 1) y = mulF (1#8 ^^^ mulF (X a) y) (ev (fun k => hor (X a) c (k + 1)) (m + 1) y) := fun y => by
      rw [ev_div (X a) y c (m + 1), hh, mulF_zeroR, mulF_zeroR, BitVec.xor_zero]
    -- the quotient, cut off behind its coefficients
    have q0 : ∀ k, k < m → (fun k => if k < m then hor (X a) c (k + 1) else 0#8) k = hor (X a) c (k + 1) := fun k hk => if_pos hk
    have evq : ∀ y, ev (fun k => if k < m then hor (X a) c (k + 1) else 0#8) m y = ev (fun k => hor (X a) c (k + 1)) (m + 1) y := fun y => by
      rw [ev_succ, hh, mulF_zeroL, BitVec.xor_zero]
      exact xs_congr fun k hk => by rw [q0 k hk]
    have qz := roots X Y hXY l hnd.2 (fun i hi' j hj' => hi i (by simp [hi']) j (by simp [hj'])) (fun k => if k < m then hor (X a) c (k + 1) else 0#8) m (by simp at hm; omega) (fun k hk => if_neg (by omega)) (fun j hj => by
      rw [evq]
      have h1 := hr j (by simp [hj])
      rw [div] at h1
      refine mulF_zero h1 fun h2 => ?_
      have h3 : mulF (X a) (Y j) = 1#8 := (xor_zero_eq h2).symm
      have h4 : X a = X j := by
        have : mulF (X j) (mulF (X a) (Y j)) = X a := by rw [mulF_left, hXY, mulF_one]
        rw [h3, mulF_one] at this
        exact this.symm
      have h5 := hi a (by simp) j (by simp [hj]) h4
      exact hnd.1 (h5 ▸ hj))
    have hz : ∀ k, k ≤ m + 1 → hor (X a) c k = 0#8 := fun k hk => by
      cases k with
      | zero => rfl
      | succ k =>
        by_cases e : k = m
        · rw [e]; exact hh
        · have := (q0 k (by omega)).symm.trans (qz k)
          exact this
    by_cases hk : k < m + 1
    · have h1 := hz (k + 1) (by omega)
      have h2 := hz k (by omega)
      simp only [hor] at h1
      rw [h2, mulF_zeroL, BitVec.zero_xor] at h1
      exact h1
    · exact hc k (by omega)
end Go.Proofs.Ythkilkjngincpaa
