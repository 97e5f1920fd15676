/- Matrix codes: a border that is turned is far from itself. -/
import Derived.Test.YthkilkjngincpaaMtx4
import Derived.Test.YthkilkjngincpaaRsG
namespace Go.Proofs.Ythkilkjngincpaa
open Go Go.Lite
set_option linter.unusedVariables false
set_option linter.unusedSimpArgs false
set_option maxRecDepth 100000
set_option maxHeartbeats 4000000

/-- A square turned n times. -/
def rotN (s : Nat) (f : Nat → Nat → Bool) : Nat → Nat → Nat → Bool
  | 0 => f
  | n + 1 => fun x y => rotN s f n y (s - 1 - x)
theorem rotN_congr {s : Nat} {f g : Nat → Nat → Bool} (h : ∀ x y, x < s → y < s → f x y = g x y) : ∀ n x y, x < s → y < s → rotN s f n x y = rotN s g n x y
  | 0, x, y, hx, hy => h x y hx hy
  | n + 1, x, y, hx, hy => rotN_congr h n y (s - 1 - x) hy (by omega)
theorem rotN_add (s : Nat) (f : Nat → Nat → Bool) (a : Nat) : ∀ b, rotN s (rotN s f a) b = rotN s f (a + b)
  | 0 => rfl
  | b + 1 => by
    funext x y
    show rotN s (rotN s f a) b y (s - 1 - x) = rotN s f (a + b) y (s - 1 - x)
    rw [rotN_add s f a b]
theorem rotN_4 {s : Nat} {f : Nat → Nat → Bool} {x y : Nat} (hx : x < s) (hy : y < s) : rotN s f 4 x y = f x y := by
  show f (s - 1 - (s - 1 - x)) (s - 1 - (s - 1 - y)) = f x y
  congr 1 <;> omega
/-- The pixels of a turned square. -/
theorem trn_rot {s : Nat} {D : List Int} (hs : 0 < s) (k : Nat) (hk : k < 4) {x y : Nat} (hx : x < s) (hy : y < s) : px s s (trn (s, s, D) k).2.2 x y = rotN s (fun x y => px s s D x y) k x y := by
  have e : (trn (s, s, D) k).2.2 = (rots (s, s, D) k).2.2 := by
    unfold trn
    rw [if_neg (by omega), Nat.mod_eq_of_lt hk]
  rw [e]
  have sq : ∀ n, (rots (s, s, D) n).1 = s ∧ (rots (s, s, D) n).2.1 = s := fun n => by
    induction n with
    | zero => exact ⟨rfl, rfl⟩
    | succ n ih => exact ⟨ih.2, ih.1⟩
  clear hk e
  induction k generalizing x y with
  | zero => rfl
  | succ k ih =>
    obtain ⟨s1, s2⟩ := sq k
    have e2 : (rots (s, s, D) (k + 1)).2.2 = bm s s fun x y => px s s (rots (s, s, D) k).2.2 y ((s - 1 - x : Nat) : Int) := by
      simp only [rots, rotD]
      rw [s1, s2]
    rw [e2, px_bm hx hy]
    exact ih hy (by omega)
/-- Sums over a square. -/
def sq2 (s : Nat) (f : Nat → Nat → Int) : Int := sumN (fun y => sumN (fun x => f x y) s) s
theorem sumN_comm {f : Nat → Nat → Int} {m : Nat} : ∀ {n : Nat}, sumN (fun y => sumN (fun x => f x y) m) n = sumN (fun x => sumN (fun y => f x y) n) m
  | 0 => (sumN_zero fun _ _ => rfl).symm
  | n + 1 => by
    simp only [sumN]
    rw [sumN_comm]
    have : ∀ (g h : Nat → Int) k, sumN (fun x => g x + h x) k = sumN g k + sumN h k := fun g h k => by
      induction k with
      | zero => rfl
      | succ k ih => simp only [sumN]; rw [ih]; omega
    rw [this]
theorem sq2_rot {s : Nat} {f : Nat → Nat → Int} : sq2 s (fun x y => f y (s - 1 - x)) = sq2 s f := by
  unfold sq2
  rw [sumN_comm (f := f)]
  have h : ∀ y, sumN (fun x => f y (s - 1 - x)) s = sumN (fun x => f y x) s := fun y => sumN_rev (f := fun x => f y x)
  exact sumN_congr fun y _ => h y
theorem sq2_congr {s : Nat} {f g : Nat → Nat → Int} (h : ∀ x y, x < s → y < s → f x y = g x y) : sq2 s f = sq2 s g :=
  sumN_congr fun y hy => sumN_congr fun x hx => h x y hx hy
theorem sq2_le {s : Nat} {f g : Nat → Nat → Int} (h : ∀ x y, x < s → y < s → f x y ≤ g x y) : sq2 s f ≤ sq2 s g := by
  have key : ∀ {a b : Nat → Int} n, (∀ i, i < n → a i ≤ b i) → sumN a n ≤ sumN b n := fun n hh => by
    induction n with
    | zero => exact Int.le_refl _
    | succ n ih => simp only [sumN]; have := ih fun i hi => hh i (by omega); have := hh n (by omega); omega
  exact key s fun y hy => key s fun x hx => h x y hx hy
theorem sq2_add {s : Nat} {f g : Nat → Nat → Int} : sq2 s (fun x y => f x y + g x y) = sq2 s f + sq2 s g := by
  have key : ∀ (g h : Nat → Int) k, sumN (fun x => g x + h x) k = sumN g k + sumN h k := fun g h k => by
    induction k with
    | zero => rfl
    | succ k ih => simp only [sumN]; rw [ih]; omega
  unfold sq2
  rw [← key]
  exact sumN_congr fun y _ => key _ _ _
theorem mWr_sq (s : Nat) (f : Nat → Nat → Bool) : mWr s f s = sq2 s fun x y => mOne (mBad s f x y) := rfl
theorem mWr_congr {s : Nat} {f g : Nat → Nat → Bool} (h : ∀ x y, x < s → y < s → f x y = g x y) : mWr s f s = mWr s g s := by
  rw [mWr_sq, mWr_sq]
  exact sq2_congr fun x y hx hy => by unfold mBad; rw [h x y hx hy]
theorem mBord_rot {s x y : Nat} (hx : x < s) (hy : y < s) : mBord s y (s - 1 - x) = mBord s x y := by
  have h1 := @mBord_iff s x y
  have h2 := @mBord_iff s y (s - 1 - x)
  cases h3 : mBord s x y with
  | false =>
    have := h1.1 h3
    exact h2.2 (by omega)
  | true =>
    cases h4 : mBord s y (s - 1 - x) with
    | true => rfl
    | false =>
      have := h2.1 h4
      have h5 := h1.2 (by omega)
      rw [h3] at h5; cases h5
/-- How far a turned border is from the border. -/
theorem far_border : ∀ s : Nat, Side s → ∀ r, 1 ≤ r → r ≤ 3 → 2 * ((s : Int) / 4) + 1 ≤ mWr s (rotN s (mDark s) r) s := by
  have key : ∀ m : Fin 13, ∀ r : Fin 3, 2 * (((8 + 2 * m.1 : Nat) : Int) / 4) + 1 ≤ mWr (8 + 2 * m.1) (rotN (8 + 2 * m.1) (mDark (8 + 2 * m.1)) (r.1 + 1)) (8 + 2 * m.1) := by decide +kernel
  intro s hs r h1 h2
  have hb := hs.bd
  have he := hs.ev
  obtain ⟨m, hm, rfl⟩ : ∃ m, m ≤ 12 ∧ s = 8 + 2 * m := ⟨(s - 8) / 2, by omega, by omega⟩
  have := key ⟨m, by omega⟩ ⟨r - 1, by omega⟩
  simp only at this
  rwa [show r - 1 + 1 = r by omega] at this
/-- A code with few wrong modules of the border, turned, has more of them. -/
theorem turned_worse {s : Nat} {f : Nat → Nat → Bool} (hs : Side s) (he : mWr s f s ≤ (s : Int) / 4) {r : Nat} (h1 : 1 ≤ r) (h2 : r ≤ 3) : (s : Int) / 4 < mWr s (rotN s f r) s := by
  have hb := hs.bd
  have far := far_border s hs r h1 h2
  have rot : ∀ (g : Nat → Nat → Int) n, ∃ g', sq2 s g' = sq2 s g ∧ ∀ F : Nat → Nat → Bool, (∀ x y, x < s → y < s → g x y = mOne (mBad s F x y)) → ∀ x y, x < s → y < s → g' x y = mOne (mBord s x y && (rotN s (mDark s) n x y != rotN s F n x y)) := by
    intro g n
    induction n with
    | zero => exact ⟨g, rfl, fun F h x y hx hy => h x y hx hy⟩
    | succ n ih =>
      obtain ⟨g', e1, e2⟩ := ih
      refine ⟨fun x y => g' y (s - 1 - x), by rw [sq2_rot]; exact e1, fun F h x y hx hy => ?_⟩
      show g' y (s - 1 - x) = _
      rw [e2 F h y (s - 1 - x) hy (by omega), mBord_rot hx hy]
      rfl
  obtain ⟨g', e1, e2⟩ := rot (fun x y => mOne (mBad s f x y)) r
  have e3 := e2 f fun _ _ _ _ => rfl
  have tri : mWr s (rotN s (mDark s) r) s ≤ sq2 s (fun x y => mOne (mBad s (rotN s f r) x y) + g' x y) := by
    rw [mWr_sq]
    refine sq2_le fun x y hx hy => ?_
    rw [e3 x y hx hy]
    unfold mBad mOne
    cases mBord s x y <;> cases mDark s x y <;> cases rotN s (mDark s) r x y <;> cases rotN s f r x y <;> simp
  rw [sq2_add, e1, ← mWr_sq, ← mWr_sq] at tri
  omega
/-- Which turn is found. -/
theorem mBest_is {s : Nat} {D : List Int} {k : Nat} (hk : k < 4) (hw : mWr s (mPix s D k) s < 4 * (s : Int)) (h : ∀ j, j < 4 → j ≠ k → mWr s (mPix s D k) s < mWr s (mPix s D j) s) : mBest s D 4 = (k, mWr s (mPix s D k) s) := by
  have lo : ∀ n, n ≤ k → mWr s (mPix s D k) s < (mBest s D n).2 := fun n hn => by
    induction n with
    | zero => exact hw
    | succ n ih =>
      simp only [mBest]
      split
      · exact h n (by omega) (by omega)
      · exact ih (by omega)
  have hi : ∀ n, k + 1 + n ≤ 4 → mBest s D (k + 1 + n) = (k, mWr s (mPix s D k) s) := fun n hn => by
    induction n with
    | zero => simp only [Nat.add_zero, mBest]; rw [if_pos (lo k (Nat.le_refl _))]
    | succ n ih =>
      rw [← Nat.add_assoc]
      simp only [mBest]
      rw [ih (by omega), if_neg (by have := h (k + 1 + n) (by omega) (by omega); dsimp only; omega)]
  have := hi (3 - k) (by omega)
  rwa [show k + 1 + (3 - k) = 4 by omega] at this
/-- The double sum, flat. -/
theorem sumN_flat {s : Nat} {f : Nat → Nat → Int} (hs : 0 < s) : ∀ n, sumN (fun y => sumN (fun x => f x y) s) n = sumN (fun i => f (i % s) (i / s)) (n * s)
  | 0 => by simp [sumN]
  | n + 1 => by
    simp only [sumN]
    rw [sumN_flat hs n, Nat.add_mul, Nat.one_mul, sumN_add]
    congr 1
    refine sumN_congr fun x hx => ?_
    rw [Nat.mul_comm, Nat.mul_add_mod, Nat.mod_eq_of_lt hx, Nat.mul_add_div hs, Nat.div_eq_of_lt hx, Nat.add_zero]
theorem cntB_sum (p : Nat → Bool) : ∀ n, sumN (fun i => mOne (p i)) n = (cntB p n : Int)
  | 0 => rfl
  | n + 1 => by
    simp only [sumN]
    rw [cntB_sum p n, cntB_succ]
    unfold mOne
    cases p n <;> simp
theorem mWr_cnt {s : Nat} {f : Nat → Nat → Bool} (hs : 0 < s) : mWr s f s = (cntB (fun i => mBad s f (i % s) (i / s)) (s * s) : Int) := by
  rw [mWr_sq]
  unfold sq2
  rw [sumN_flat hs, ← cntB_sum]
end Go.Proofs.Ythkilkjngincpaa
