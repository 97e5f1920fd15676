/- The field of 256 elements: powers, inverses, sums; Vandermonde and division by a linear factor. -/
import Derived.Test.YthkilkjngincpaaMtx2
namespace Go.Proofs.Ythkilkjngincpaa
open Go Go.Lite
set_option linter.unusedVariables false
set_option linter.unusedSimpArgs false
set_option maxRecDepth 100000
set_option maxHeartbeats 4000000

theorem mulF_oneL (a : BitVec 8) : mulF 1#8 a = a := by rw [mulF_comm, mulF_one]
theorem mulF_left (a b c : BitVec 8) : mulF a (mulF b c) = mulF b (mulF a c) := by rw [← mulF_assoc, mulF_comm a b, mulF_assoc]
def pw (x : BitVec 8) : Nat → BitVec 8
  | 0 => 1#8
  | n + 1 => mulF (pw x n) x
theorem pw_one (x : BitVec 8) : pw x 1 = x := by simp only [pw]; exact mulF_oneL x
theorem pw_add (x : BitVec 8) (a : Nat) : ∀ b, pw x (a + b) = mulF (pw x a) (pw x b)
  | 0 => by simp only [pw, Nat.add_zero, mulF_one]
  | b + 1 => by rw [← Nat.add_assoc]; simp only [pw]; rw [pw_add x a b, mulF_assoc]
theorem pw_mul (x y : BitVec 8) : ∀ n, pw (mulF x y) n = mulF (pw x n) (pw y n)
  | 0 => by simp only [pw, mulF_one]
  | n + 1 => by simp only [pw]; rw [pw_mul x y n, mulF_assoc, mulF_assoc]; congr 1; rw [mulF_left]
theorem pw_one1 : ∀ n, pw 1#8 n = 1#8
  | 0 => rfl
  | n + 1 => by simp only [pw]; rw [pw_one1 n, mulF_one]
theorem pw_sq (x : BitVec 8) (n : Nat) : pw (mulF x x) n = pw x (2 * n) := by rw [pw_mul, Nat.two_mul, pw_add]
theorem pw_pw (x : BitVec 8) (a : Nat) : ∀ b, pw (pw x a) b = pw x (a * b)
  | 0 => rfl
  | b + 1 => by simp only [pw]; rw [pw_pw x a b, Nat.mul_add, Nat.mul_one, pw_add]
theorem pwF_pw (n : Nat) : ∀ acc x, pwF acc x n = mulF acc (pw x n) := by
  induction n using Nat.strongRecOn with
  | _ n ih =>
    intro acc x
    rw [pwF]
    by_cases h : n = 0
    · subst h; rw [dif_pos rfl]; simp only [pw, mulF_one]
    · rw [dif_neg h, ih (n / 2) (by omega), pw_sq]
      by_cases ho : n % 2 = 1
      · rw [if_pos ho, mulF_assoc]
        congr 1
        have e : n = 2 * (n / 2) + 1 := by omega
        conv => rhs; rw [e]; simp only [pw]
        rw [mulF_comm]
      · rw [if_neg ho]
        congr 2; omega
theorem rt_pw (i : Nat) : rt i = pw 2#8 i := by unfold rt; rw [pwF_pw, mulF_oneL]
/-- The inverse. -/
def iv (x : BitVec 8) : BitVec 8 := pw x 254
def fer (x : BitVec 8) : BitVec 8 :=
  let a := mulF x x; let b := mulF a a; let c := mulF b b; let d := mulF c c; let e := mulF d d; let f := mulF e e; let g := mulF f f
  mulF x (mulF a (mulF b (mulF c (mulF d (mulF e (mulF f g))))))
theorem fer_one : ∀ x : BitVec 8, x = 0#8 ∨ fer x = 1#8 := by decide +kernel
theorem pw_255 (x : BitVec 8) : pw x 255 = fer x := by
  have odd : ∀ y n, pw y (2 * n + 1) = mulF y (pw (mulF y y) n) := fun y n => by simp only [pw]; rw [pw_sq, mulF_comm]
  rw [show 255 = 2 * 127 + 1 from rfl, odd, show 127 = 2 * 63 + 1 from rfl, odd, show 63 = 2 * 31 + 1 from rfl, odd, show 31 = 2 * 15 + 1 from rfl, odd, show 15 = 2 * 7 + 1 from rfl, odd, show 7 = 2 * 3 + 1 from rfl, odd, show 3 = 2 * 1 + 1 from rfl, odd, pw_one]
  rfl
theorem iv_mul {x : BitVec 8} (h : x ≠ 0#8) : mulF x (iv x) = 1#8 := by
  have e : mulF x (iv x) = pw x 255 := by rw [mulF_comm]; rfl
  rw [e, pw_255]
  exact (fer_one x).resolve_left h
theorem mulF_nz {a b : BitVec 8} (ha : a ≠ 0#8) (hb : b ≠ 0#8) : mulF a b ≠ 0#8 := fun h => by
  have h2 : mulF (iv a) (mulF a b) = b := by rw [← mulF_assoc, mulF_comm (iv a), iv_mul ha, mulF_oneL]
  rw [h, mulF_zeroR] at h2
  exact hb h2.symm
theorem mulF_zero {a b : BitVec 8} (h : mulF a b = 0#8) (ha : a ≠ 0#8) : b = 0#8 := Decidable.byContradiction fun hb => mulF_nz ha hb h
theorem pw_nz {x : BitVec 8} (h : x ≠ 0#8) : ∀ n, pw x n ≠ 0#8
  | 0 => by show 1#8 ≠ 0#8; decide
  | n + 1 => mulF_nz (pw_nz h n) h
theorem xcan (a b : BitVec 8) : a ^^^ (a ^^^ b) = b := by rw [← BitVec.xor_assoc, BitVec.xor_self, BitVec.zero_xor]
theorem xcm (a b c : BitVec 8) : a ^^^ (b ^^^ c) = b ^^^ (a ^^^ c) := by rw [← BitVec.xor_assoc, BitVec.xor_comm a b, BitVec.xor_assoc]
theorem xor_zero_eq {a b : BitVec 8} (h : a ^^^ b = 0#8) : a = b := by
  have h2 : a ^^^ b ^^^ b = b := by rw [h, BitVec.zero_xor]
  rwa [BitVec.xor_assoc, BitVec.xor_self, BitVec.xor_zero] at h2
def chk : Nat → BitVec 8 → Bool
  | 0, _ => true
  | n + 1, x => (x != 1#8) && chk n (mulF x 2#8)
theorem chk_ok : ∀ n x, chk n x = true → ∀ d, d < n → mulF x (pw 2#8 d) ≠ 1#8
  | 0, _, _, d, h => by omega
  | n + 1, x, h, d, hd => by
    simp only [chk, Bool.and_eq_true, bne_iff_ne] at h
    cases d with
    | zero => simp only [pw, mulF_one]; exact h.1
    | succ d =>
      have := chk_ok n (mulF x 2#8) h.2 d (by omega)
      rwa [mulF_assoc, mulF_comm 2#8] at this
theorem two_order {d : Nat} (h : 1 ≤ d ∧ d < 255) : pw 2#8 d ≠ 1#8 := by
  have hc : chk 254 2#8 = true := by decide +kernel
  obtain ⟨e, rfl⟩ : ∃ e, d = e + 1 := ⟨d - 1, by omega⟩
  have := chk_ok 254 2#8 hc e (by omega)
  rwa [mulF_comm] at this
theorem two_nz : (2#8 : BitVec 8) ≠ 0#8 := by decide
theorem two_inj {a b : Nat} (ha : a < 255) (hb : b < 255) (h : pw 2#8 a = pw 2#8 b) : a = b := by
  have key : ∀ a b : Nat, a < b → b < 255 → pw 2#8 a ≠ pw 2#8 b := fun a b hab hb h => by
    have e : pw 2#8 b = mulF (pw 2#8 a) (pw 2#8 (b - a)) := by rw [← pw_add]; congr 1; omega
    rw [e] at h
    have h2 : mulF (iv (pw 2#8 a)) (pw 2#8 a) = mulF (iv (pw 2#8 a)) (mulF (pw 2#8 a) (pw 2#8 (b - a))) := by rw [← h]
    rw [← mulF_assoc, mulF_comm (iv _), iv_mul (pw_nz two_nz a), mulF_oneL] at h2
    exact two_order (by omega) h2.symm
  rcases Nat.lt_trichotomy a b with h1 | h1 | h1
  · exact absurd h (key a b h1 hb)
  · exact h1
  · exact absurd h.symm (key b a h1 ha)

/-- Sums over the first n numbers. -/
def xs (f : Nat → BitVec 8) : Nat → BitVec 8
  | 0 => 0#8
  | n + 1 => xs f n ^^^ f n
theorem xs_congr {f g : Nat → BitVec 8} : ∀ {n : Nat}, (∀ i, i < n → f i = g i) → xs f n = xs g n
  | 0, _ => rfl
  | n + 1, h => by simp only [xs]; rw [xs_congr fun i hi => h i (by omega), h n (by omega)]
theorem xs_zero {f : Nat → BitVec 8} {n : Nat} (h : ∀ i, i < n → f i = 0#8) : xs f n = 0#8 := by
  rw [xs_congr (g := fun _ => 0#8) h]
  induction n with
  | zero => rfl
  | succ n ih => simp only [xs]; rw [ih fun i hi => h i (by omega), BitVec.xor_zero]
theorem xs_xor {f g : Nat → BitVec 8} : ∀ {n : Nat}, xs (fun i => f i ^^^ g i) n = xs f n ^^^ xs g n
  | 0 => by simp [xs]
  | n + 1 => by simp only [xs]; rw [xs_xor, xor4]
theorem xs_mulL {x : BitVec 8} {f : Nat → BitVec 8} : ∀ {n : Nat}, xs (fun i => mulF x (f i)) n = mulF x (xs f n)
  | 0 => by simp [xs, mulF_zeroR]
  | n + 1 => by simp only [xs]; rw [xs_mulL, mulF_xorR]
theorem xs_mulR {x : BitVec 8} {f : Nat → BitVec 8} {n : Nat} : xs (fun i => mulF (f i) x) n = mulF (xs f n) x := by
  rw [xs_congr fun i _ => mulF_comm (f i) x, xs_mulL, mulF_comm]
theorem xs_swap {f : Nat → Nat → BitVec 8} {m : Nat} : ∀ {n : Nat}, xs (fun i => xs (fun j => f i j) m) n = xs (fun j => xs (fun i => f i j) n) m
  | 0 => (xs_zero fun _ _ => rfl).symm
  | n + 1 => by simp only [xs]; rw [xs_swap, xs_xor]
theorem xs_more {f : Nat → BitVec 8} {m n : Nat} (h : m ≤ n) (hz : ∀ i, m ≤ i → i < n → f i = 0#8) : xs f n = xs f m := by
  induction n with
  | zero => rw [show m = 0 by omega]
  | succ n ih =>
    by_cases e : m = n + 1
    · rw [e]
    · simp only [xs]; rw [ih (by omega) (fun i h1 h2 => hz i h1 (by omega)), hz n (by omega) (by omega), BitVec.xor_zero]
theorem xs_single {f : Nat → BitVec 8} {n i : Nat} (hi : i < n) (hz : ∀ j, j < n → j ≠ i → f j = 0#8) : xs f n = f i := by
  rw [xs_more (m := i + 1) (by omega) fun j h1 h2 => hz j h2 (by omega)]
  simp only [xs]
  rw [xs_zero fun j hj => hz j (by omega) (by omega), BitVec.zero_xor]
theorem xs_front {f : Nat → BitVec 8} : ∀ {n : Nat}, xs f (n + 1) = f 0 ^^^ xs (fun i => f (i + 1)) n
  | 0 => by simp [xs]
  | n + 1 => by rw [xs, xs_front]; simp only [xs]; rw [BitVec.xor_assoc]
theorem xs_shift {f : Nat → BitVec 8} {g : Nat} : ∀ {n : Nat}, xs (fun i => if g ≤ i then f (i - g) else 0#8) (g + n) = xs f n
  | 0 => by rw [Nat.add_zero]; exact xs_zero fun i hi => if_neg (by omega)
  | n + 1 => by
    rw [← Nat.add_assoc]
    simp only [xs]
    rw [xs_shift, if_pos (by omega), show g + n - g = n by omega]

/-- The value of a polynomial with m coefficients. -/
def ev (c : Nat → BitVec 8) (m : Nat) (y : BitVec 8) : BitVec 8 := xs (fun k => mulF (c k) (pw y k)) m
theorem ev_succ {c : Nat → BitVec 8} {m : Nat} {y : BitVec 8} : ev c (m + 1) y = ev c m y ^^^ mulF (c m) (pw y m) := rfl
theorem ev_xor {c d : Nat → BitVec 8} {m : Nat} {y : BitVec 8} : ev (fun k => c k ^^^ d k) m y = ev c m y ^^^ ev d m y := by
  unfold ev
  rw [← xs_xor]
  exact xs_congr fun k _ => mulF_xorL _ _ _
theorem ev_mul {c : Nat → BitVec 8} {m : Nat} {x y : BitVec 8} : ev (fun k => mulF x (c k)) m y = mulF x (ev c m y) := by
  unfold ev
  rw [← xs_mulL]
  exact xs_congr fun k _ => mulF_assoc _ _ _
theorem ev_more {c : Nat → BitVec 8} {m n : Nat} {y : BitVec 8} (h : m ≤ n) (hz : ∀ k, m ≤ k → c k = 0#8) : ev c n y = ev c m y :=
  xs_more h fun k h1 _ => by rw [hz k h1, mulF_zeroL]
/-- A polynomial times x^g. -/
def shf (g : Nat) (c : Nat → BitVec 8) (k : Nat) : BitVec 8 := if g ≤ k then c (k - g) else 0#8
theorem ev_shf {c : Nat → BitVec 8} {g m n : Nat} {y : BitVec 8} (h : m + g ≤ n) (hz : ∀ k, m ≤ k → c k = 0#8) : ev (shf g c) n y = mulF (pw y g) (ev c n y) := by
  have h1 : ev (shf g c) n y = ev (shf g c) (g + m) y := ev_more (by omega) fun k hk => by
    unfold shf; rw [if_pos (by omega)]; exact hz _ (by omega)
  rw [h1, ev_more (n := n) (m := m) (by omega) hz]
  unfold ev
  rw [← xs_mulL]
  conv => rhs; rw [← xs_shift (g := g)]
  refine xs_congr fun k hk => ?_
  unfold shf
  by_cases hg : g ≤ k
  · rw [if_pos hg, if_pos hg, mulF_left]
    congr 1
    rw [← pw_add]; congr 1; omega
  · rw [if_neg hg, if_neg hg, mulF_zeroL]
/-- Horner's sum as a sum of powers. -/
theorem hor_xs (r : BitVec 8) (f : Nat → BitVec 8) : ∀ n, hor r f n = xs (fun j => mulF (f j) (pw r (n - 1 - j))) n
  | 0 => rfl
  | n + 1 => by
    simp only [hor, xs]
    rw [hor_xs r f n, ← xs_mulR, show n + 1 - 1 - n = 0 by omega]
    simp only [pw, mulF_one]
    congr 1
    refine xs_congr fun j hj => ?_
    rw [mulF_assoc, show n + 1 - 1 - j = (n - 1 - j) + 1 by omega]
    rfl
/-- Horner's sum is the value at the inverse, but for a power. -/
theorem hor_ev {x y : BitVec 8} (h : mulF x y = 1#8) (c : Nat → BitVec 8) (m : Nat) : hor x c (m + 1) = mulF (pw x m) (ev c (m + 1) y) := by
  rw [hor_xs]
  unfold ev
  rw [← xs_mulL]
  refine xs_congr fun j hj => ?_
  rw [mulF_left]
  congr 1
  rw [show m + 1 - 1 - j = m - j by omega, show pw x m = mulF (pw x (m - j)) (pw x j) by rw [← pw_add]; congr 1; omega, mulF_assoc, ← pw_mul, h, pw_one1, mulF_one]
/-- Division by a linear factor. -/
theorem ev_div (x y : BitVec 8) (c : Nat → BitVec 8) : ∀ m, ev c m y = mulF (1#8 ^^^ mulF x y) (ev (fun k => hor x c (k + 1)) m y) ^^^ mulF x (mulF (pw y m) (hor x c m))
  | 0 => by simp [ev, xs, hor, mulF_zeroR]
  | m + 1 => by
    rw [ev_succ, ev_succ, ev_div x y c m]
    generalize ev (fun k => hor x c (k + 1)) m y = E
    have hc : c m = hor x c (m + 1) ^^^ mulF x (hor x c m) := by
      simp only [hor]
      rw [mulF_comm x, BitVec.xor_comm (mulF (hor x c m) x), BitVec.xor_assoc, BitVec.xor_self, BitVec.xor_zero]
    rw [hc]
    generalize hor x c (m + 1) = H
    generalize hor x c m = G
    simp only [pw]
    generalize pw y m = p
    simp only [mulF_xorL, mulF_xorR, mulF_oneL]
    have e1 : mulF (mulF x G) p = mulF x (mulF p G) := by rw [mulF_assoc, mulF_comm G]
    have e2 : mulF (mulF x y) (mulF H p) = mulF x (mulF (mulF p y) H) := by rw [mulF_assoc, mulF_comm p y, mulF_assoc y p H, mulF_comm H p]
    rw [e1, e2]
    generalize mulF x (mulF p G) = a
    generalize mulF x (mulF (mulF p y) H) = b
    generalize mulF (mulF x y) E = d
    generalize mulF H p = f
    simp only [BitVec.xor_assoc, BitVec.xor_comm, xcm, xcan, BitVec.xor_self, BitVec.xor_zero, BitVec.zero_xor]
end Go.Proofs.Ythkilkjngincpaa
