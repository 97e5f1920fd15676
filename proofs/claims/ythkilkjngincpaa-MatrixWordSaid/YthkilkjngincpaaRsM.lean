/- Bytes as the field with 256 elements, and the sums of a code word. -/
import Derived.Test.YthkilkjngincpaaXMatrixWord0
import Derived.Test.YthkilkjngincpaaLists
namespace Go.Proofs.Ythkilkjngincpaa
open Go Go.Lite
set_option linter.unusedVariables false
set_option linter.unusedSimpArgs false
set_option maxRecDepth 100000
set_option maxHeartbeats 4000000

/-- Twice a byte. -/
def xt (a : BitVec 8) : BitVec 8 := (a <<< 1) ^^^ (if a.msb then 29#8 else 0#8)
theorem xt_xor (a b : BitVec 8) : xt (a ^^^ b) = xt a ^^^ xt b := by
  unfold xt
  rw [BitVec.shiftLeft_xor_distrib, BitVec.msb_xor]
  cases a.msb <;> cases b.msb <;> simp <;> grind
def mulB : Nat → BitVec 8 → BitVec 8 → BitVec 8
  | 0, _, _ => 0#8
  | n + 1, a, b => (if b.getLsbD 0 then a else 0#8) ^^^ mulB n (xt a) (b >>> 1)
theorem xor4 (a b c d : BitVec 8) : (a ^^^ b) ^^^ (c ^^^ d) = (a ^^^ c) ^^^ (b ^^^ d) := by
  rw [BitVec.xor_assoc, BitVec.xor_assoc, ← BitVec.xor_assoc b c d, BitVec.xor_comm b c, BitVec.xor_assoc c b d]
theorem mulB_xorL : ∀ (n : Nat) (a b c : BitVec 8), mulB n (a ^^^ b) c = mulB n a c ^^^ mulB n b c
  | 0, _, _, _ => by simp [mulB]
  | n + 1, a, b, c => by
    simp only [mulB]
    rw [xt_xor, mulB_xorL n, xor4]
    cases c.getLsbD 0 <;> simp
theorem mulB_xorR : ∀ (n : Nat) (a b c : BitVec 8), mulB n a (b ^^^ c) = mulB n a b ^^^ mulB n a c
  | 0, _, _, _ => by simp [mulB]
  | n + 1, a, b, c => by
    simp only [mulB]
    rw [BitVec.ushiftRight_xor_distrib, mulB_xorR n, xor4, BitVec.getLsbD_xor]
    cases b.getLsbD 0 <;> cases c.getLsbD 0 <;> simp
def mulF (a b : BitVec 8) : BitVec 8 := mulB 8 a b
theorem mulF_xorL (a b c : BitVec 8) : mulF (a ^^^ b) c = mulF a c ^^^ mulF b c := mulB_xorL 8 a b c
theorem mulF_xorR (a b c : BitVec 8) : mulF a (b ^^^ c) = mulF a b ^^^ mulF a c := mulB_xorR 8 a b c
theorem lin_zero {f : BitVec 8 → BitVec 8} (hf : ∀ x y, f (x ^^^ y) = f x ^^^ f y) : f 0#8 = 0#8 := by
  have := hf 0#8 0#8
  rw [BitVec.xor_self, BitVec.xor_self] at this
  exact this
def bas (i : Fin 8) : BitVec 8 := 1#8 <<< i.1
theorem bits_of : ∀ x : BitVec 8, x = (x &&& 1#8) ^^^ ((x &&& 2#8) ^^^ ((x &&& 4#8) ^^^ ((x &&& 8#8) ^^^ ((x &&& 16#8) ^^^ ((x &&& 32#8) ^^^ ((x &&& 64#8) ^^^ (x &&& 128#8))))))) := by decide
theorem bit_of : ∀ (x : BitVec 8) (i : Fin 8), x &&& bas i = 0#8 ∨ x &&& bas i = bas i := by decide
/-- Additive functions that agree on the single bits agree. -/
theorem lin_ext {f g : BitVec 8 → BitVec 8} (hf : ∀ x y, f (x ^^^ y) = f x ^^^ f y) (hg : ∀ x y, g (x ^^^ y) = g x ^^^ g y) (h : ∀ i : Fin 8, f (bas i) = g (bas i)) (x : BitVec 8) : f x = g x := by
  have one : ∀ i : Fin 8, f (x &&& bas i) = g (x &&& bas i) := fun i => by
    rcases bit_of x i with e | e
    · rw [e, lin_zero hf, lin_zero hg]
    · rw [e, h i]
  rw [bits_of x]
  simp only [hf, hg]
  have e : ∀ i : Fin 8, ∀ y, bas i = y → f (x &&& y) = g (x &&& y) := fun i y hy => by rw [← hy]; exact one i
  rw [e 0 1#8 (by decide), e 1 2#8 (by decide), e 2 4#8 (by decide), e 3 8#8 (by decide), e 4 16#8 (by decide), e 5 32#8 (by decide), e 6 64#8 (by decide), e 7 128#8 (by decide)]
theorem mulF_comm (a b : BitVec 8) : mulF a b = mulF b a :=
  lin_ext (f := fun a => mulF a b) (g := fun a => mulF b a) (fun _ _ => mulF_xorL _ _ _) (fun _ _ => mulF_xorR _ _ _) (fun i =>
    lin_ext (f := fun b => mulF (bas i) b) (g := fun b => mulF b (bas i)) (fun _ _ => mulF_xorR _ _ _) (fun _ _ => mulF_xorL _ _ _) (fun j => by revert i j; decide) b) a
theorem mulF_assoc (a b c : BitVec 8) : mulF (mulF a b) c = mulF a (mulF b c) :=
  lin_ext (f := fun a => mulF (mulF a b) c) (g := fun a => mulF a (mulF b c)) (fun _ _ => by simp only [mulF_xorL]) (fun _ _ => mulF_xorL _ _ _) (fun i =>
    lin_ext (f := fun b => mulF (mulF (bas i) b) c) (g := fun b => mulF (bas i) (mulF b c)) (fun _ _ => by simp only [mulF_xorL, mulF_xorR]) (fun _ _ => by simp only [mulF_xorL, mulF_xorR]) (fun j =>
      lin_ext (f := fun c => mulF (mulF (bas i) (bas j)) c) (g := fun c => mulF (bas i) (mulF (bas j) c)) (fun _ _ => mulF_xorR _ _ _) (fun _ _ => by simp only [mulF_xorR]) (fun k => by revert i j k; decide) c) b) a
theorem mulF_one (a : BitVec 8) : mulF a 1#8 = a :=
  lin_ext (f := fun a => mulF a 1#8) (g := fun a => a) (fun _ _ => mulF_xorL _ _ _) (fun _ _ => rfl) (fun i => by revert i; decide) a
theorem mulF_zeroL (a : BitVec 8) : mulF 0#8 a = 0#8 := lin_zero (f := fun x => mulF x a) fun _ _ => mulF_xorL _ _ _
theorem mulF_zeroR (a : BitVec 8) : mulF a 0#8 = 0#8 := lin_zero (f := fun x => mulF a x) fun _ _ => mulF_xorR _ _ _

/-- Horner's sum of n symbols. -/
def hor (r : BitVec 8) (f : Nat → BitVec 8) : Nat → BitVec 8
  | 0 => 0#8
  | n + 1 => mulF (hor r f n) r ^^^ f n
def itr (r : BitVec 8) (x : BitVec 8) : Nat → BitVec 8
  | 0 => x
  | n + 1 => mulF (itr r x n) r
theorem itr_xor (r x y : BitVec 8) : ∀ n, itr r (x ^^^ y) n = itr r x n ^^^ itr r y n
  | 0 => rfl
  | n + 1 => by simp only [itr]; rw [itr_xor, mulF_xorL]
theorem itr_zero (r : BitVec 8) : ∀ n, itr r 0#8 n = 0#8
  | 0 => rfl
  | n + 1 => by simp only [itr]; rw [itr_zero, mulF_zeroL]
theorem itr_succ (r x : BitVec 8) : ∀ n, itr r x (n + 1) = itr r (mulF x r) n
  | 0 => rfl
  | n + 1 => by rw [itr, itr_succ r x n]; rfl
theorem itr_mul (r x y : BitVec 8) : ∀ n, itr r (mulF x y) n = mulF x (itr r y n)
  | 0 => rfl
  | n + 1 => by simp only [itr]; rw [itr_mul, mulF_assoc]
theorem hor_congr {r : BitVec 8} {f g : Nat → BitVec 8} : ∀ {n : Nat}, (∀ i, i < n → f i = g i) → hor r f n = hor r g n
  | 0, _ => rfl
  | n + 1, h => by simp only [hor]; rw [hor_congr fun i hi => h i (by omega), h n (by omega)]
theorem hor_xor {r : BitVec 8} {f g : Nat → BitVec 8} : ∀ {n : Nat}, hor r (fun i => f i ^^^ g i) n = hor r f n ^^^ hor r g n
  | 0 => by simp [hor]
  | n + 1 => by simp only [hor]; rw [hor_xor, mulF_xorL, xor4]
theorem hor_mulL {r x : BitVec 8} {f : Nat → BitVec 8} : ∀ {n : Nat}, hor r (fun i => mulF x (f i)) n = mulF x (hor r f n)
  | 0 => by simp [hor, mulF_zeroR]
  | n + 1 => by simp only [hor]; rw [hor_mulL, mulF_xorR, mulF_assoc]
theorem hor_mulR {r x : BitVec 8} {f : Nat → BitVec 8} {n : Nat} : hor r (fun i => mulF (f i) x) n = mulF (hor r f n) x := by
  rw [hor_congr fun i _ => mulF_comm (f i) x, hor_mulL, mulF_comm]
theorem hor_app {r : BitVec 8} {f : Nat → BitVec 8} {n : Nat} : ∀ {m : Nat}, hor r f (n + m) = itr r (hor r f n) m ^^^ hor r (fun k => f (n + k)) m
  | 0 => by simp [hor, itr]
  | m + 1 => by
    rw [← Nat.add_assoc]
    simp only [hor, itr]
    rw [hor_app, mulF_xorL, BitVec.xor_assoc]
theorem hor_head {r : BitVec 8} {f : Nat → BitVec 8} {m : Nat} : hor r f (m + 1) = itr r (f 0) m ^^^ hor r (fun k => f (k + 1)) m := by
  have := hor_app (r := r) (f := f) (n := 1) (m := m)
  rw [Nat.add_comm] at this
  rw [this]
  simp only [hor, mulF_zeroL, BitVec.zero_xor]
  congr 1
  exact hor_congr fun i _ => by rw [Nat.add_comm]

/-- The coefficients of the generator with roots w 0, w 1, .. -/
def gco (w : Nat → BitVec 8) : Nat → Nat → BitVec 8
  | 0, k => if k = 0 then 1#8 else 0#8
  | j + 1, 0 => mulF (gco w j 0) (w j)
  | j + 1, k + 1 => mulF (gco w j (k + 1)) (w j) ^^^ gco w j k
theorem gco_out (w : Nat → BitVec 8) : ∀ (j k : Nat), j < k → gco w j k = 0#8
  | 0, k, h => by simp only [gco]; rw [if_neg (by omega)]
  | j + 1, 0, h => by omega
  | j + 1, k + 1, h => by simp only [gco]; rw [gco_out w j (k + 1) (by omega), gco_out w j k (by omega), mulF_zeroL, BitVec.xor_self]
theorem gco_top (w : Nat → BitVec 8) : ∀ j, gco w j j = 1#8
  | 0 => rfl
  | j + 1 => by simp only [gco]; rw [gco_out w j (j + 1) (by omega), gco_top w j, mulF_zeroL, BitVec.zero_xor]
theorem gco_step {w : Nat → BitVec 8} {r : BitVec 8} {j : Nat} : hor r (fun k => gco w (j + 1) (j + 1 - k)) (j + 2) = mulF (hor r (fun k => gco w j (j - k)) (j + 1)) (w j) ^^^ mulF (hor r (fun k => gco w j (j - k)) (j + 1)) r := by
  have e : ∀ k, k < j + 2 → gco w (j + 1) (j + 1 - k) = mulF (gco w j (j + 1 - k)) (w j) ^^^ (if k = j + 1 then 0#8 else gco w j (j - k)) := fun k hk => by
    by_cases h : k = j + 1
    · subst h
      rw [if_pos rfl, Nat.sub_self]
      simp only [gco]
      rw [BitVec.xor_zero]
    · rw [if_neg h, show j + 1 - k = (j - k) + 1 by omega]
      simp only [gco]
  rw [hor_congr e, hor_xor, hor_mulR]
  congr 1
  · congr 1
    rw [hor_head]
    rw [gco_out w j (j + 1 - 0) (by omega), itr_zero, BitVec.zero_xor]
    exact hor_congr fun k hk => by rw [show j + 1 - (k + 1) = j - k by omega]
  · rw [show j + 2 = (j + 1) + 1 by omega, hor, if_pos rfl, BitVec.xor_zero]
    congr 1
    exact hor_congr fun k hk => if_neg (by omega)
/-- Each of the roots is one of the generator. -/
theorem gco_root {w : Nat → BitVec 8} {i : Nat} : ∀ {j : Nat}, i < j → hor (w i) (fun k => gco w j (j - k)) (j + 1) = 0#8
  | 0, h => by omega
  | j + 1, h => by
    rw [gco_step]
    by_cases e : i = j
    · subst e; exact BitVec.xor_self
    · rw [gco_root (by omega), mulF_zeroL, mulF_zeroL, BitVec.xor_self]
/-- The remainder after n symbols. -/
def rmd (w : Nat → BitVec 8) (t : Nat) (f : Nat → BitVec 8) : Nat → Nat → BitVec 8
  | 0, _ => 0#8
  | n + 1, k => (if k + 1 < t then rmd w t f n (k + 1) else 0#8) ^^^ mulF (f n ^^^ rmd w t f n 0) (gco w t (t - 1 - k))
theorem rmd_hor {w : Nat → BitVec 8} {t : Nat} {f : Nat → BitVec 8} {i : Nat} (hi : i < t) : ∀ n, hor (w i) (rmd w t f n) t = itr (w i) (hor (w i) f n) t
  | 0 => by
    rw [hor, itr_zero]
    have : ∀ m, hor (w i) (rmd w t f 0) m = 0#8 := fun m => by
      induction m with
      | zero => rfl
      | succ m ih => rw [hor, ih, mulF_zeroL]; simp [rmd]
    exact this t
  | n + 1 => by
    obtain ⟨t', rfl⟩ : ∃ t', t = t' + 1 := ⟨t - 1, by omega⟩
    have ih := rmd_hor (w := w) (f := f) hi n
    generalize hs : rmd w (t' + 1) f n = s at *
    have e1 : hor (w i) (rmd w (t' + 1) f (n + 1)) (t' + 1) = hor (w i) (fun k => if k + 1 < t' + 1 then s (k + 1) else 0#8) (t' + 1) ^^^ hor (w i) (fun k => mulF (f n ^^^ s 0) (gco w (t' + 1) (t' + 1 - 1 - k))) (t' + 1) := by
      rw [← hor_xor]
      exact hor_congr fun k _ => by simp only [rmd]; rw [hs]
    have e2 : hor (w i) (fun k => if k + 1 < t' + 1 then s (k + 1) else 0#8) (t' + 1) = mulF (hor (w i) s (t' + 1)) (w i) ^^^ itr (w i) (s 0) (t' + 1) := by
      rw [hor, if_neg (by omega), BitVec.xor_zero, hor_head (f := s), mulF_xorL, hor_congr (g := fun k => s (k + 1)) fun k hk => if_pos (by omega)]
      simp only [itr]
      rw [BitVec.xor_comm (mulF (itr (w i) (s 0) t') (w i)), BitVec.xor_assoc, BitVec.xor_self, BitVec.xor_zero]
    have e3 : hor (w i) (fun k => gco w (t' + 1) (t' + 1 - 1 - k)) (t' + 1) = itr (w i) 1#8 (t' + 1) := by
      have := gco_root (w := w) hi
      rw [hor_head] at this
      rw [Nat.sub_zero, gco_top] at this
      have e4 : hor (w i) (fun k => gco w (t' + 1) (t' + 1 - (k + 1))) (t' + 1) = hor (w i) (fun k => gco w (t' + 1) (t' + 1 - 1 - k)) (t' + 1) := hor_congr fun k _ => by rw [show t' + 1 - (k + 1) = t' + 1 - 1 - k by omega]
      rw [e4] at this
      have h2 := congrArg (itr (w i) 1#8 (t' + 1) ^^^ ·) this
      simp only [BitVec.xor_zero] at h2
      rw [← BitVec.xor_assoc, BitVec.xor_self, BitVec.zero_xor] at h2
      exact h2
    rw [e1, e2, hor_mulL, e3, ih, ← itr_mul, mulF_one, itr_xor, hor, itr_xor]
    rw [show mulF (itr (w i) (hor (w i) f n) (t' + 1)) (w i) = itr (w i) (mulF (hor (w i) f n) (w i)) (t' + 1) from by rw [← itr_succ]; rfl]
    generalize itr (w i) (s 0) (t' + 1) = z
    generalize itr (w i) (f n) (t' + 1) = y
    rw [BitVec.xor_comm y z, BitVec.xor_assoc, ← BitVec.xor_assoc z z y, BitVec.xor_self, BitVec.zero_xor]
/-- The symbols and their remainder make a word with all sums zero. -/
def word (w : Nat → BitVec 8) (t n : Nat) (f : Nat → BitVec 8) (k : Nat) : BitVec 8 := if k < n then f k else rmd w t f n (k - n)
theorem word_ok {w : Nat → BitVec 8} {t n : Nat} {f : Nat → BitVec 8} {i : Nat} (hi : i < t) : hor (w i) (word w t n f) (n + t) = 0#8 := by
  rw [hor_app, hor_congr (f := word w t n f) (g := f) fun k hk => if_pos hk, hor_congr (f := fun k => word w t n f (n + k)) (g := rmd w t f n) fun k _ => by unfold word; rw [if_neg (by omega), Nat.add_sub_cancel_left], rmd_hor hi, BitVec.xor_self]
end Go.Proofs.Ythkilkjngincpaa
