/- Merged: LinW Bm Bits1 Bits2 Mtx1 RsM. -/
import Derived.Test.YthkilkjngincpaaLin6
import Derived.Test.YthkilkjngincpaaGo
import Derived.Test.YthkilkjngincpaaLin2
import Derived.Test.YthkilkjngincpaaXTopMatrixRead0
namespace Go.Proofs.Ythkilkjngincpaa
open Go Go.Lite
set_option linter.unusedVariables false
set_option linter.unusedSimpArgs false
set_option maxRecDepth 100000
set_option maxHeartbeats 4000000
-- @simp rdi rdy

def z2 : List Int := [48, 48]
theorem z2_dig : Dig z2 := by intro i hi; have : i = 0 ∨ i = 1 := by (have : z2.length = 2 := rfl); omega
                              rcases this with rfl | rfl <;> decide
def z2C : List Int := [4, 1, 1, 2, 1, 2, 1, 1, 1, 1, 4, 3, 1, 1, 1, 1, 4, 3, 4, 1, 1, 3, 1, 1, 2]
theorem z2_code : code z2 = z2C := by decide +kernel
end Go.Proofs.Ythkilkjngincpaa
namespace Go.Proofs.Ythkilkjngincpaa
open Go Go.Lite
set_option linter.unusedVariables false
set_option linter.unusedSimpArgs false
set_option maxRecDepth 100000
set_option maxHeartbeats 4000000

/-- The number whose binary digits are g 0, .., g (n - 1), the first the greatest. -/
def bitsN (g : Nat → Bool) : Nat → Nat
  | 0 => 0
  | n + 1 => 2 * bitsN g n + (g n).toNat
theorem bitsN_lt (g : Nat → Bool) : ∀ n, bitsN g n < 2 ^ n
  | 0 => by simp [bitsN]
  | n + 1 => by
    have := bitsN_lt g n
    simp only [bitsN, Nat.pow_succ]
    have : (g n).toNat ≤ 1 := Bool.toNat_le _
    omega
theorem tb_zero {a : Nat} {b : Bool} : (2 * a + b.toNat).testBit 0 = b := by
  rw [Nat.testBit_zero]; cases b <;> simp <;> omega
theorem tb_succ {a m : Nat} {b : Bool} : (2 * a + b.toNat).testBit (m + 1) = a.testBit m := by
  rw [Nat.testBit_succ]; congr 1; cases b <;> simp <;> omega
theorem bitsN_bit (g : Nat → Bool) : ∀ n m, (bitsN g n).testBit m = if m < n then g (n - 1 - m) else false
  | 0, m => by simp [bitsN]
  | n + 1, 0 => by simp only [bitsN, tb_zero]; simp
  | n + 1, m + 1 => by
    simp only [bitsN, tb_succ]
    rw [bitsN_bit g n m]
    by_cases h : m < n
    · rw [if_pos h, if_pos (by omega)]; congr 1; omega
    · rw [if_neg h, if_neg (by omega)]
theorem bitsN_congr {f g : Nat → Bool} : ∀ {n : Nat}, (∀ i, i < n → f i = g i) → bitsN f n = bitsN g n
  | 0, _ => rfl
  | n + 1, h => by simp only [bitsN]; rw [bitsN_congr fun i hi => h i (by omega), h n (by omega)]

/-- Pixel b, from the left, of a byte. -/
def bt (v : Int) (b : Nat) : Bool := v.toNat.testBit (7 - b)
theorem byte_ext {u v : Int} (hu : 0 ≤ u ∧ u ≤ 255) (hv : 0 ≤ v ∧ v ≤ 255) (h : ∀ b, b < 8 → bt u b = bt v b) : u = v := by
  have : u.toNat = v.toNat := Nat.eq_of_testBit_eq fun m => by
    rcases Nat.lt_or_ge m 8 with hm | hm
    · have := h (7 - m) (by omega)
      unfold bt at this
      rwa [show 7 - (7 - m) = m by omega] at this
    · have h2 : (256 : Nat) ≤ 2 ^ m := Nat.le_trans (show (256 : Nat) ≤ 2 ^ 8 by decide) (Nat.pow_le_pow_right (by omega) hm)
      rw [Nat.testBit_lt_two_pow (by omega), Nat.testBit_lt_two_pow (by omega)]
  omega
theorem sh_pow {b : Nat} (h : b < 8) : (128 : Int) / 2 ^ b = ((2 ^ (7 - b) : Nat) : Int) := by
  match b, h with
  | 0, _ | 1, _ | 2, _ | 3, _ | 4, _ | 5, _ | 6, _ | 7, _ => decide
theorem band_bt {v : Int} {b : Nat} (hb : b < 8) : (band v ((128 : Int) / 2 ^ b) = 0) = (bt v b = false) := by
  rw [sh_pow hb]
  simp only [band, Int.toNat_natCast, bt]
  have e : (((v.toNat &&& 2 ^ (7 - b) : Nat) : Int) = 0) = ((v.toNat &&& 2 ^ (7 - b)) = 0) := by simp
  rw [e]
  apply propext
  constructor
  · intro h
    have h2 := congrArg (·.testBit (7 - b)) h
    simp only [Nat.testBit_and, Nat.testBit_two_pow_self, Bool.and_true, Nat.zero_testBit] at h2
    exact h2
  · intro h
    refine Nat.eq_of_testBit_eq fun m => ?_
    rw [Nat.testBit_and, Nat.zero_testBit, Nat.testBit_two_pow]
    by_cases e : 7 - b = m
    · subst e; rw [h]; rfl
    · simp [e]
theorem bor_bd {a b : Int} (ha : 0 ≤ a ∧ a ≤ 255) (hb : 0 ≤ b ∧ b ≤ 255) : 0 ≤ bor a b ∧ bor a b ≤ 255 := by
  unfold bor
  have : a.toNat ||| b.toNat < 2 ^ 8 := Nat.or_lt_two_pow (by omega) (by omega)
  omega
theorem bt_bor {a b : Int} {k : Nat} : bt (bor a b) k = (bt a k || bt b k) := by
  simp only [bt, bor, Int.toNat_natCast, Nat.testBit_or]
theorem bt_sh {b k : Nat} (hb : b < 8) (hk : k < 8) : bt ((128 : Int) / 2 ^ b) k = decide (k = b) := by
  rw [sh_pow hb]
  simp only [bt, Int.toNat_natCast, Nat.testBit_two_pow]
  by_cases e : k = b
  · subst e; simp
  · rw [decide_eq_false e, decide_eq_false (by omega)]

/-- Bytes of a row of w pixels. -/
def st (w : Nat) : Nat := (w + 7) / 8
/-- The bytes of a bitmap. -/
def bmB (w : Nat) (f : Nat → Nat → Bool) (i : Nat) : Int := (bitsN (fun b => decide (8 * (i % st w) + b < w) && f (8 * (i % st w) + b) (i / st w)) 8 : Nat)
def bm (w h : Nat) (f : Nat → Nat → Bool) : List Int := tab (st w * h) (bmB w f)
theorem bm_len {w h : Nat} {f : Nat → Nat → Bool} : (bm w h f).length = st w * h := tab_len
theorem bmB_bd (w : Nat) (f : Nat → Nat → Bool) (i : Nat) : 0 ≤ bmB w f i ∧ bmB w f i ≤ 255 := by
  have := bitsN_lt (fun b => decide (8 * (i % st w) + b < w) && f (8 * (i % st w) + b) (i / st w)) 8
  unfold bmB; omega
theorem bm_get {w h : Nat} {f : Nat → Nat → Bool} {i : Nat} (hi : i < st w * h) : (bm w h f).getD i 0 = bmB w f i := tab_get hi
theorem bm_bd {w h : Nat} {f : Nat → Nat → Bool} {i : Nat} (hi : i < st w * h) : 0 ≤ (bm w h f).getD i 0 ∧ (bm w h f).getD i 0 ≤ 255 := by rw [bm_get hi]; exact bmB_bd _ _ _
theorem bmB_bit {w : Nat} {f : Nat → Nat → Bool} {i b : Nat} (hb : b < 8) : bt (bmB w f i) b = (decide (8 * (i % st w) + b < w) && f (8 * (i % st w) + b) (i / st w)) := by
  unfold bt bmB
  rw [Int.toNat_natCast, bitsN_bit, if_pos (by omega), show 8 - 1 - (7 - b) = b by omega]
theorem st_pos {w : Nat} (h : 0 < w) : 0 < st w := by unfold st; omega
/-- The byte of a pixel. -/
def at8 (w x y : Nat) : Nat := y * st w + x / 8
theorem at8_lt {w h x y : Nat} (hx : x < w) (hy : y < h) : at8 w x y < st w * h := by
  have h1 : x / 8 < st w := by unfold st; omega
  have h2 : (y + 1) * st w ≤ h * st w := Nat.mul_le_mul_right _ hy
  rw [Nat.mul_comm (st w) h]
  unfold at8
  rw [Nat.add_mul] at h2
  omega
theorem at8_mod {w x y : Nat} (hx : x < w) : at8 w x y % st w = x / 8 := by
  have h1 : x / 8 < st w := by unfold st; omega
  unfold at8
  rw [Nat.mul_comm, Nat.mul_add_mod, Nat.mod_eq_of_lt h1]
theorem at8_div {w x y : Nat} (hx : x < w) : at8 w x y / st w = y := by
  have h1 : x / 8 < st w := by unfold st; omega
  unfold at8
  rw [Nat.mul_comm, Nat.mul_add_div (by omega), Nat.div_eq_of_lt h1, Nat.add_zero]
theorem bm_pix {w h : Nat} {f : Nat → Nat → Bool} {x y : Nat} (hx : x < w) (hy : y < h) : bt ((bm w h f).getD (at8 w x y) 0) (x % 8) = f x y := by
  rw [bm_get (at8_lt hx hy), bmB_bit (by omega), at8_mod hx, at8_div hx, show 8 * (x / 8) + x % 8 = x by omega, decide_eq_true hx, Bool.true_and]
theorem bm_congr {w h : Nat} {f g : Nat → Nat → Bool} (e : ∀ x y, x < w → y < h → f x y = g x y) : bm w h f = bm w h g := by
  refine ext_getD 0 (by simp only [bm_len]) fun i hi => ?_
  rw [bm_len] at hi
  rw [bm_get hi, bm_get hi]
  unfold bmB
  refine congrArg (fun n : Nat => (n : Int)) ?_
  refine bitsN_congr fun b hb => ?_
  by_cases hw : 8 * (i % st w) + b < w
  · have h0 : 0 < st w := st_pos (by omega)
    rw [e _ _ hw (Nat.div_lt_of_lt_mul hi)]
  · rw [decide_eq_false hw]; rfl
/-- A pixel set. -/
theorem bm_mark {w h : Nat} {f : Nat → Nat → Bool} {x y : Nat} (hx : x < w) (hy : y < h) :
    (bm w h f).set (at8 w x y) (bor ((bm w h f).getD (at8 w x y) 0) ((128 : Int) / 2 ^ (x % 8))) = bm w h (fun i j => f i j || (decide (i = x) && decide (j = y))) := by
  have hl := at8_lt hx hy
  refine ext_getD 0 (by simp only [List.length_set, bm_len]) fun i hi => ?_
  simp only [List.length_set, bm_len] at hi
  have h0 : 0 < st w := st_pos (by omega)
  have hd : 8 * (i % st w) / 8 = i % st w := by omega
  have hsh : (0 : Int) ≤ (128 : Int) / 2 ^ (x % 8) ∧ (128 : Int) / 2 ^ (x % 8) ≤ 255 := by
    rw [sh_pow (by omega)]
    have h7 : (2 : Nat) ^ (7 - x % 8) ≤ 2 ^ 7 := Nat.pow_le_pow_right (by omega) (by omega)
    generalize (2 : Nat) ^ (7 - x % 8) = m at *
    omega
  by_cases e : at8 w x y = i
  · subst e
    rw [getD_set_eq (by rw [bm_len]; exact hl), bm_get hl, bm_get hl]
    refine byte_ext (bor_bd (bmB_bd _ _ _) hsh) (bmB_bd _ _ _) fun b hb => ?_
    rw [bt_bor, bt_sh (by omega) hb, bmB_bit hb, bmB_bit hb, at8_mod hx, at8_div hx]
    by_cases eb : b = x % 8
    · subst eb
      rw [show 8 * (x / 8) + x % 8 = x by omega, decide_eq_true hx]
      simp
    · rw [decide_eq_false eb, decide_eq_false (show ¬ 8 * (x / 8) + b = x by omega)]; simp
  · rw [getD_set_ne e, bm_get hi, bm_get hi]
    unfold bmB
    refine congrArg (fun n : Nat => (n : Int)) ?_
    refine bitsN_congr fun b hb => ?_
    by_cases ex : 8 * (i % st w) + b = x ∧ i / st w = y
    · exfalso
      apply e
      unfold at8
      have := Nat.div_add_mod i (st w)
      rw [ex.2, Nat.mul_comm] at this
      omega
    · have : (decide (8 * (i % st w) + b = x) && decide (i / st w = y)) = false := by
        rw [Bool.and_eq_false_iff, decide_eq_false_iff_not, decide_eq_false_iff_not]
        exact Decidable.not_and_iff_or_not.1 ex
      dsimp only
      rw [this, Bool.or_false]
theorem bm_blank {w h : Nat} : bm w h (fun _ _ => false) = List.replicate (st w * h) 0 := by
  refine ext_getD 0 (by simp [bm_len]) fun i hi => ?_
  rw [bm_len] at hi
  rw [bm_get hi, getD_repl hi]
  refine byte_ext (bmB_bd _ _ _) (by omega) fun b hb => ?_
  rw [bmB_bit hb]
  simp [bt]

/-- The pixel (x, y) of a bitmap, wherever. -/
def px (w h : Nat) (d : List Int) (x y : Int) : Bool := decide (0 ≤ x ∧ x < w ∧ 0 ≤ y ∧ y < h) && bt (d.getD (at8 w x.toNat y.toNat) 0) (x.toNat % 8)
theorem px_bm {w h : Nat} {f : Nat → Nat → Bool} {x y : Nat} (hx : x < w) (hy : y < h) : px w h (bm w h f) x y = f x y := by
  unfold px
  rw [decide_eq_true (by omega), Int.toNat_natCast, Int.toNat_natCast, bm_pix hx hy, Bool.true_and]
theorem px_out {w h : Nat} {d : List Int} {x y : Int} (hn : ¬ (0 ≤ x ∧ x < w ∧ 0 ≤ y ∧ y < h)) : px w h d x y = false := by
  unfold px; rw [decide_eq_false hn, Bool.false_and]
/-- A bitmap as it should be. -/
structure BmOk (w h : Nat) (d : List Int) : Prop where
  w1 : 1 ≤ w ∧ w ≤ 1024
  h1 : 1 ≤ h ∧ h ≤ 1024
  len : d.length = st w * h
  byte : ∀ i, i < d.length → 0 ≤ d.getD i 0 ∧ d.getD i 0 ≤ 255
  clear : ∀ y b, y < h → b < 8 → w ≤ 8 * (st w - 1) + b → bt (d.getD (y * st w + (st w - 1)) 0) b = false
theorem ok_is {w h : Nat} {d : List Int} (k : BmOk w h d) : d = bm w h (fun x y => px w h d x y) := by
  have h0 : 0 < st w := st_pos (by have := k.w1; omega)
  refine ext_getD 0 (by rw [bm_len]; exact k.len) fun i hi => ?_
  have hi' : i < st w * h := by rw [← k.len]; exact hi
  rw [bm_get hi']
  refine byte_ext (k.byte i hi) (bmB_bd _ _ _) fun b hb => ?_
  rw [bmB_bit hb]
  have hm := Nat.mod_lt i h0
  have hd := Nat.div_add_mod i (st w)
  have hy : i / st w < h := Nat.div_lt_of_lt_mul hi'
  by_cases hx : 8 * (i % st w) + b < w
  · rw [decide_eq_true hx, Bool.true_and]
    unfold px
    rw [decide_eq_true ⟨Int.natCast_nonneg _, Int.ofNat_lt.2 hx, Int.natCast_nonneg _, Int.ofNat_lt.2 hy⟩, Bool.true_and, Int.toNat_natCast, Int.toNat_natCast]
    unfold at8
    have g : ∀ m : Nat, (8 * m + b) / 8 = m ∧ (8 * m + b) % 8 = b := fun m => by omega
    rw [(g _).1, (g _).2, Nat.mul_comm (i / st w), hd]
  · rw [decide_eq_false hx, Bool.false_and]
    have e : i % st w = st w - 1 := by unfold st at hm hx ⊢; omega
    have := k.clear (i / st w) b hy hb (by rw [← e]; omega)
    rwa [← e, Nat.mul_comm (i / st w), hd] at this
theorem bm_ok {w h : Nat} {f : Nat → Nat → Bool} (hw : 1 ≤ w ∧ w ≤ 1024) (hh : 1 ≤ h ∧ h ≤ 1024) : BmOk w h (bm w h f) := by
  have h0 : 0 < st w := st_pos (by omega)
  refine ⟨hw, hh, bm_len, fun i hi => bm_bd (by rwa [bm_len] at hi), fun y b hy hb hc => ?_⟩
  have hl : y * st w + (st w - 1) < st w * h := by
    have h2 : (y + 1) * st w ≤ h * st w := Nat.mul_le_mul_right _ hy
    rw [Nat.mul_comm (st w) h]
    rw [Nat.add_mul] at h2
    omega
  rw [bm_get hl, bmB_bit hb, Nat.mul_comm y, Nat.mul_add_mod, Nat.mod_eq_of_lt (by omega), decide_eq_false (by omega), Bool.false_and]
theorem st_bd {w : Nat} (h : 1 ≤ w ∧ w ≤ 1024) : 1 ≤ st w ∧ st w ≤ 128 := by unfold st; omega
theorem len_bd {w h : Nat} (hw : 1 ≤ w ∧ w ≤ 1024) (hh : 1 ≤ h ∧ h ≤ 1024) : 1 ≤ st w * h ∧ st w * h ≤ 131072 := by
  have h1 := st_bd hw
  have h2 : st w * h ≤ 128 * 1024 := Nat.mul_le_mul h1.2 hh.2
  have h3 : 1 * 1 ≤ st w * h := Nat.mul_le_mul h1.1 hh.1
  omega
/-- The last bits of a byte. -/
theorem band_low {v : Int} {k : Nat} (hv : 0 ≤ v ∧ v ≤ 255) (hk : k ≤ 7) : (band v ((2 ^ k - 1 : Nat) : Int) = 0) ↔ ∀ b, b < 8 → 8 - k ≤ b → bt v b = false := by
  have e : band v ((2 ^ k - 1 : Nat) : Int) = ((v.toNat % 2 ^ k : Nat) : Int) := by
    simp only [band, Int.toNat_natCast, Nat.and_two_pow_sub_one_eq_mod]
  rw [e]
  constructor
  · intro h b hb hc
    have h2 : v.toNat % 2 ^ k = 0 := by omega
    have h3 := Nat.testBit_mod_two_pow v.toNat k (7 - b)
    rw [h2, Nat.zero_testBit, decide_eq_true (show 7 - b < k by omega), Bool.true_and] at h3
    exact h3.symm
  · intro h
    have : v.toNat % 2 ^ k = 0 := Nat.eq_of_testBit_eq fun m => by
      rw [Nat.testBit_mod_two_pow, Nat.zero_testBit]
      by_cases hm : m < k
      · have := h (7 - m) (by omega) (by omega)
        unfold bt at this
        rw [show 7 - (7 - m) = m by omega] at this
        rw [this, Bool.and_false]
      · rw [decide_eq_false hm, Bool.false_and]
    rw [this]; rfl
open Classical in
noncomputable def bitsE (W H : Int) (d : List Int) : Int := if W < 1 ∨ 1024 < W ∨ H < 1 ∨ 1024 < H then 3 else if d.length ≠ st W.toNat * H.toNat then 4 else
  if ∀ y b, y < H.toNat → b < 8 → W.toNat ≤ 8 * (st W.toNat - 1) + b → bt (d.getD (y * st W.toNat + (st W.toNat - 1)) 0) b = false then 0 else 4
theorem bitsE_ok {W H : Int} {d : List Int} (hd : ∀ i, i < d.length → 0 ≤ d.getD i 0 ∧ d.getD i 0 ≤ 255) : bitsE W H d = 0 ↔ ∃ w h : Nat, W = w ∧ H = h ∧ BmOk w h d := by
  unfold bitsE
  constructor
  · intro hh
    split at hh
    · cases hh
    · split at hh
      · cases hh
      · split at hh
        · rename_i h1 h2 h3
          exact ⟨W.toNat, H.toNat, by omega, by omega, by omega, by omega, Decidable.not_not.1 h2, hd, h3⟩
        · cases hh
  · rintro ⟨w, h, rfl, rfl, k⟩
    have h1 := k.w1
    have h2 := k.h1
    rw [if_neg (by omega), if_neg (fun hn => hn k.len)]
    exact if_pos k.clear
theorem at_last {w h y : Nat} (hy : y < h) (hw : 0 < w) : y * st w + st w - 1 < st w * h ∧ y * st w + (st w - 1) = y * st w + st w - 1 := by
  have h0 := st_pos hw
  have h2 : (y + 1) * st w ≤ h * st w := Nat.mul_le_mul_right _ hy
  rw [Nat.mul_comm (st w) h]
  rw [Nat.add_mul] at h2
  omega
/-- The pixels before (x, y). -/
def upto (g : Nat → Nat → Bool) (x y i j : Nat) : Bool := decide (j < y ∨ (j = y ∧ i < x)) && g i j
theorem upto_yes {g : Nat → Nat → Bool} {x y : Nat} (h : g x y = true) (i j : Nat) : (upto g x y i j || (decide (i = x) && decide (j = y))) = upto g (x + 1) y i j := by
  unfold upto
  by_cases e : i = x ∧ j = y
  · obtain ⟨rfl, rfl⟩ := e
    rw [h, decide_eq_true (show j < j ∨ (j = j ∧ i < i + 1) by omega)]; simp
  · have hne : (decide (i = x) && decide (j = y)) = false := by
      rw [Bool.and_eq_false_iff, decide_eq_false_iff_not, decide_eq_false_iff_not]
      exact Decidable.not_and_iff_or_not.1 e
    rw [hne, Bool.or_false]
    congr 1
    exact decide_eq_decide.2 (by omega)
theorem upto_no {g : Nat → Nat → Bool} {x y : Nat} (h : g x y = false) (i j : Nat) : upto g x y i j = upto g (x + 1) y i j := by
  unfold upto
  by_cases e : i = x ∧ j = y
  · obtain ⟨rfl, rfl⟩ := e; rw [h, Bool.and_false, Bool.and_false]
  · congr 1
    exact decide_eq_decide.2 (by omega)
theorem upto_row {g : Nat → Nat → Bool} {w y i j : Nat} (h : i < w) : upto g w y i j = upto g 0 (y + 1) i j := by
  unfold upto; congr 1; exact decide_eq_decide.2 (by omega)
theorem upto_all {g : Nat → Nat → Bool} {k i j : Nat} (h : j < k) : upto g 0 k i j = g i j := by
  unfold upto; rw [decide_eq_true (by omega), Bool.true_and]
theorem upto_none {g : Nat → Nat → Bool} {i j : Nat} : upto g 0 0 i j = false := by
  unfold upto; rw [decide_eq_false (by omega), Bool.false_and]
/-- The first i pixels, row by row. -/
def lin (w : Nat) (g : Nat → Nat → Bool) (i x y : Nat) : Bool := decide (y * w + x < i) && g x y
theorem lin_key {w i x y : Nat} (hw : 0 < w) (hx : x < w) : y * w + x = i ↔ x = i % w ∧ y = i / w := by
  constructor
  · intro e
    subst e
    rw [Nat.mul_comm y w, Nat.mul_add_mod, Nat.mod_eq_of_lt hx, Nat.mul_add_div hw, Nat.div_eq_of_lt hx]
    exact ⟨rfl, rfl⟩
  · rintro ⟨rfl, rfl⟩; rw [Nat.mul_comm]; exact Nat.div_add_mod i w
theorem lin_yes {w : Nat} {g : Nat → Nat → Bool} {i : Nat} (hw : 0 < w) (h : g (i % w) (i / w) = true) {x y : Nat} (hx : x < w) : (lin w g i x y || (decide (x = i % w) && decide (y = i / w))) = lin w g (i + 1) x y := by
  unfold lin
  by_cases e : y * w + x = i
  · obtain ⟨e1, e2⟩ := (lin_key hw hx).1 e
    rw [decide_eq_true e1, decide_eq_true e2, decide_eq_true (show y * w + x < i + 1 by omega), e1, e2, h]; simp
  · have hne : (decide (x = i % w) && decide (y = i / w)) = false := by
      rw [Bool.and_eq_false_iff, decide_eq_false_iff_not, decide_eq_false_iff_not]
      exact Decidable.not_and_iff_or_not.1 fun hh => e ((lin_key hw hx).2 hh)
    rw [hne, Bool.or_false]
    congr 1
    exact decide_eq_decide.2 (by omega)
theorem lin_no {w : Nat} {g : Nat → Nat → Bool} {i : Nat} (hw : 0 < w) (h : g (i % w) (i / w) = false) {x y : Nat} (hx : x < w) : lin w g i x y = lin w g (i + 1) x y := by
  unfold lin
  by_cases e : y * w + x = i
  · obtain ⟨e1, e2⟩ := (lin_key hw hx).1 e
    rw [e1, e2, h, Bool.and_false, Bool.and_false]
  · congr 1
    exact decide_eq_decide.2 (by omega)
theorem lin_all {w k : Nat} {g : Nat → Nat → Bool} {x y : Nat} (hx : x < w) (hy : y < k) : lin w g (w * k) x y = g x y := by
  unfold lin
  rw [decide_eq_true, Bool.true_and]
  have h2 : (y + 1) * w ≤ k * w := Nat.mul_le_mul_right _ hy
  rw [Nat.mul_comm w k]
  rw [Nat.add_mul] at h2
  omega
theorem lin_none {w : Nat} {g : Nat → Nat → Bool} {x y : Nat} : lin w g 0 x y = false := by
  unfold lin; rw [decide_eq_false (by omega), Bool.false_and]
end Go.Proofs.Ythkilkjngincpaa
namespace Go.Proofs.Ythkilkjngincpaa
open Go Go.Lite
set_option linter.unusedVariables false
set_option linter.unusedSimpArgs false
set_option maxRecDepth 100000
set_option maxHeartbeats 4000000
-- @simp rdi rdy

theorem stride_c (w : Nat) (h : Due (w ≤ 1024)) : TC R Try.prog bitmap_stride_f [.int .i64 w] [] (fun v X => v = .int .i64 (st w) ∧ X = []) := by
  dsimp only [Due] at h
  have e : quo ((w : Int) + 7) 8 = (st w : Int) := by rw [quo_nn (by omega)]; unfold st; omega
  have hb : st w ≤ 128 := by unfold st; omega
  refine tc0 env bitmap_stride_s (by rfl) ?_
  dsimp only [bitmap_stride_c]
  repeat' (first
    | refine GZy_i_y e ?_ ?_ ?_ ?_ ?_ ?_ ?_ ?_
    | with_reducible first | exact BzZq.mk | refine Tw.ret ?_ | refine ImZq.i fun h => ?_ | refine IkZq.i fun hk => ?_)
  exact ⟨rfl, congrArg (TV.int .i64) e, rfl⟩

theorem is_c (w h_1 : Nat) (d : List Int) (x y : Int) (k : Due (BmOk w h_1 d)) : TC R Try.prog bitmap_Is_f [.pel [.int .i64 w, .int .i64 h_1, .lst Ey d], .int .i64 x, .int .i64 y] [] (fun v X => v = .bool (px w h_1 d x y) ∧ X = []) := by
  dsimp only [Due] at k
  have hw := k.w1
  have hh := k.h1
  refine tc0 env bitmap_Is_s (by rfl) ?_
  dsimp only [bitmap_Is_c]
  by_cases hin : 0 ≤ x ∧ x < w ∧ 0 ≤ y ∧ y < h_1
  · obtain ⟨a, rfl⟩ : ∃ a : Nat, x = a := ⟨x.toNat, by omega⟩
    obtain ⟨b, rfl⟩ : ∃ b : Nat, y = b := ⟨y.toNat, by omega⟩
    have hl := at8_lt (w := w) (h := h_1) (x := a) (y := b) (by omega) (by omega)
    have hlen := k.len
    have hlb := len_bd hw hh
    have hby := k.byte (at8 w a b) (by omega)
    have q1 : quo (a : Int) 8 = ((a / 8 : Nat) : Int) := by rw [quo_nn (by omega)]; omega
    have q2 : rem (a : Int) 8 = ((a % 8 : Nat) : Int) := by rw [rem_nn (by omega)]; omega
    have q3 : (b : Int) * (st w : Int) + ((a / 8 : Nat) : Int) = ((at8 w a b : Nat) : Int) := by unfold at8; simp
    have q4 : 0 ≤ (b : Int) * (st w : Int) ∧ (b : Int) * (st w : Int) ≤ ((at8 w a b : Nat) : Int) := ⟨Int.mul_nonneg (by omega) (by omega), by omega⟩
    have q5 : (0 : Int) ≤ (128 : Int) / 2 ^ (a % 8) ∧ (128 : Int) / 2 ^ (a % 8) ≤ 255 := by
      rw [sh_pow (by omega)]
      have h7 : (2 : Nat) ^ (7 - a % 8) ≤ 2 ^ 7 := Nat.pow_le_pow_right (by omega) (by omega)
      generalize (2 : Nat) ^ (7 - a % 8) = m at *
      omega
    have sc := stride_c w (by unfold Due; omega)
    repeat' (first
      | ((with_reducible refine TDr.any ?_); refine TDr.callE env (by first | rfl | assumption) (by rfl) (by rfl) ?_ (sc) (by rfl) (by rfl) ?_)
      | refine GZy_i_y (And.intro q1 (And.intro q2 q3)) ?_ ?_ ?_ ?_ ?_ ?_ ?_ ?_
      | with_reducible first | exact BzZq.mk | refine Tw.ret ?_ | refine ImZq.i fun h => ?_ | refine IkZq.i fun hk => ?_)
    refine ⟨rfl, congrArg TV.bool ?_, rfl⟩
    rw [q1, q2, q3, Int.toNat_natCast, Int.toNat_natCast]
    have hb : (!decide (band (d.getD (at8 w a b) 0) ((128 : Int) / 2 ^ (a % 8)) = 0)) = bt (d.getD (at8 w a b) 0) (a % 8) := by
      simp only [band_bt (show a % 8 < 8 by omega)]
      cases bt (d.getD (at8 w a b) 0) (a % 8) <;> rfl
    have hd : decide (0 ≤ (a : Int) ∧ (a : Int) < w ∧ 0 ≤ (b : Int) ∧ (b : Int) < h_1) = true := decide_eq_true hin
    unfold px
    rw [hd, Int.toNat_natCast, Int.toNat_natCast, ← hb]
    simp only [hin, decide_true, Bool.true_and]
    rfl
  · rw [px_out hin]
    repeat' (first
      | refine GZp_i_y ?_ ?_ ?_ ?_ ?_ ?_ ?_ ?_
      | with_reducible first | exact BzZq.mk | refine Tw.ret ?_ | refine ImZq.i fun h => ?_ | refine IkZq.i fun hk => ?_)
    all_goals exact ⟨rfl, rfl, rfl⟩

theorem bCheck_c (W H : Int) (d : List Int) (hd : Due (∀ i, i < d.length → 0 ≤ d.getD i 0 ∧ d.getD i 0 ≤ 255)) : TC R Try.prog bitmap_Check_f [.agg [.int .i64 W, .int .i64 H, .lst Ey d]] [] (fun v X => v = .int .i64 (bitsE W H d) ∧ X = []) := by
  dsimp only [Due] at hd
  refine tc0 env bitmap_Check_s (by rfl) ?_
  dsimp only [bitmap_Check_c]
  by_cases hh : W < 1 ∨ 1024 < W ∨ H < 1 ∨ 1024 < H
  · repeat' (first
      | refine GZp_i_y ?_ ?_ ?_ ?_ ?_ ?_ ?_ ?_
      | with_reducible first | exact BzZq.mk | refine Tw.ret ?_ | refine ImZq.i fun h => ?_ | refine IkZq.i fun hk => ?_)
    exact ⟨rfl, by rw [bitsE, if_pos hh], rfl⟩
  obtain ⟨w, rfl⟩ : ∃ w : Nat, W = w := ⟨W.toNat, by omega⟩
  obtain ⟨k, rfl⟩ : ∃ k : Nat, H = k := ⟨H.toNat, by omega⟩
  have hw : 1 ≤ w ∧ w ≤ 1024 := by omega
  have hk : 1 ≤ k ∧ k ≤ 1024 := by omega
  have sc := stride_c w (by unfold Due; omega)
  have hlb := len_bd hw hk
  have sb := st_bd hw
  have e1 : (st w : Int) * (k : Int) = ((st w * k : Nat) : Int) := by simp
  by_cases hl : d.length = st w * k
  · obtain ⟨u, hu⟩ : ∃ u : Nat, u = 8 * st w - w := ⟨_, rfl⟩
    have hu7 : u ≤ 7 := by unfold st at hu; omega
    have hui : 8 * (st w : Int) - (w : Int) = (u : Int) := by unfold st at hu ⊢; omega
    have hp : (2 : Nat) ^ u ≤ 2 ^ 7 := Nat.pow_le_pow_right (by omega) hu7
    have hpp := Nat.two_pow_pos u
    have h2 : (2 : Int) ^ u = ((2 ^ u : Nat) : Int) := by simp
    have ev : bitsE w k d = @ite _ (∀ y, y < k → band (d.getD (y * st w + st w - 1) 0) ((2 ^ u - 1 : Nat) : Int) = 0) (Classical.propDecidable _) 0 4 := by
      rw [bitsE, if_neg hh, if_neg (by simpa using hl)]
      simp only [Int.toNat_natCast]
      congr 1
      apply propext
      have cond : ∀ b : Nat, w ≤ 8 * (st w - 1) + b ↔ 8 - u ≤ b := fun b => by unfold st at hu ⊢; omega
      constructor
      · intro h y hy
        obtain ⟨g1, g2⟩ := at_last (w := w) hy (by omega)
        rw [band_low (hd _ (by rw [hl]; exact g1)) hu7]
        intro b hb hc
        rw [← g2]; exact h y b hy hb ((cond b).2 hc)
      · intro h y b hy hb hc
        obtain ⟨g1, g2⟩ := at_last (w := w) hy (by omega)
        rw [g2]
        exact (band_low (hd _ (by rw [hl]; exact g1)) hu7).1 (h y hy) b hb ((cond b).1 hc)
    have e4 : ((1 * 2 ^ u : Int) % 256 - 1) % 256 = ((2 ^ u - 1 : Nat) : Int) := by
      rw [h2]
      generalize (2 : Nat) ^ u = m at *
      omega
    rw [ev]
    clear ev
    generalize hM : 2 ^ u - 1 = M at *
    have hM7 : M ≤ 127 := by omega
    have hidx : ∀ y, y < k → y * st w + st w - 1 < st w * k := fun y hy => (at_last hy (by omega)).1
    have hyb : ∀ y, y < k → y * st w ≤ 131072 := fun y hy => by have := hidx y hy; omega
    repeat' (first
      | ((with_reducible refine TOps.any ?_); refine TOps.callV env (by rfl) (by rfl) (by rfl) (sc) ?_)
      | refine GZy_i_y (And.intro hui (And.intro e1 (And.intro e4 hl))) ?_ ?_ ?_ ?_ ?_ ?_ ?_ ?_
      | with_reducible first | exact BzZq.mk | refine Tw.ret ?_ | refine ImZq.i fun h => ?_ | refine IkZq.i fun hk => ?_)
    · refine Tw.loopK [1, 3, 4, 45] (fun y : Nat => y ≤ k ∧ ∀ j, j < y → band (d.getD (j * st w + st w - 1) 0) (M : Int) = 0) (fun y => k - y) (fun y => [(46, .int .i64 y)]) (fun _ => [some (.cells [.int .i64 w, .int .i64 k, .lst Ey d])]) ⟨0, ⟨by omega, fun j hj => by omega⟩, TWk.fcanon env [some 0] (by rfl) ?_⟩ (fun y hy => ?_)
      · repeat' (first
          | refine GZ_i_y ?_ ?_ ?_ ?_ ?_ ?_ ?_ ?_
          | with_reducible first | exact BzZq.mk | refine Tw.ret ?_ | refine ImZq.i fun h => ?_ | refine IkZq.i fun hk => ?_)
      obtain ⟨hy, hq⟩ := hy
      rcases Nat.lt_or_ge y k with hy | hy
      · have i1 := hidx y hy
        have i2 := hyb y hy
        have e5 : (y : Int) * (st w : Int) = ((y * st w : Nat) : Int) := by simp
        have e6 : ((y * st w : Nat) : Int) + (st w : Int) - 1 = ((y * st w + st w - 1 : Nat) : Int) := by omega
        have i3 := hd (y * st w + st w - 1) (by omega)
        repeat' (first
          | refine GZy_i_y (And.intro hui (And.intro e4 (And.intro e5 e6))) ?_ ?_ ?_ ?_ ?_ ?_ ?_ ?_
          | with_reducible first | exact BzZq.mk | refine Tw.ret ?_ | refine ImZq.i fun h => ?_ | refine IkZq.i fun hk => ?_)
        · exact ⟨rfl, by rw [if_neg fun hh => h (hh y hy)], rfl⟩
        · refine ⟨y + 1, ⟨by omega, fun j hj => ?_⟩, by omega, TWk.fcanon env [some 0] (by rfl) ?_⟩
          · by_cases e : j = y
            · subst e; exact h
            · exact hq j (by omega)
          · repeat' (first
              | refine GZ_i_y ?_ ?_ ?_ ?_ ?_ ?_ ?_ ?_
              | with_reducible first | exact BzZq.mk | refine Tw.ret ?_ | refine ImZq.i fun h => ?_ | refine IkZq.i fun hk => ?_)
      · repeat' (first
          | refine GZp_i_y ?_ ?_ ?_ ?_ ?_ ?_ ?_ ?_
          | with_reducible first | exact BzZq.mk | refine Tw.ret ?_ | refine ImZq.i fun h => ?_ | refine IkZq.i fun hk => ?_)
        exact ⟨rfl, by rw [if_pos fun j hj => hq j (by omega)], rfl⟩
    · have hM0 : M = 0 := by omega
      refine ⟨rfl, ?_, rfl⟩
      rw [if_pos]
      intro y hy
      rw [hM0]
      simp [band]
  · have ev : bitsE w k d = 4 := by rw [bitsE, if_neg hh, if_pos (by simpa using hl)]
    repeat' (first
      | ((with_reducible refine TOps.any ?_); refine TOps.callV env (by rfl) (by rfl) (by rfl) (sc) ?_)
      | refine GZy_i_y e1 ?_ ?_ ?_ ?_ ?_ ?_ ?_ ?_
      | with_reducible first | exact BzZq.mk | refine Tw.ret ?_ | refine ImZq.i fun h => ?_ | refine IkZq.i fun hk => ?_)
    exact ⟨rfl, by rw [ev], rfl⟩
theorem bCheck_y (w h : Nat) (d : List Int) (k : Due (BmOk w h d)) : TC R Try.prog bitmap_Check_f [.agg [.int .i64 w, .int .i64 h, .lst Ey d]] [] (fun v X => v = .int .i64 0 ∧ X = []) := by
  have := bCheck_c w h d k.byte
  rwa [(bitsE_ok k.byte).2 ⟨w, h, rfl, rfl, k⟩] at this
end Go.Proofs.Ythkilkjngincpaa
namespace Go.Proofs.Ythkilkjngincpaa
open Go Go.Lite
set_option linter.unusedVariables false
set_option linter.unusedSimpArgs false
set_option maxRecDepth 100000
set_option maxHeartbeats 4000000
-- @simp rdi rdy

theorem mark_c (w k : Nat) (d : List Int) (x y : Nat) (hw : Due (1 ≤ w ∧ w ≤ 1024)) (hk : Due (1 ≤ k ∧ k ≤ 1024)) (hl : Due (d.length = st w * k)) (hd : Due (0 ≤ d.getD (at8 w x y) 0 ∧ d.getD (at8 w x y) 0 ≤ 255)) (hx : Due (x < w)) (hy : Due (y < k)) :
    TC R Try.prog bitmap_Mark_f [.ptr 0 0, .int .i64 x, .int .i64 y] [some (.cells [.int .i64 w, .int .i64 k, .sla 1 1 0 (st w * k)]), some (.arr Ey d)]
    (fun v X => v = .tup [] ∧ X = [some (.cells [.int .i64 w, .int .i64 k, .sla 1 1 0 (st w * k)]), some (.arr Ey (d.set (at8 w x y) (bor (d.getD (at8 w x y) 0) ((128 : Int) / 2 ^ (x % 8)))))]) := by
  dsimp only [Due] at hw hk hl hd hx hy
  have hl8 := at8_lt hx hy
  have hlb := len_bd hw hk
  have q1 : quo (x : Int) 8 = ((x / 8 : Nat) : Int) := by rw [quo_nn (by omega)]; omega
  have q2 : rem (x : Int) 8 = ((x % 8 : Nat) : Int) := by rw [rem_nn (by omega)]; omega
  have q3 : (y : Int) * (st w : Int) + ((x / 8 : Nat) : Int) = ((at8 w x y : Nat) : Int) := by unfold at8; simp
  have q4 : 0 ≤ (y : Int) * (st w : Int) ∧ (y : Int) * (st w : Int) ≤ ((at8 w x y : Nat) : Int) := ⟨Int.mul_nonneg (by omega) (by omega), by omega⟩
  have q5 : (0 : Int) ≤ (128 : Int) / 2 ^ (x % 8) ∧ (128 : Int) / 2 ^ (x % 8) ≤ 255 := by
    rw [sh_pow (by omega)]
    have h7 : (2 : Nat) ^ (7 - x % 8) ≤ 2 ^ 7 := Nat.pow_le_pow_right (by omega) (by omega)
    generalize (2 : Nat) ^ (7 - x % 8) = m at *
    omega
  have sc := stride_c w (by unfold Due; omega)
  refine tc env bitmap_Mark_s (by rfl) ?_
  dsimp only [bitmap_Mark_c]
  repeat' (first
    | ((with_reducible refine TDr.any ?_); refine TDr.callE env (by first | rfl | assumption) (by rfl) (by rfl) ?_ (sc) (by rfl) (by rfl) ?_)
    | refine GZy_i_y (And.intro q1 (And.intro q2 q3)) ?_ ?_ ?_ ?_ ?_ ?_ ?_ ?_
    | with_reducible first | exact BzZq.mk | refine Tw.ret ?_ | refine ImZq.i fun h => ?_ | refine IkZq.i fun hk => ?_)
  rw [q2, q1, q3, Int.toNat_natCast, Int.toNat_natCast]
  exact ⟨rfl, rfl⟩

theorem blank_r (w k : Nat) (hw : 1 ≤ w ∧ w ≤ 1024) (hk : 1 ≤ k ∧ k ≤ 1024) :
    TC R Try.prog bitmap_Blank_f [.int .i64 w, .int .i64 k] [] (fun v X => v = .agg [.int .i64 w, .int .i64 k, .sla 1 1 0 (st w * k)] ∧ X = [some (.cells [.int .i64 w, .int .i64 k, .sla 1 1 0 (st w * k)]), some (.arr Ey (bm w k fun _ _ => false))]) := by
  have hlb := len_bd hw hk
  have sb := st_bd hw
  have e1 : (st w : Int) * (k : Int) = ((st w * k : Nat) : Int) := by simp
  have sc := stride_c w (by unfold Due; omega)
  rw [bm_blank]
  refine tc env bitmap_Blank_s (by rfl) ?_
  dsimp only [bitmap_Blank_c]
  repeat' (first
    | ((with_reducible refine TOps.any ?_); refine TOps.callV env (by rfl) (by rfl) (by rfl) (sc) ?_)
    | refine GZy_i_y e1 ?_ ?_ ?_ ?_ ?_ ?_ ?_ ?_
    | with_reducible first | exact BzZq.mk | refine Tw.ret ?_ | refine ImZq.i fun h => ?_ | refine IkZq.i fun hk => ?_)
  rw [e1, Int.toNat_natCast]
  exact ⟨rfl, rfl⟩
theorem blank_c (w k : Nat) (hw : Due (1 ≤ w ∧ w ≤ 1024)) (hk : Due (1 ≤ k ∧ k ≤ 1024)) :
    TC R Try.prog bitmap_Blank_f [.int .i64 w, .int .i64 k] [] (fun v X => v = .agg [.int .i64 w, .int .i64 k, .sla 1 0 0 (st w * k)] ∧ X = [some (.arr Ey (bm w k fun _ _ => false))]) := by
  refine (blank_r w k hw hk).wk fun v X h => ?_
  obtain ⟨rfl, rfl⟩ := h
  refine ⟨_, [some (.arr Ey (bm w k fun _ _ => false))], TWk.fcanon env [some 1] (F' := [(0, .agg [.int .i64 w, .int .i64 k, .sla 1 0 0 (st w * k)])]) (by rfl) ?_, rfl, rfl⟩
  repeat' (first
    | refine GZ_i_y ?_ ?_ ?_ ?_ ?_ ?_ ?_ ?_
    | with_reducible first | exact BzZq.mk | refine Tw.ret ?_ | refine ImZq.i fun h => ?_ | refine IkZq.i fun hk => ?_)

end Go.Proofs.Ythkilkjngincpaa
namespace Go.Proofs.Ythkilkjngincpaa
open Go Go.Lite
set_option linter.unusedVariables false
set_option linter.unusedSimpArgs false
set_option maxRecDepth 100000
set_option maxHeartbeats 4000000
-- @simp rdi rdy

def mAll (s : Nat) : Nat := (s - 2) * (s - 2) / 8
def mPar (s : Nat) : Nat := max 2 (mAll s / 6 * 2)
structure Side (s : Nat) : Prop where
  bd : 8 ≤ s ∧ s ≤ 32
  ev : s % 2 = 0
theorem Side.facts {s : Nat} (h : Side s) : 4 ≤ mAll s ∧ mAll s ≤ 112 ∧ 2 ≤ mPar s ∧ mPar s ≤ 36 ∧ mPar s + 2 ≤ mAll s := by
  have hb := h.bd
  have he := h.ev
  obtain ⟨m, hm, rfl⟩ : ∃ m, m ≤ 12 ∧ s = 8 + 2 * m := ⟨(s - 8) / 2, by omega, by omega⟩
  have key : ∀ m : Fin 13, 4 ≤ mAll (8 + 2 * m.1) ∧ mAll (8 + 2 * m.1) ≤ 112 ∧ 2 ≤ mPar (8 + 2 * m.1) ∧ mPar (8 + 2 * m.1) ≤ 36 ∧ mPar (8 + 2 * m.1) + 2 ≤ mAll (8 + 2 * m.1) := by decide
  exact key ⟨m, by omega⟩
theorem isSide_c (s : Nat) (h : Due (Side s)) : TC R Try.prog matrix_isSide_f [.int .i64 s] [] (fun v X => v = .bool true ∧ X = []) := by
  obtain ⟨hb, he⟩ := h
  have q : rem (s : Int) 2 = 0 := by rw [rem_nn (by omega)]; omega
  refine tc0 env matrix_isSide_s (by rfl) ?_
  dsimp only [matrix_isSide_c]
  have e : (decide (8 ≤ (s : Int)) && decide ((s : Int) ≤ 32) && decide (rem (s : Int) 2 = 0)) = true := by
    rw [q, decide_eq_true (by omega), decide_eq_true (by omega)]; rfl
  repeat' (first
    | refine GZy_i_y q ?_ ?_ ?_ ?_ ?_ ?_ ?_ ?_
    | with_reducible first | exact BzZq.mk | refine Tw.ret ?_ | refine ImZq.i fun h => ?_ | refine IkZq.i fun hk => ?_)
  exact ⟨rfl, congrArg TV.bool e, rfl⟩
theorem size_c (s : Nat) (h : Due (Side s)) : TC R Try.prog matrix_Size_f [.int .i64 s] [] (fun v X => v = .tup [.int .i64 (mAll s : Nat), .int .i64 (mPar s : Nat), .int .i64 ((mAll s : Int) - (mPar s : Int) - 1), .int .i64 0] ∧ X = []) := by
  have sc := isSide_c s h
  have f := Side.facts h
  obtain ⟨hb, he⟩ := h
  have p1 : ((s : Int) - 2) * ((s : Int) - 2) = (((s - 2) * (s - 2) : Nat) : Int) := by rw [Int.natCast_mul]; congr 1 <;> omega
  have p2 : (s - 2) * (s - 2) ≤ 30 * 30 := Nat.mul_le_mul (by omega) (by omega)
  have q1 : quo (((s : Int) - 2) * ((s : Int) - 2)) 8 = (mAll s : Nat) := by rw [p1, quo_nn (by omega)]; unfold mAll; omega
  have q2 : quo ((mAll s : Nat) : Int) 6 = ((mAll s / 6 : Nat) : Int) := by rw [quo_nn (by omega)]; omega
  have q3 : max 2 (quo (quo (((s : Int) - 2) * ((s : Int) - 2)) 8) 6 * 2) = ((mPar s : Nat) : Int) := by rw [q1, q2]; unfold mPar; omega
  refine tc0 env matrix_Size_s (by rfl) ?_
  dsimp only [matrix_Size_c]
  have d0 : rng .i64 (quo (((s : Int) - 2) * ((s : Int) - 2)) 8) := by rw [q1]; simp only [rng]; omega
  have d1 : rng .i64 (quo (quo (((s : Int) - 2) * ((s : Int) - 2)) 8) 6) := by rw [q1, q2]; simp only [rng]; omega
  have d2 : -9223372036854775808 ≤ quo (quo (((s : Int) - 2) * ((s : Int) - 2)) 8) 6 * 2 ∧ quo (quo (((s : Int) - 2) * ((s : Int) - 2)) 8) 6 * 2 ≤ 9223372036854775807 := by rw [q1, q2]; omega
  have d3 : -9223372036854775808 ≤ quo (((s : Int) - 2) * ((s : Int) - 2)) 8 - max 2 (quo (quo (((s : Int) - 2) * ((s : Int) - 2)) 8) 6 * 2) ∧ quo (((s : Int) - 2) * ((s : Int) - 2)) 8 - max 2 (quo (quo (((s : Int) - 2) * ((s : Int) - 2)) 8) 6 * 2) ≤ 9223372036854775807 := by rw [q3, q1]; omega
  have d4 : -9223372036854775808 ≤ quo (((s : Int) - 2) * ((s : Int) - 2)) 8 - max 2 (quo (quo (((s : Int) - 2) * ((s : Int) - 2)) 8) 6 * 2) - 1 ∧ quo (((s : Int) - 2) * ((s : Int) - 2)) 8 - max 2 (quo (quo (((s : Int) - 2) * ((s : Int) - 2)) 8) 6 * 2) - 1 ≤ 9223372036854775807 := by rw [q3, q1]; omega
  repeat' (first
    | ((with_reducible refine TOps.any ?_); refine TOps.callV env (by rfl) (by rfl) (by rfl) (sc) ?_)
    | exact d0
    | exact d1
    | exact d2
    | exact d3
    | exact d4
    | refine GZp_i_y ?_ ?_ ?_ ?_ ?_ ?_ ?_ ?_
    | with_reducible first | exact BzZq.mk | refine Tw.ret ?_ | refine ImZq.i fun h => ?_ | refine IkZq.i fun hk => ?_)
  rw [q3, q1]
  exact ⟨rfl, rfl, rfl⟩
/-- A module of the border: dark or not. -/
def mDark (s x y : Nat) : Bool := if x = 0 ∨ y = s - 1 then true else if y = 0 then x % 2 == 0 else if x = s - 1 then (s - 1 - y) % 2 == 0 else false
def mBord (s x y : Nat) : Bool := x == 0 || y == s - 1 || y == 0 || x == s - 1
theorem dark_c (s x y : Nat) (hs : Due (8 ≤ s ∧ s ≤ 32)) (hx : Due (x < s)) (hy : Due (y < s)) : TC R Try.prog matrix_dark_f [.int .i64 s, .int .i64 x, .int .i64 y] [] (fun v X => v = .tup [.bool (mDark s x y), .bool (mBord s x y)] ∧ X = []) := by
  dsimp only [Due] at hs hx hy
  have r1 : rem (x : Int) 2 = ((x % 2 : Nat) : Int) := by rw [rem_nn (by omega)]; omega
  have r2 : rem ((s : Int) - 1 - (y : Int)) 2 = (((s - 1 - y) % 2 : Nat) : Int) := by rw [rem_nn (by omega)]; omega
  refine tc0 env matrix_dark_s (by rfl) ?_
  dsimp only [matrix_dark_c]
  by_cases h1 : x = 0 ∨ y = s - 1
  · have e1 : mDark s x y = true := by unfold mDark; rw [if_pos h1]
    have e2 : mBord s x y = true := by unfold mBord; rcases h1 with h | h <;> simp [h]
    rw [e1, e2]
    repeat' (first
      | refine GZp_i_y ?_ ?_ ?_ ?_ ?_ ?_ ?_ ?_
      | with_reducible first | exact BzZq.mk | refine Tw.ret ?_ | refine ImZq.i fun h => ?_ | refine IkZq.i fun hk => ?_)
    all_goals exact ⟨rfl, rfl, rfl⟩
  by_cases h2 : y = 0
  · have e1 : mDark s x y = decide (rem (x : Int) 2 = 0) := by
      unfold mDark; rw [if_neg h1, if_pos h2, r1]
      by_cases h : x % 2 = 0
      · rw [h]; rfl
      · rw [decide_eq_false (by omega)]; simp [h]
    have e2 : mBord s x y = true := by unfold mBord; simp [h2]
    rw [e1, e2]
    repeat' (first
      | refine GZp_i_y ?_ ?_ ?_ ?_ ?_ ?_ ?_ ?_
      | with_reducible first | exact BzZq.mk | refine Tw.ret ?_ | refine ImZq.i fun h => ?_ | refine IkZq.i fun hk => ?_)
    all_goals exact ⟨rfl, rfl, rfl⟩
  by_cases h3 : x = s - 1
  · have e1 : mDark s x y = decide (rem ((s : Int) - 1 - (y : Int)) 2 = 0) := by
      unfold mDark; rw [if_neg h1, if_neg h2, if_pos h3, r2]
      by_cases h : (s - 1 - y) % 2 = 0
      · rw [h]; rfl
      · rw [decide_eq_false (by omega)]; simp [h]
    have e2 : mBord s x y = true := by unfold mBord; simp [h3]
    rw [e1, e2]
    repeat' (first
      | refine GZp_i_y ?_ ?_ ?_ ?_ ?_ ?_ ?_ ?_
      | with_reducible first | exact BzZq.mk | refine Tw.ret ?_ | refine ImZq.i fun h => ?_ | refine IkZq.i fun hk => ?_)
    all_goals exact ⟨rfl, rfl, rfl⟩
  · have e1 : mDark s x y = false := by unfold mDark; rw [if_neg h1, if_neg h2, if_neg h3]
    have e2 : mBord s x y = false := by
      unfold mBord
      have a1 : ¬ x = 0 := fun h => h1 (.inl h)
      have a2 : ¬ y = s - 1 := fun h => h1 (.inr h)
      simp [a1, a2, h2, h3]
    rw [e1, e2]
    repeat' (first
      | refine GZp_i_y ?_ ?_ ?_ ?_ ?_ ?_ ?_ ?_
      | with_reducible first | exact BzZq.mk | refine Tw.ret ?_ | refine ImZq.i fun h => ?_ | refine IkZq.i fun hk => ?_)
    all_goals exact ⟨rfl, rfl, rfl⟩
end Go.Proofs.Ythkilkjngincpaa
namespace Go.Proofs.Ythkilkjngincpaa
open Go Go.Lite
set_option linter.unusedVariables false
set_option linter.unusedSimpArgs false
set_option maxRecDepth 100000
set_option maxHeartbeats 4000000

/-- Twice a byte. -/
def xt (a : BitVec 8) : BitVec 8 := (a <<< 1) ^^^ (if a.msb then 29#8 else 0#8)
theorem xt_xor (a b : BitVec 8) : xt (a ^^^ b) = xt a ^^^ xt b := by
  unfold xt
  rw [BitVec.shiftLeft_xor_distrib, BitVec.msb_xor]
  cases a.msb <;> cases b.msb <;> simp <;> grind
def mulB : Nat → BitVec 8 → BitVec 8 → BitVec 8
  | 0, _, _ => 0#8
  | n + 1, a, b => (if b.getLsbD 0 then a else 0#8) ^^^ mulB n (xt a) (b >>> 1)
theorem xor4 (a b c d : BitVec 8) : (a ^^^ b) ^^^ (c ^^^ d) = (a ^^^ c) ^^^ (b ^^^ d) := by
  rw [BitVec.xor_assoc, BitVec.xor_assoc, ← BitVec.xor_assoc b c d, BitVec.xor_comm b c, BitVec.xor_assoc c b d]
theorem mulB_xorL : ∀ (n : Nat) (a b c : BitVec 8), mulB n (a ^^^ b) c = mulB n a c ^^^ mulB n b c
  | 0, _, _, _ => by simp [mulB]
  | n + 1, a, b, c => by
    simp only [mulB]
    rw [xt_xor, mulB_xorL n, xor4]
    cases c.getLsbD 0 <;> simp
theorem mulB_xorR : ∀ (n : Nat) (a b c : BitVec 8), mulB n a (b ^^^ c) = mulB n a b ^^^ mulB n a c
  | 0, _, _, _ => by simp [mulB]
  | n + 1, a, b, c => by
    simp only [mulB]
    rw [BitVec.ushiftRight_xor_distrib, mulB_xorR n, xor4, BitVec.getLsbD_xor]
    cases b.getLsbD 0 <;> cases c.getLsbD 0 <;> simp
def mulF (a b : BitVec 8) : BitVec 8 := mulB 8 a b
theorem mulF_xorL (a b c : BitVec 8) : mulF (a ^^^ b) c = mulF a c ^^^ mulF b c := mulB_xorL 8 a b c
theorem mulF_xorR (a b c : BitVec 8) : mulF a (b ^^^ c) = mulF a b ^^^ mulF a c := mulB_xorR 8 a b c
theorem lin_zero {f : BitVec 8 → BitVec 8} (hf : ∀ x y, f (x ^^^ y) = f x ^^^ f y) : f 0#8 = 0#8 := by
  have := hf 0#8 0#8
  rw [BitVec.xor_self, BitVec.xor_self] at this
  exact this
def bas (i : Fin 8) : BitVec 8 := 1#8 <<< i.1
theorem bits_of : ∀ x : BitVec 8, x = (x &&& 1#8) ^^^ ((x &&& 2#8) ^^^ ((x &&& 4#8) ^^^ ((x &&& 8#8) ^^^ ((x &&& 16#8) ^^^ ((x &&& 32#8) ^^^ ((x &&& 64#8) ^^^ (x &&& 128#8))))))) := by decide
theorem bit_of : ∀ (x : BitVec 8) (i : Fin 8), x &&& bas i = 0#8 ∨ x &&& bas i = bas i := by decide
/-- Additive functions that agree on the single bits agree. -/
theorem lin_ext {f g : BitVec 8 → BitVec 8} (hf : ∀ x y, f (x ^^^ y) = f x ^^^ f y) (hg : ∀ x y, g (x ^^^ y) = g x ^^^ g y) (h : ∀ i : Fin 8, f (bas i) = g (bas i)) (x : BitVec 8) : f x = g x := by
  have one : ∀ i : Fin 8, f (x &&& bas i) = g (x &&& bas i) := fun i => by
    rcases bit_of x i with e | e
    · rw [e, lin_zero hf, lin_zero hg]
    · rw [e, h i]
  rw [bits_of x]
  simp only [hf, hg]
  have e : ∀ i : Fin 8, ∀ y, bas i = y → f (x &&& y) = g (x &&& y) := fun i y hy => by rw [← hy]; exact one i
  rw [e 0 1#8 (by decide), e 1 2#8 (by decide), e 2 4#8 (by decide), e 3 8#8 (by decide), e 4 16#8 (by decide), e 5 32#8 (by decide), e 6 64#8 (by decide), e 7 128#8 (by decide)]
theorem mulF_comm (a b : BitVec 8) : mulF a b = mulF b a :=
  lin_ext (f := fun a => mulF a b) (g := fun a => mulF b a) (fun _ _ => mulF_xorL _ _ _) (fun _ _ => mulF_xorR _ _ _) (fun i =>
    lin_ext (f := fun b => mulF (bas i) b) (g := fun b => mulF b (bas i)) (fun _ _ => mulF_xorR _ _ _) (fun _ _ => mulF_xorL _ _ _) (fun j => by revert i j; decide) b) a
theorem mulF_assoc (a b c : BitVec 8) : mulF (mulF a b) c = mulF a (mulF b c) :=
  lin_ext (f := fun a => mulF (mulF a b) c) (g := fun a => mulF a (mulF b c)) (fun _ _ => by simp only [mulF_xorL]) (fun _ _ => mulF_xorL _ _ _) (fun i =>
    lin_ext (f := fun b => mulF (mulF (bas i) b) c) (g := fun b => mulF (bas i) (mulF b c)) (fun _ _ => by simp only [mulF_xorL, mulF_xorR]) (fun _ _ => by simp only [mulF_xorL, mulF_xorR]) (fun j =>
      lin_ext (f := fun c => mulF (mulF (bas i) (bas j)) c) (g := fun c => mulF (bas i) (mulF (bas j) c)) (fun _ _ => mulF_xorR _ _ _) (fun _ _ => by simp only [mulF_xorR]) (fun k => by revert i j k; decide) c) b) a
theorem mulF_one (a : BitVec 8) : mulF a 1#8 = a :=
  lin_ext (f := fun a => mulF a 1#8) (g := fun a => a) (fun _ _ => mulF_xorL _ _ _) (fun _ _ => rfl) (fun i => by revert i; decide) a
theorem mulF_zeroL (a : BitVec 8) : mulF 0#8 a = 0#8 := lin_zero (f := fun x => mulF x a) fun _ _ => mulF_xorL _ _ _
theorem mulF_zeroR (a : BitVec 8) : mulF a 0#8 = 0#8 := lin_zero (f := fun x => mulF a x) fun _ _ => mulF_xorR _ _ _

/-- Horner's sum of n symbols. -/
def hor (r : BitVec 8) (f : Nat → BitVec 8) : Nat → BitVec 8
  | 0 => 0#8
  | n + 1 => mulF (hor r f n) r ^^^ f n
def itr (r : BitVec 8) (x : BitVec 8) : Nat → BitVec 8
  | 0 => x
  | n + 1 => mulF (itr r x n) r
theorem itr_xor (r x y : BitVec 8) : ∀ n, itr r (x ^^^ y) n = itr r x n ^^^ itr r y n
  | 0 => rfl
  | n + 1 => by simp only [itr]; rw [itr_xor, mulF_xorL]
theorem itr_zero (r : BitVec 8) : ∀ n, itr r 0#8 n = 0#8
  | 0 => rfl
  | n + 1 => by simp only [itr]; rw [itr_zero, mulF_zeroL]
theorem itr_succ (r x : BitVec 8) : ∀ n, itr r x (n + 1) = itr r (mulF x r) n
  | 0 => rfl
  | n + 1 => by rw [itr, itr_succ r x n]; rfl
theorem itr_mul (r x y : BitVec 8) : ∀ n, itr r (mulF x y) n = mulF x (itr r y n)
  | 0 => rfl
  | n + 1 => by simp only [itr]; rw [itr_mul, mulF_assoc]
theorem hor_congr {r : BitVec 8} {f g : Nat → BitVec 8} : ∀ {n : Nat}, (∀ i, i < n → f i = g i) → hor r f n = hor r g n
  | 0, _ => rfl
  | n + 1, h => by simp only [hor]; rw [hor_congr fun i hi => h i (by omega), h n (by omega)]
theorem hor_xor {r : BitVec 8} {f g : Nat → BitVec 8} : ∀ {n : Nat}, hor r (fun i => f i ^^^ g i) n = hor r f n ^^^ hor r g n
  | 0 => by simp [hor]
  | n + 1 => by simp only [hor]; rw [hor_xor, mulF_xorL, xor4]
theorem hor_mulL {r x : BitVec 8} {f : Nat → BitVec 8} : ∀ {n : Nat}, hor r (fun i => mulF x (f i)) n = mulF x (hor r f n)
  | 0 => by simp [hor, mulF_zeroR]
  | n + 1 => by simp only [hor]; rw [hor_mulL, mulF_xorR, mulF_assoc]
theorem hor_mulR {r x : BitVec 8} {f : Nat → BitVec 8} {n : Nat} : hor r (fun i => mulF (f i) x) n = mulF (hor r f n) x := by
  rw [hor_congr fun i _ => mulF_comm (f i) x, hor_mulL, mulF_comm]
theorem hor_app {r : BitVec 8} {f : Nat → BitVec 8} {n : Nat} : ∀ {m : Nat}, hor r f (n + m) = itr r (hor r f n) m ^^^ hor r (fun k => f (n + k)) m
  | 0 => by simp [hor, itr]
  | m + 1 => by
    rw [← Nat.add_assoc]
    simp only [hor, itr]
    rw [hor_app, mulF_xorL, BitVec.xor_assoc]
theorem hor_head {r : BitVec 8} {f : Nat → BitVec 8} {m : Nat} : hor r f (m + 1) = itr r (f 0) m ^^^ hor r (fun k => f (k + 1)) m := by
  have := hor_app (r := r) (f := f) (n := 1) (m := m)
  rw [Nat.add_comm] at this
  rw [this]
  simp only [hor, mulF_zeroL, BitVec.zero_xor]
  congr 1
  exact hor_congr fun i _ => by rw [Nat.add_comm]

/-- The coefficients of the generator with roots w 0, w 1, .. -/
def gco (w : Nat → BitVec 8) : Nat → Nat → BitVec 8
  | 0, k => if k = 0 then 1#8 else 0#8
  | j + 1, 0 => mulF (gco w j 0) (w j)
  | j + 1, k + 1 => mulF (gco w j (k + 1)) (w j) ^^^ gco w j k
theorem gco_out (w : Nat → BitVec 8) : ∀ (j k : Nat), j < k → gco w j k = 0#8
  | 0, k, h => by simp only [gco]; rw [if_neg (by omega)]
  | j + 1, 0, h => by omega
  | j + 1, k + 1, h => by simp only [gco]; rw [gco_out w j (k + 1) (by omega), gco_out w j k (by omega), mulF_zeroL, BitVec.xor_self]
theorem gco_top (w : Nat → BitVec 8) : ∀ j, gco w j j = 1#8
  | 0 => rfl
  | j + 1 => by simp only [gco]; rw [gco_out w j (j + 1) (by omega), gco_top w j, mulF_zeroL, BitVec.zero_xor]
theorem gco_step {w : Nat → BitVec 8} {r : BitVec 8} {j : Nat} : hor r (fun k => gco w (j + 1) (j + 1 - k)) (j + 2) = mulF (hor r (fun k => gco w j (j - k)) (j + 1)) (w j) ^^^ mulF (hor r (fun k => gco w j (j - k)) (j + 1)) r := by
  have e : ∀ k, k < j + 2 → gco w (j + 1) (j + 1 - k) = mulF (gco w j (j + 1 - k)) (w j) ^^^ (if k = j + 1 then 0#8 else gco w j (j - k)) := fun k hk => by
    by_cases h : k = j + 1
    · subst h
      rw [if_pos rfl, Nat.sub_self]
      simp only [gco]
      rw [BitVec.xor_zero]
    · rw [if_neg h, show j + 1 - k = (j - k) + 1 by omega]
      simp only [gco]
  rw [hor_congr e, hor_xor, hor_mulR]
  congr 1
  · congr 1
    rw [hor_head]
    rw [gco_out w j (j + 1 - 0) (by omega), itr_zero, BitVec.zero_xor]
    exact hor_congr fun k hk => by rw [show j + 1 - (k + 1) = j - k by omega]
  · rw [show j + 2 = (j + 1) + 1 by omega, hor, if_pos rfl, BitVec.xor_zero]
    congr 1
    exact hor_congr fun k hk => if_neg (by omega)
/-- Each of the roots is one of the generator. -/
theorem gco_root {w : Nat → BitVec 8} {i : Nat} : ∀ {j : Nat}, i < j → hor (w i) (fun k => gco w j (j - k)) (j + 1) = 0#8
  | 0, h => by omega
  | j + 1, h => by
    rw [gco_step]
    by_cases e : i = j
    · subst e; exact BitVec.xor_self
    · rw [gco_root (by omega), mulF_zeroL, mulF_zeroL, BitVec.xor_self]
/-- The remainder after n symbols. -/
def rmd (w : Nat → BitVec 8) (t : Nat) (f : Nat → BitVec 8) : Nat → Nat → BitVec 8
  | 0, _ => 0#8
  | n + 1, k => (if k + 1 < t then rmd w t f n (k + 1) else 0#8) ^^^ mulF (f n ^^^ rmd w t f n 0) (gco w t (t - 1 - k))
theorem rmd_hor {w : Nat → BitVec 8} {t : Nat} {f : Nat → BitVec 8} {i : Nat} (hi : i < t) : ∀ n, hor (w i) (rmd w t f n) t = itr (w i) (hor (w i) f n) t
  | 0 => by
    rw [hor, itr_zero]
    have : ∀ m, hor (w i) (rmd w t f 0) m = 0#8 := fun m => by
      induction m with
      | zero => rfl
      | succ m ih => rw [hor, ih, mulF_zeroL]; simp [rmd]
    exact this t
  | n + 1 => by
    obtain ⟨t', rfl⟩ : ∃ t', t = t' + 1 := ⟨t - 1, by omega⟩
    have ih := rmd_hor (w := w) (f := f) hi n
    generalize hs : rmd w (t' + 1) f n = s at *
    have e1 : hor (w i) (rmd w (t' + 1) f (n + 1)) (t' + 1) = hor (w i) (fun k => if k + 1 < t' + 1 then s (k + 1) else 0#8) (t' + 1) ^^^ hor (w i) (fun k => mulF (f n ^^^ s 0) (gco w (t' + 1) (t' + 1 - 1 - k))) (t' + 1) := by
      rw [← hor_xor]
      exact hor_congr fun k _ => by simp only [rmd]; rw [hs]
    have e2 : hor (w i) (fun k => if k + 1 < t' + 1 then s (k + 1) else 0#8) (t' + 1) = mulF (hor (w i) s (t' + 1)) (w i) ^^^ itr (w i) (s 0) (t' + 1) := by
      rw [hor, if_neg (by omega), BitVec.xor_zero, hor_head (f := s), mulF_xorL, hor_congr (g := fun k => s (k + 1)) fun k hk => if_pos (by omega)]
      simp only [itr]
      rw [BitVec.xor_comm (mulF (itr (w i) (s 0) t') (w i)), BitVec.xor_assoc, BitVec.xor_self, BitVec.xor_zero]
    have e3 : hor (w i) (fun k => gco w (t' + 1) (t' + 1 - 1 - k)) (t' + 1) = itr (w i) 1#8 (t' + 1) := by
      have := gco_root (w := w) hi
      rw [hor_head] at this
      rw [Nat.sub_zero, gco_top] at this
      have e4 : hor (w i) (fun k => gco w (t' + 1) (t' + 1 - (k + 1))) (t' + 1) = hor (w i) (fun k => gco w (t' + 1) (t' + 1 - 1 - k)) (t' + 1) := hor_congr fun k _ => by rw [show t' + 1 - (k + 1) = t' + 1 - 1 - k by omega]
      rw [e4] at this
      have h2 := congrArg (itr (w i) 1#8 (t' + 1) ^^^ ·) this
      simp only [BitVec.xor_zero] at h2
      rw [← BitVec.xor_assoc, BitVec.xor_self, BitVec.zero_xor] at h2
      exact h2
    rw [e1, e2, hor_mulL, e3, ih, ← itr_mul, mulF_one, itr_xor, hor, itr_xor]
    rw [show mulF (itr (w i) (hor (w i) f n) (t' + 1)) (w i) = itr (w i) (mulF (hor (w i) f n) (w i)) (t' + 1) from by rw [← itr_succ]; rfl]
    generalize itr (w i) (s 0) (t' + 1) = z
    generalize itr (w i) (f n) (t' + 1) = y
    rw [BitVec.xor_comm y z, BitVec.xor_assoc, ← BitVec.xor_assoc z z y, BitVec.xor_self, BitVec.zero_xor]
/-- The symbols and their remainder make a word with all sums zero. -/
def word (w : Nat → BitVec 8) (t n : Nat) (f : Nat → BitVec 8) (k : Nat) : BitVec 8 := if k < n then f k else rmd w t f n (k - n)
theorem word_ok {w : Nat → BitVec 8} {t n : Nat} {f : Nat → BitVec 8} {i : Nat} (hi : i < t) : hor (w i) (word w t n f) (n + t) = 0#8 := by
  rw [hor_app, hor_congr (f := word w t n f) (g := f) fun k hk => if_pos hk, hor_congr (f := fun k => word w t n f (n + k)) (g := rmd w t f n) fun k _ => by unfold word; rw [if_neg (by omega), Nat.add_sub_cancel_left], rmd_hor hi, BitVec.xor_self]
end Go.Proofs.Ythkilkjngincpaa
