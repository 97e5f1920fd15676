/- Bitmaps by their pixels: plain laws. -/
import Derived.Test.YtihminfnphichaaLists
namespace Go.Proofs.Ytihminfnphichaa
open Go Go.Lite
set_option linter.unusedVariables false
set_option linter.unusedSimpArgs false
set_option maxRecDepth 100000
set_option maxHeartbeats 4000000

/-- The number whose binary digits are g 0, .., g (n - 1), the first the greatest. -/
def bitsN (g : Nat → Bool) : Nat → Nat
  | 0 => 0
  | n + 1 => 2 * bitsN g n + (g n).toNat
theorem bitsN_lt (g : Nat → Bool) : ∀ n, bitsN g n < 2 ^ n
  | 0 => by simp [bitsN]
  | n + 1 => by
    have := bitsN_lt g n
    simp only [bitsN, Nat.pow_succ]
    have : (g n).toNat ≤ 1 := Bool.toNat_le _
    omega
theorem tb_zero {a : Nat} {b : Bool} : (2 * a + b.toNat).testBit 0 = b := by
  rw [Nat.testBit_zero]; cases b <;> simp <;> omega
theorem tb_succ {a m : Nat} {b : Bool} : (2 * a + b.toNat).testBit (m + 1) = a.testBit m := by
  rw [Nat.testBit_succ]; congr 1; cases b <;> simp <;> omega
theorem bitsN_bit (g : Nat → Bool) : ∀ n m, (bitsN g n).testBit m = if m < n then g (n - 1 - m) else false
  | 0, m => by simp [bitsN]
  | n + 1, 0 => by simp only [bitsN, tb_zero]; simp
  | n + 1, m + 1 => by
    simp only [bitsN, tb_succ]
    rw [bitsN_bit g n m]
    by_cases h : m < n
    · rw [if_pos h, if_pos (by omega)]; congr 1; omega
    · rw [if_neg h, if_neg (by omega)]
theorem bitsN_congr {f g : Nat → Bool} : ∀ {n : Nat}, (∀ i, i < n → f i = g i) → bitsN f n = bitsN g n
  | 0, _ => rfl
  | n + 1, h => by simp only [bitsN]; rw [bitsN_congr fun i hi => h i (by omega), h n (by omega)]

/-- Pixel b, from the left, of a byte. -/
def bt (v : Int) (b : Nat) : Bool := v.toNat.testBit (7 - b)
theorem byte_ext {u v : Int} (hu : 0 ≤ u ∧ u ≤ 255) (hv : 0 ≤ v ∧ v ≤ 255) (h : ∀ b, b < 8 → bt u b = bt v b) : u = v := by
  have : u.toNat = v.toNat := Nat.eq_of_testBit_eq fun m => by
    rcases Nat.lt_or_ge m 8 with hm | hm
    · have := h (7 - m) (by omega)
      unfold bt at this
      rwa [show 7 - (7 - m) = m by omega] at this
    · have h2 : (256 : Nat) ≤ 2 ^ m := Nat.le_trans (show (256 : Nat) ≤ 2 ^ 8 by decide) (Nat.pow_le_pow_right (by omega) hm)
      rw [Nat.testBit_lt_two_pow (by omega), Nat.testBit_lt_two_pow (by omega)]
  omega
theorem sh_pow {b : Nat} (h : b < 8) : (128 : Int) / 2 ^ b = ((2 ^ (7 - b) : Nat) : Int) := by
  match b, h with
  | 0, _ | 1, _ | 2, _ | 3, _ | 4, _ | 5, _ | 6, _ | 7, _ => decide
theorem band_bt {v : Int} {b : Nat} (hb : b < 8) : (band v ((128 : Int) / 2 ^ b) = 0) = (bt v b = false) := by
  rw [sh_pow hb]
  simp only [band, Int.toNat_natCast, bt]
  have e : (((v.toNat &&& 2 ^ (7 - b) : Nat) : Int) = 0) = ((v.toNat &&& 2 ^ (7 - b)) = 0) := by simp
  rw [e]
  apply propext
  constructor
  · intro h
    have h2 := congrArg (·.testBit (7 - b)) h
    simp only [Nat.testBit_and, Nat.testBit_two_pow_self, Bool.and_true, Nat.zero_testBit] at h2
    exact h2
  · intro h
    refine Nat.eq_of_testBit_eq fun m => ?_
    rw [Nat.testBit_and, Nat.zero_testBit, Nat.testBit_two_pow]
    by_cases e : 7 - b = m
    · subst e; rw [h]; rfl
    · simp [e]
theorem bor_bd {a b : Int} (ha : 0 ≤ a ∧ a ≤ 255) (hb : 0 ≤ b ∧ b ≤ 255) : 0 ≤ bor a b ∧ bor a b ≤ 255 := by
  unfold bor
  have : a.toNat ||| b.toNat < 2 ^ 8 := Nat.or_lt_two_pow (by omega) (by omega)
  omega
theorem bt_bor {a b : Int} {k : Nat} : bt (bor a b) k = (bt a k || bt b k) := by
  simp only [bt, bor, Int.toNat_natCast, Nat.testBit_or]
theorem bt_sh {b k : Nat} (hb : b < 8) (hk : k < 8) : bt ((128 : Int) / 2 ^ b) k = decide (k = b) := by
  rw [sh_pow hb]
  simp only [bt, Int.toNat_natCast, Nat.testBit_two_pow]
  by_cases e : k = b
  · subst e; simp
  · rw [decide_eq_false e, decide_eq_false (by omega)]

/-- Bytes of a row of w pixels. -/
def st (w : Nat) : Nat := (w + 7) / 8
/-- The bytes of a bitmap. -/
def bmB (w : Nat) (f : Nat → Nat → Bool) (i : Nat) : Int := (bitsN (fun b => decide (8 * (i % st w) + b < w) && f (8 * (i % st w) + b) (i / st w)) 8 : Nat)
def bm (w h : Nat) (f : Nat → Nat → Bool) : List Int := tab (st w * h) (bmB w f)
theorem bm_len {w h : Nat} {f : Nat → Nat → Bool} : (bm w h f).length = st w * h := tab_len
theorem bmB_bd (w : Nat) (f : Nat → Nat → Bool) (i : Nat) : 0 ≤ bmB w f i ∧ bmB w f i ≤ 255 := by
  have := bitsN_lt (fun b => decide (8 * (i % st w) + b < w) && f (8 * (i % st w) + b) (i / st w)) 8
  unfold bmB; omega
theorem bm_get {w h : Nat} {f : Nat → Nat → Bool} {i : Nat} (hi : i < st w * h) : (bm w h f).getD i 0 = bmB w f i := tab_get hi
theorem bm_bd {w h : Nat} {f : Nat → Nat → Bool} {i : Nat} (hi : i < st w * h) : 0 ≤ (bm w h f).getD i 0 ∧ (bm w h f).getD i 0 ≤ 255 := by rw [bm_get hi]; exact bmB_bd _ _ _
theorem bmB_bit {w : Nat} {f : Nat → Nat → Bool} {i b : Nat} (hb : b < 8) : bt (bmB w f i) b = (decide (8 * (i % st w) + b < w) && f (8 * (i % st w) + b) (i / st w)) := by
  unfold bt bmB
  rw [Int.toNat_natCast, bitsN_bit, if_pos (by omega), show 8 - 1 - (7 - b) = b by omega]
theorem st_pos {w : Nat} (h : 0 < w) : 0 < st w := by unfold st; omega
/-- The byte of a pixel. -/
def at8 (w x y : Nat) : Nat := y * st w + x / 8
theorem at8_lt {w h x y : Nat} (hx : x < w) (hy : y < h) : at8 w x y < st w * h := by
  have h1 : x / 8 < st w := by unfold st; omega
  have h2 : (y + 1) * st w ≤ h * st w := Nat.mul_le_mul_right _ hy
  rw [Nat.mul_comm (st w) h]
  unfold at8
  rw [Nat.add_mul] at h2
  omega
theorem at8_mod {w x y : Nat} (hx : x < w) : at8 w x y % st w = x / 8 := by
  have h1 : x / 8 < st w := by unfold st; omega
  unfold at8
  rw [Nat.mul_comm, Nat.mul_add_mod, Nat.mod_eq_of_lt h1]
theorem at8_div {w x y : Nat} (hx : x < w) : at8 w x y / st w = y := by
  have h1 : x / 8 < st w := by unfold st; omega
  unfold at8
  rw [Nat.mul_comm, Nat.mul_add_div (by omega), Nat.div_eq_of_lt h1, Nat.add_zero]
theorem bm_pix {w h : Nat} {f : Nat → Nat → Bool} {x y : Nat} (hx : x < w) (hy : y < h) : bt ((bm w h f).getD (at8 w x y) 0) (x % 8) = f x y := by
  rw [bm_get (at8_lt hx hy), bmB_bit (by omega), at8_mod hx, at8_div hx, show 8 * (x / 8) + x % 8 = x by omega, decide_eq_true hx, Bool.true_and]
theorem bm_congr {w h : Nat} {f g : Nat → Nat → Bool} (e : ∀ x y, x < w → y < h → f x y = g x y) : bm w h f = bm w h g := by
  refine ext_getD 0 (by simp only [bm_len]) fun i hi => ?_
  rw [bm_len] at hi
  rw [bm_get hi, bm_get hi]
  unfold bmB
  refine congrArg (fun n : Nat => (n : Int)) ?_
  refine bitsN_congr fun b hb => ?_
  by_cases hw : 8 * (i % st w) + b < w
  · have h0 : 0 < st w := st_pos (by omega)
    rw [e _ _ hw (Nat.div_lt_of_lt_mul hi)]
  · rw [decide_eq_false hw]; rfl
/-- A pixel set. -/
theorem bm_mark {w h : Nat} {f : Nat → Nat → Bool} {x y : Nat} (hx : x < w) (hy : y < h) :
    (bm w h f).set (at8 w x y) (bor ((bm w h f).getD (at8 w x y) 0) ((128 : Int) / 2 ^ (x % 8))) = bm w h (fun i j => f i j || (decide (i = x) && decide (j = y))) := by
  have hl := at8_lt hx hy
  refine ext_getD 0 (by simp only [List.length_set, bm_len]) fun i hi => ?_
  simp only [List.length_set, bm_len] at hi
  have h0 : 0 < st w := st_pos (by omega)
  have hd : 8 * (i % st w) / 8 = i % st w := by omega
  have hsh : (0 : Int) ≤ (128 : Int) / 2 ^ (x % 8) ∧ (128 : Int) / 2 ^ (x % 8) ≤ 255 := by
    rw [sh_pow (by omega)]
    have h7 : (2 : Nat) ^ (7 - x % 8) ≤ 2 ^ 7 := Nat.pow_le_pow_right (by omega) (by omega)
    generalize (2 : Nat) ^ (7 - x % 8) = m at *
    omega
  by_cases e : at8 w x y = i
  · subst e
    rw [getD_set_eq (by rw [bm_len]; exact hl), bm_get hl, bm_get hl]
    refine byte_ext (bor_bd (bmB_bd _ _ _) hsh) (bmB_bd _ _ _) fun b hb => ?_
    rw [bt_bor, bt_sh (by omega) hb, bmB_bit hb, bmB_bit hb, at8_mod hx, at8_div hx]
    by_cases eb : b = x % 8
    · subst eb
      rw [show 8 * (x / 8) + x % 8 = x by omega, decide_eq_true hx]
      simp
    · rw [decide_eq_false eb, decide_eq_false (show ¬ 8 * (x / 8) + b = x by omega)]; simp
  · rw [getD_set_ne e, bm_get hi, bm_get hi]
    unfold bmB
    refine congrArg (fun n : Nat => (n : Int)) ?_
    refine bitsN_congr fun b hb => ?_
    by_cases ex : 8 * (i % st w) + b = x ∧ i / st w = y
    · exfalso
      apply e
      unfold at8
      have := Nat.div_add_mod i (st w)
      rw [ex.2, Nat.mul_comm] at this
      omega
    · have : (decide (8 * (i % st w) + b = x) && decide (i / st w = y)) = false := by
        rw [Bool.and_eq_false_iff, decide_eq_false_iff_not, decide_eq_false_iff_not]
        exact Decidable.not_and_iff_or_not.1 ex
      dsimp only
      rw [this, Bool.or_false]
theorem bm_blank {w h : Nat} : bm w h (fun _ _ => false) = List.replicate (st w * h) 0 := by
  refine ext_getD 0 (by simp [bm_len]) fun i hi => ?_
  rw [bm_len] at hi
  rw [bm_get hi, getD_repl hi]
  refine byte_ext (bmB_bd _ _ _) (by omega) fun b hb => ?_
  rw [bmB_bit hb]
  simp [bt]

/-- The pixel (x, y) of a bitmap, wherever. -/
def px (w h : Nat) (d : List Int) (x y : Int) : Bool := decide (0 ≤ x ∧ x < w ∧ 0 ≤ y ∧ y < h) && bt (d.getD (at8 w x.toNat y.toNat) 0) (x.toNat % 8)
theorem px_bm {w h : Nat} {f : Nat → Nat → Bool} {x y : Nat} (hx : x < w) (hy : y < h) : px w h (bm w h f) x y = f x y := by
  unfold px
  rw [decide_eq_true (by omega), Int.toNat_natCast, Int.toNat_natCast, bm_pix hx hy, Bool.true_and]
theorem px_out {w h : Nat} {d : List Int} {x y : Int} (hn : ¬ (0 ≤ x ∧ x < w ∧ 0 ≤ y ∧ y < h)) : px w h d x y = false := by
  unfold px; rw [decide_eq_false hn, Bool.false_and]
/-- A bitmap as it should be. -/
structure BmOk (w h : Nat) (d : List Int) : Prop where
  w1 : 1 ≤ w ∧ w ≤ 1024
  h1 : 1 ≤ h ∧ h ≤ 1024
  len : d.length = st w * h
  byte : ∀ i, i < d.length → 0 ≤ d.getD i 0 ∧ d.getD i 0 ≤ 255
  clear : ∀ y b, y < h → b < 8 → w ≤ 8 * (st w - 1) + b → bt (d.getD (y * st w + (st w - 1)) 0) b = false
theorem bm_ok {w h : Nat} {f : Nat → Nat → Bool} (hw : 1 ≤ w ∧ w ≤ 1024) (hh : 1 ≤ h ∧ h ≤ 1024) : BmOk w h (bm w h f) := by
  have h0 : 0 < st w := st_pos (by omega)
  refine ⟨hw, hh, bm_len, fun i hi => bm_bd (by rwa [bm_len] at hi), fun y b hy hb hc => ?_⟩
  have hl : y * st w + (st w - 1) < st w * h := by
    have h2 : (y + 1) * st w ≤ h * st w := Nat.mul_le_mul_right _ hy
    rw [Nat.mul_comm (st w) h]
    rw [Nat.add_mul] at h2
    omega
  rw [bm_get hl, bmB_bit hb, Nat.mul_comm y, Nat.mul_add_mod, Nat.mod_eq_of_lt (by omega), decide_eq_false (by omega), Bool.false_and]
theorem st_bd {w : Nat} (h : 1 ≤ w ∧ w ≤ 1024) : 1 ≤ st w ∧ st w ≤ 128 := by unfold st; omega
theorem len_bd {w h : Nat} (hw : 1 ≤ w ∧ w ≤ 1024) (hh : 1 ≤ h ∧ h ≤ 1024) : 1 ≤ st w * h ∧ st w * h ≤ 131072 := by
  have h1 := st_bd hw
  have h2 : st w * h ≤ 128 * 1024 := Nat.mul_le_mul h1.2 hh.2
  have h3 : 1 * 1 ≤ st w * h := Nat.mul_le_mul h1.1 hh.1
  omega
/-- The last bits of a byte. -/
theorem band_low {v : Int} {k : Nat} (hv : 0 ≤ v ∧ v ≤ 255) (hk : k ≤ 7) : (band v ((2 ^ k - 1 : Nat) : Int) = 0) ↔ ∀ b, b < 8 → 8 - k ≤ b → bt v b = false := by
  have e : band v ((2 ^ k - 1 : Nat) : Int) = ((v.toNat % 2 ^ k : Nat) : Int) := by
    simp only [band, Int.toNat_natCast, Nat.and_two_pow_sub_one_eq_mod]
  rw [e]
  constructor
  · intro h b hb hc
    have h2 : v.toNat % 2 ^ k = 0 := by omega
    have h3 := Nat.testBit_mod_two_pow v.toNat k (7 - b)
    rw [h2, Nat.zero_testBit, decide_eq_true (show 7 - b < k by omega), Bool.true_and] at h3
    exact h3.symm
  · intro h
    have : v.toNat % 2 ^ k = 0 := Nat.eq_of_testBit_eq fun m => by
      rw [Nat.testBit_mod_two_pow, Nat.zero_testBit]
      by_cases hm : m < k
      · have := h (7 - m) (by omega) (by omega)
        unfold bt at this
        rw [show 7 - (7 - m) = m by omega] at this
        rw [this, Bool.and_false]
      · rw [decide_eq_false hm, Bool.false_and]
    rw [this]; rfl
open Classical in
noncomputable def bitsE (W H : Int) (d : List Int) : Int := if W < 1 ∨ 1024 < W ∨ H < 1 ∨ 1024 < H then 3 else if d.length ≠ st W.toNat * H.toNat then 4 else
  if ∀ y b, y < H.toNat → b < 8 → W.toNat ≤ 8 * (st W.toNat - 1) + b → bt (d.getD (y * st W.toNat + (st W.toNat - 1)) 0) b = false then 0 else 4
theorem bitsE_ok {W H : Int} {d : List Int} (hd : ∀ i, i < d.length → 0 ≤ d.getD i 0 ∧ d.getD i 0 ≤ 255) : bitsE W H d = 0 ↔ ∃ w h : Nat, W = w ∧ H = h ∧ BmOk w h d := by
  unfold bitsE
  constructor
  · intro hh
    split at hh
    · cases hh
    · split at hh
      · cases hh
      · split at hh
        · rename_i h1 h2 h3
          exact ⟨W.toNat, H.toNat, by omega, by omega, by omega, by omega, Decidable.not_not.1 h2, hd, h3⟩
        · cases hh
  · rintro ⟨w, h, rfl, rfl, k⟩
    have h1 := k.w1
    have h2 := k.h1
    rw [if_neg (by omega), if_neg (fun hn => hn k.len)]
    exact if_pos k.clear
theorem at_last {w h y : Nat} (hy : y < h) (hw : 0 < w) : y * st w + st w - 1 < st w * h ∧ y * st w + (st w - 1) = y * st w + st w - 1 := by
  have h0 := st_pos hw
  have h2 : (y + 1) * st w ≤ h * st w := Nat.mul_le_mul_right _ hy
  rw [Nat.mul_comm (st w) h]
  rw [Nat.add_mul] at h2
  omega
/-- The pixels before (x, y). -/
def upto (g : Nat → Nat → Bool) (x y i j : Nat) : Bool := decide (j < y ∨ (j = y ∧ i < x)) && g i j
theorem upto_yes {g : Nat → Nat → Bool} {x y : Nat} (h : g x y = true) (i j : Nat) : (upto g x y i j || (decide (i = x) && decide (j = y))) = upto g (x + 1) y i j := by
  unfold upto
  by_cases e : i = x ∧ j = y
  · obtain ⟨rfl, rfl⟩ := e
    rw [h, decide_eq_true (show j < j ∨ (j = j ∧ i < i + 1) by omega)]; simp
  · have hne : (decide (i = x) && decide (j = y)) = false := by
      rw [Bool.and_eq_false_iff, decide_eq_false_iff_not, decide_eq_false_iff_not]
      exact Decidable.not_and_iff_or_not.1 e
    rw [hne, Bool.or_false]
    congr 1
    exact decide_eq_decide.2 (by omega)
theorem upto_no {g : Nat → Nat → Bool} {x y : Nat} (h : g x y = false) (i j : Nat) : upto g x y i j = upto g (x + 1) y i j := by
  unfold upto
  by_cases e : i = x ∧ j = y
  · obtain ⟨rfl, rfl⟩ := e; rw [h, Bool.and_false, Bool.and_false]
  · congr 1
    exact decide_eq_decide.2 (by omega)
theorem upto_row {g : Nat → Nat → Bool} {w y i j : Nat} (h : i < w) : upto g w y i j = upto g 0 (y + 1) i j := by
  unfold upto; congr 1; exact decide_eq_decide.2 (by omega)
theorem upto_all {g : Nat → Nat → Bool} {k i j : Nat} (h : j < k) : upto g 0 k i j = g i j := by
  unfold upto; rw [decide_eq_true (by omega), Bool.true_and]
theorem upto_none {g : Nat → Nat → Bool} {i j : Nat} : upto g 0 0 i j = false := by
  unfold upto; rw [decide_eq_false (by omega), Bool.false_and]
end Go.Proofs.Ytihminfnphichaa
