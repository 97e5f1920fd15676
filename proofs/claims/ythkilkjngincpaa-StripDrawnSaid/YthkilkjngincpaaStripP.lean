/- Strips: a strip that is drawn is read as drawn (plain). -/
import Derived.Test.YthkilkjngincpaaStripR
namespace Go.Proofs.Ythkilkjngincpaa
open Go Go.Lite
set_option linter.unusedVariables false
set_option linter.unusedSimpArgs false
set_option maxRecDepth 100000
set_option maxHeartbeats 4000000
-- @simp rdi rd5i rdy

theorem sumN_cns {f : Nat → Int} {c : Int} : ∀ {n : Nat}, (∀ i, i < n → f i = c) → sumN f n = n * c
  | 0, _ => by simp [sumN]
  | n + 1, h => by
    simp only [sumN]
    rw [sumN_cns fun i hi => h i (by omega), h n (by omega), Int.natCast_add, Int.add_mul]
    simp
/-- A patch ends before each later one begins. -/
theorem StOk.before {l : List Pt} {U W : Int} (ok : StOk l U W) {m : Nat} : ∀ {n : Nat}, m < n → n < l.length → (l.getD m dPt).1 + (l.getD m dPt).2.1 ≤ (l.getD n dPt).1
  | 0, h, _ => by omega
  | n + 1, h, hn => by
    have h1 := ok.ord n hn
    rcases Nat.lt_or_ge m n with hm | hm
    · have h2 := ok.before hm (show n < l.length by omega)
      have h3 := ok.el n (by omega)
      omega
    · obtain rfl : m = n := by omega
      exact h1
/-- What patch m shows stays. -/
theorem col_stays {l : List Pt} {U W : Int} (ok : StOk l U W) {m u X V : Nat} {kd zn : Int} (hp : l.getD m dPt = ((X : Int), (V : Int), kd, (u : Int), zn)) {x : Nat} (hx : x < V) : ∀ n, m < n → n ≤ l.length → colV l u (X + x) n = if kd = 1 then 128 else 255
  | 0, h, _ => by omega
  | n + 1, h, hn => by
    rcases Nat.lt_or_ge m n with hm | hm
    · have h2 := ok.before hm (show n < l.length by omega)
      rw [hp] at h2
      dsimp only at h2
      rw [colV, if_neg (fun a => by have := a.2.1; omega)]
      exact col_stays ok hp hx n hm (by omega)
    · obtain rfl : m = n := by omega
      exact col_in hp hx
theorem near_full {m : Int} (hm : 1 ≤ m) : near (255 * m) m = 255 := by
  unfold near
  rw [show 2 * (255 * m) + m = m + 255 * (2 * m) by omega, Int.add_mul_ediv_right _ _ (by omega), Int.ediv_eq_zero_of_lt (by omega) (by omega)]
  rfl
theorem near_none {m : Int} (hm : 1 ≤ m) : near (255 * 0) m = 0 := by
  unfold near
  rw [Int.mul_zero, Int.mul_zero, Int.zero_add, Int.ediv_eq_zero_of_lt (by omega) (by omega)]
/-- The bits of unit u's plate at a threshold. -/
def stD (l : List Pt) (W K : Nat) (t : Int) (u : Nat) : List Int := bm W K fun x y => decide (t ≤ (colD l W K l.length u).getD (y * W + x) 0)
theorem area_drawn {l : List Pt} {U : Int} {W K : Nat} (ok : StOk l U W) (hK : 1 ≤ K) {m u X V : Nat} {kd zn t : Int} (hm : m < l.length) (hp : l.getD m dPt = ((X : Int), (V : Int), kd, (u : Int), zn)) (hv : 1 ≤ V) (hx : X + V ≤ W) :
    near (255 * areaN W K (stD l W K t u) X V K) ((V : Int) * (K : Int)) = if t ≤ (if kd = 1 then 128 else 255) then 255 else 0 := by
  have vk : 1 ≤ (V : Int) * (K : Int) := by
    have : 1 * 1 ≤ V * K := Nat.mul_le_mul hv hK
    have e : (V : Int) * K = ((V * K : Nat) : Int) := by simp
    omega
  have hb : ∀ y x, y < K → x < V → px W K (stD l W K t u) ((X + x : Nat) : Int) (y : Int) = decide (t ≤ (if kd = 1 then 128 else 255)) := by
    intro y x hy hxv
    unfold stD
    have hyw : y * W + (X + x) < W * K := by
      have : (y + 1) * W ≤ K * W := Nat.mul_le_mul_right _ hy
      rw [Nat.add_mul, Nat.one_mul, Nat.mul_comm K W] at this
      omega
    rw [px_bm (by omega) hy]
    unfold colD
    rw [tab_get hyw, Nat.mul_comm y W, Nat.mul_add_mod, Nat.mod_eq_of_lt (by omega), col_stays ok hp hxv l.length hm (Nat.le_refl _)]
  have e : areaN W K (stD l W K t u) X V K = (K : Int) * ((V : Int) * one (decide (t ≤ (if kd = 1 then 128 else 255)))) := by
    unfold areaN
    refine sumN_cns fun y hy => sumN_cns fun x hx => ?_
    rw [hb y x hy hx]
  rw [e]
  by_cases h : t ≤ (if kd = 1 then 128 else 255)
  · rw [if_pos h, decide_eq_true h]
    have e1 : (K : Int) * ((V : Int) * one true) = (V : Int) * (K : Int) := by simp [one, Int.mul_comm]
    rw [e1]
    exact near_full vk
  · rw [if_neg h, decide_eq_false h]
    have e1 : (K : Int) * ((V : Int) * one false) = 0 := by simp [one]
    rw [e1]
    exact near_none vk
theorem pat_bd {U Z W n : Nat} (hU : 1 ≤ U ∧ U ≤ 8) (hZ : 1 ≤ Z ∧ Z ≤ 16) (hW : 1 ≤ W ∧ W ≤ 1024) (hw : ∀ z, z < Z → 1 ≤ zoneW U Z W z) (hn : n < 2 * U * Z) : 1 ≤ pV U Z W n ∧ pX U Z W n + pV U Z W n ≤ W := by
  have h1 : n / (2 * U) < Z := Nat.div_lt_of_lt_mul hn
  have h2 := Nat.mod_lt n (show 2 * U > 0 by omega)
  have h3 := zone_fit (U := U) (Z := Z) (W := W) (z := n / (2 * U)) (k := n % (2 * U) + 1) (by omega)
  have h4 := zone_end (Z := Z) (W := W) (z := n / (2 * U) + 1) (by omega) (by omega)
  rw [Nat.add_mul, Nat.one_mul] at h3
  refine ⟨hw _ h1, ?_⟩
  unfold pX pV
  omega
theorem rdg_drawn {U Z W K : Nat} (hU : 1 ≤ U ∧ U ≤ 8) (hZ : 1 ≤ Z ∧ Z ≤ 16) (hW : 1 ≤ W ∧ W ≤ 1024) (hK : 1 ≤ K) (hw : ∀ z, z < Z → 1 ≤ zoneW U Z W z) {t : Int} (ht : t ≤ 255) {r : Nat} (hr : r < U * Z) :
    rdg U Z W K (stD (tab (2 * U * Z) (patch U Z W)) W K t) r = (((r % U : Nat) : Int), ((r / U : Nat) : Int), 255, if t ≤ 128 then 255 else 0) := by
  have ok := patch_ok hU hZ hW hw
  have hl : (tab (2 * U * Z) (patch U Z W)).length = 2 * U * Z := tab_len
  have h1 : 2 * r < 2 * U * Z := by rw [Nat.mul_assoc]; omega
  have h2 : 2 * r + 1 < 2 * U * Z := by rw [Nat.mul_assoc] at *; omega
  have b := fun n (hn : n < 2 * U * Z) => pat_bd (U := U) (Z := Z) (W := W) hU hZ hW hw hn
  have a1 := area_drawn ok hK (t := t) (m := 2 * r) (by rw [hl]; exact h1) ((tab_get h1).trans patch_even) (b _ h1).1 (b _ h1).2
  have a2 := area_drawn ok hK (t := t) (m := 2 * r + 1) (by rw [hl]; exact h2) ((tab_get h2).trans (patch_odd hU.1)) (b _ h2).1 (b _ h2).2
  unfold rdg pA
  rw [a1, a2]
  rw [if_neg (show ¬ (0 : Int) = 1 by decide), if_pos ht, if_pos (show (1 : Int) = 1 from rfl)]
theorem colV_bd {l : List Pt} {u x : Nat} : ∀ {n : Nat}, 0 ≤ colV l u x n ∧ colV l u x n ≤ 255
  | 0 => by simp [colV]
  | n + 1 => by
    rw [colV]
    split
    · split <;> omega
    · exact colV_bd
theorem colD_bd {l : List Pt} {W K n u i : Nat} (h : i < (colD l W K n u).length) : 0 ≤ (colD l W K n u).getD i 0 ∧ (colD l W K n u).getD i 0 ≤ 255 := by
  rw [colD_len] at h
  unfold colD
  rw [tab_get h]
  exact colV_bd
end Go.Proofs.Ythkilkjngincpaa
