/- The pixels of a strip that is drawn. -/
import Derived.Test.YthkilkjngincpaaStrip3
namespace Go.Proofs.Ythkilkjngincpaa
open Go Go.Lite
set_option linter.unusedVariables false
set_option linter.unusedSimpArgs false
set_option maxRecDepth 100000
set_option maxHeartbeats 4000000
-- @simp rdi rd5i rdy

theorem tab_cg {α : Type} {n : Nat} {f g : Nat → α} (h : ∀ i, i < n → f i = g i) : tab n f = tab n g := List.map_congr_left fun i hi => h i (List.mem_range.mp hi)
/-- Pixels below m are of f, the others of g. -/
def mixL (n m : Nat) (f g : Nat → Int) : List Int := tab n fun i => if i < m then f i else g i
theorem mixL_len {n m : Nat} {f g : Nat → Int} : (mixL n m f g).length = n := tab_len
theorem mixL_zero {n : Nat} {f g : Nat → Int} : mixL n 0 f g = tab n g := tab_cg fun i _ => if_neg (by omega)
theorem mixL_skip {n m k : Nat} {f g : Nat → Int} (h : ∀ i, m ≤ i → i < k → f i = g i) (hm : m ≤ k) : mixL n m f g = mixL n k f g := tab_cg fun i _ => by
  by_cases h1 : i < m
  · rw [if_pos h1, if_pos (by omega)]
  · rw [if_neg h1]
    by_cases h2 : i < k
    · rw [if_pos h2, h i (by omega) h2]
    · rw [if_neg h2]
theorem mixL_set {n m : Nat} {f g : Nat → Int} {v : Int} (hv : f m = v) : (mixL n m f g).set m v = mixL n (m + 1) f g := by
  refine is_tab 0 (by rw [List.length_set, mixL_len]) fun i hi => ?_
  by_cases h : m = i
  · subst h; rw [getD_set_eq (by rw [mixL_len]; exact hi), if_pos (by omega), hv]
  · rw [getD_set_ne h]
    unfold mixL
    rw [tab_get hi]
    by_cases h2 : i < m
    · rw [if_pos h2, if_pos (by omega)]
    · rw [if_neg h2, if_neg (by omega)]

/-- What column x of unit u shows behind n patches. -/
def colV (l : List Pt) (u x : Nat) : Nat → Int
  | 0 => 0
  | n + 1 => if (l.getD n dPt).2.2.2.1 = u ∧ (l.getD n dPt).1 ≤ x ∧ (x : Int) < (l.getD n dPt).1 + (l.getD n dPt).2.1 then (if (l.getD n dPt).2.2.1 = 1 then 128 else 255) else colV l u x n
def colD (l : List Pt) (W K n u : Nat) : List Int := tab (W * K) fun i => colV l u (i % W) n
theorem colD_len {l : List Pt} {W K n u : Nat} : (colD l W K n u).length = W * K := tab_len
theorem colD_zero {l : List Pt} {W K u : Nat} : colD l W K 0 u = List.replicate (W * K) 0 := by
  unfold colD colV
  exact (List.map_const' ..).trans (by simp)
/-- A patch of another unit leaves the pixels. -/
theorem colD_other {l : List Pt} {W K n u : Nat} (h : (l.getD n dPt).2.2.2.1 ≠ u) : colD l W K (n + 1) u = colD l W K n u := tab_cg fun i _ => if_neg fun a => h a.1
/-- Unit u while patch j is drawn, m pixels on. -/
def pixM (l : List Pt) (W K u j m : Nat) : List Int := mixL (W * K) m (fun i => colV l u (i % W) (j + 1)) (fun i => colV l u (i % W) j)
theorem pixM_len {l : List Pt} {W K u j m : Nat} : (pixM l W K u j m).length = W * K := mixL_len
theorem col_in {l : List Pt} {j u X V : Nat} {kd zn : Int} (hp : l.getD j dPt = ((X : Int), (V : Int), kd, (u : Int), zn)) {x : Nat} (hx : x < V) : colV l u (X + x) (j + 1) = if kd = 1 then 128 else 255 := by
  rw [colV, hp, if_pos ⟨rfl, by dsimp only; omega, by dsimp only; omega⟩]
theorem col_out {l : List Pt} {j u X V : Nat} {kd zn : Int} (hp : l.getD j dPt = ((X : Int), (V : Int), kd, (u : Int), zn)) {c : Nat} (hc : c < X ∨ X + V ≤ c) : colV l u c (j + 1) = colV l u c j := by
  rw [colV, hp, if_neg (fun a => by have a1 := a.2.1; have a2 := a.2.2; dsimp only at a1 a2; omega)]
theorem pix_start {l : List Pt} {W K j u X V : Nat} {kd zn : Int} (hp : l.getD j dPt = ((X : Int), (V : Int), kd, (u : Int), zn)) (hx : X + V ≤ W) (hv : 1 ≤ V) : pixM l W K u j (0 * W + X) = colD l W K j u := by
  rw [Nat.zero_mul, Nat.zero_add]
  unfold pixM colD
  rw [← mixL_zero (f := fun i => colV l u (i % W) (j + 1))]
  refine (mixL_skip (fun i _ hi => ?_) (Nat.zero_le _)).symm
  rw [Nat.mod_eq_of_lt (by omega)]
  exact col_out hp (.inl hi)
theorem pix_next {l : List Pt} {W K j u X V y : Nat} {kd zn : Int} (hp : l.getD j dPt = ((X : Int), (V : Int), kd, (u : Int), zn)) (hx : X + V ≤ W) (hv : 1 ≤ V) : pixM l W K u j (y * W + X + V) = pixM l W K u j ((y + 1) * W + X) := by
  have e : (y + 1) * W = y * W + W := by rw [Nat.add_mul, Nat.one_mul]
  refine mixL_skip (fun i h1 h2 => ?_) (by omega)
  refine col_out hp ?_
  rcases Nat.lt_or_ge i (y * W + W) with h | h
  · obtain ⟨c, rfl⟩ : ∃ c, i = y * W + c := ⟨i - y * W, by omega⟩
    rw [Nat.mul_comm y W, Nat.mul_add_mod, Nat.mod_eq_of_lt (by omega)]
    omega
  · obtain ⟨c, rfl⟩ : ∃ c, i = (y + 1) * W + c := ⟨i - (y + 1) * W, by omega⟩
    rw [Nat.mul_comm (y + 1) W, Nat.mul_add_mod, Nat.mod_eq_of_lt (by omega)]
    omega
theorem pix_end {l : List Pt} {W K j u X : Nat} : pixM l W K u j (K * W + X) = colD l W K (j + 1) u := tab_cg fun i h => if_pos (by rw [Nat.mul_comm K W]; omega)
theorem pix_set {l : List Pt} {W K j u X V y x : Nat} {kd zn t : Int} (hp : l.getD j dPt = ((X : Int), (V : Int), kd, (u : Int), zn)) (hx : X + V ≤ W) (hv : x < V) (ht : (if kd = 1 then 128 else 255) = t) : (pixM l W K u j (y * W + X + x)).set (y * W + X + x) t = pixM l W K u j (y * W + X + (x + 1)) := by
  refine mixL_set ?_
  rw [Nat.add_assoc, Nat.mul_comm y W, Nat.mul_add_mod, Nat.mod_eq_of_lt (by omega)]
  exact (col_in hp hv).trans ht
theorem StOk.pt {l : List Pt} {U W : Int} (ok : StOk l U W) {j : Nat} (hj : j < l.length) : ∃ (X V u : Nat) (kd zn : Int), l.getD j dPt = ((X : Int), (V : Int), kd, (u : Int), zn) ∧ (X : Int) + V ≤ W ∧ 1 ≤ V ∧ (u : Int) < U ∧ (kd = 0 ∨ kd = 1) := by
  have h := ok.el j hj
  revert h
  generalize l.getD j dPt = p
  obtain ⟨a, b, c, d, e⟩ := p
  dsimp only
  intro h
  exact ⟨a.toNat, b.toNat, d.toNat, c, e, by rw [Int.toNat_of_nonneg (by omega), Int.toNat_of_nonneg (by omega), Int.toNat_of_nonneg (by omega)], by omega, by omega, by omega, by omega⟩
theorem pix_zero {l : List Pt} {W K u : Nat} : List.replicate (W * K) 0 = colD l W K 0 u := colD_zero.symm
theorem draw_bd (W K X V y x : Nat) (hx : X + V ≤ W) (hk : K ≤ 1024) (hw : W ≤ 1024) (hy : y < K) (hv : x < V) :
    (-9223372036854775808 ≤ (y : Int) * (W : Int) ∧ (y : Int) * (W : Int) ≤ 9223372036854775807) ∧ (-9223372036854775808 ≤ (y : Int) * (W : Int) + (X : Int) ∧ (y : Int) * (W : Int) + (X : Int) ≤ 9223372036854775807)
      ∧ (-9223372036854775808 ≤ (y : Int) * (W : Int) + (X : Int) + (x : Int) ∧ (y : Int) * (W : Int) + (X : Int) + (x : Int) ≤ 9223372036854775807)
      ∧ ((y : Int) * (W : Int) + (X : Int) + (x : Int)).toNat = y * W + X + x ∧ y * W + X + x < W * K := by
  have h1 : y * W + W ≤ W * K := by
    have : (y + 1) * W ≤ K * W := Nat.mul_le_mul_right _ hy
    rw [Nat.add_mul, Nat.one_mul, Nat.mul_comm K W] at this
    exact this
  have h2 : W * K ≤ 1024 * 1024 := Nat.mul_le_mul hw hk
  have e : (y : Int) * (W : Int) = ((y * W : Nat) : Int) := by simp
  rw [e]
  generalize y * W = m at *
  omega
theorem TWk.re2 {N : Dim} {F F' : TF A} {H H' : TH A} (hF : embF R F' = embF R F) (h : embH R H' = embH R H) : TWk R N F' H' F H := by unfold TWk; rw [hF, h]; exact Wk.refl _ _
theorem colD_cut {l : List Pt} {W K n u : Nat} : cut (colD l W K n u) 0 (W * K) = colD l W K n u := cut_tab
theorem colD_le {l : List Pt} {W K n u : Nat} : 0 + W * K ≤ (colD l W K n u).length := by rw [colD_len, Nat.zero_add]; exact Nat.le_refl _
theorem pset {l : List Pt} {W K j u X V y x : Nat} {kd zn t : Int} {q : Int} (hp : l.getD j dPt = ((X : Int), (V : Int), kd, (u : Int), zn)) (hx : X + V ≤ W) (hv : x < V) (hq : q.toNat = y * W + X + x) (ht : (if kd = 1 then 128 else 255) = t) : (pixM l W K u j (y * W + X + x)).set (q.toNat + 0) t = pixM l W K u j (y * W + X + (x + 1)) := by rw [hq]; exact pix_set hp hx hv ht
end Go.Proofs.Ythkilkjngincpaa
