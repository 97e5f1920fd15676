/- Bar codes: what is written is read (plain). -/
import Derived.Test.YtbfflfinhigfeaaLin4
namespace Go.Proofs.Ytbfflfinhigfeaa
open Go Go.Lite
set_option linter.unusedVariables false
set_option linter.unusedSimpArgs false
set_option maxRecDepth 100000
set_option maxHeartbeats 4000000

theorem near_scale {x T s : Int} (hs : 0 < s) : near (11 * (x * s)) (T * s) = near (11 * x) T := by
  unfold near
  rw [show 2 * (11 * (x * s)) + T * s = (2 * (11 * x) + T) * s by grind, show 2 * (T * s) = (2 * T) * s by grind]
  exact Int.mul_ediv_mul_of_pos_left _ _ hs
theorem find_congr {e f : Nat → Int} (h0 : e 0 = f 0) (h1 : e 1 = f 1) (h2 : e 2 = f 2) (h3 : e 3 = f 3) : ∀ (l : List W6) (k : Nat), findW e l k = findW f l k
  | [], _ => rfl
  | a :: r, k => by
    have : fits a e = fits a f := by unfold fits; rw [h0, h1, h2, h3]
    simp only [findW, this, find_congr h0 h1 h2 h3 r (k + 1)]
/-- The edges of six widths, by their sum. -/
def edP (a : W6) (T : Int) (i : Nat) : Int := match i with
  | 0 => near (11 * (a.1 + a.2.1)) T
  | 1 => near (11 * (a.2.1 + a.2.2.1)) T
  | 2 => near (11 * (a.2.2.1 + a.2.2.2.1)) T
  | _ => near (11 * (a.2.2.2.1 + a.2.2.2.2.1)) T
def sumP (a : W6) : Int := a.1 + a.2.1 + a.2.2.1 + a.2.2.2.1 + a.2.2.2.2.1 + a.2.2.2.2.2
theorem val_scale {w : List Int} {a : W6} {s : Int} (hs : 0 < s) (h0 : w.getD 0 0 + w.getD 1 0 = (a.1 + a.2.1) * s) (h1 : w.getD 1 0 + w.getD 2 0 = (a.2.1 + a.2.2.1) * s) (h2 : w.getD 2 0 + w.getD 3 0 = (a.2.2.1 + a.2.2.2.1) * s)
    (h3 : w.getD 3 0 + w.getD 4 0 = (a.2.2.2.1 + a.2.2.2.2.1) * s) (h4 : w.getD 4 0 + w.getD 5 0 = (a.2.2.2.2.1 + a.2.2.2.2.2) * s) : valW w = findW (edP a (sumP a)) TB 0 := by
  have ht : w.getD 0 0 + w.getD 1 0 + w.getD 2 0 + w.getD 3 0 + w.getD 4 0 + w.getD 5 0 = sumP a * s := by
    unfold sumP
    rw [show w.getD 0 0 + w.getD 1 0 + w.getD 2 0 + w.getD 3 0 + w.getD 4 0 + w.getD 5 0 = (w.getD 0 0 + w.getD 1 0) + (w.getD 2 0 + w.getD 3 0) + (w.getD 4 0 + w.getD 5 0) by omega, h0, h2, h4]
    grind
  refine find_congr ?_ ?_ ?_ ?_ _ _
  · show near (11 * (w.getD 0 0 + w.getD 1 0)) _ = near _ _
    rw [ht, h0]; exact near_scale hs
  · show near (11 * (w.getD 1 0 + w.getD 2 0)) _ = near _ _
    rw [ht, h1]; exact near_scale hs
  · show near (11 * (w.getD 2 0 + w.getD 3 0)) _ = near _ _
    rw [ht, h2]; exact near_scale hs
  · show near (11 * (w.getD 3 0 + w.getD 4 0)) _ = near _ _
    rw [ht, h3]; exact near_scale hs
theorem pat_find : ∀ v : Nat, v < 103 → findW (edP (TB.getD v (R.d E6i)) (sumP (TB.getD v (R.d E6i)))) TB 0 = (v : Int) := by decide +kernel
theorem pat_rng : ∀ v : Nat, v < 103 → ∀ k, k < 6 → 1 ≤ (pat (v : Int)).getD k 0 ∧ (pat (v : Int)).getD k 0 ≤ 4 := by decide +kernel
/-- Groups of six, in any unit, bars wider and spaces narrower. -/
def Grp (w : List Int) (m : Nat) (G : Nat → Int) (s g : Int) : Prop := ∀ i, i < m → ∀ k, k < 6 → w.getD (6 * i + k) 0 = (pat (G i)).getD k 0 * s + (if k % 2 = 0 then g else -g)
theorem drop_get {w : List Int} {n k : Nat} : (w.drop n).getD k 0 = w.getD (n + k) 0 := by
  rw [List.getD_eq_getElem?_getD, List.getElem?_drop, ← List.getD_eq_getElem?_getD]
theorem grp_val {w : List Int} {m : Nat} {G : Nat → Int} {s g : Int} (hs : 0 < s) (h : Grp w m G s g) (hG : ∀ i, i < m → 0 ≤ G i ∧ G i ≤ 102) {i : Nat} (hi : i < m) : gr w i = G i := by
  obtain ⟨v, hv⟩ : ∃ v : Nat, G i = v := ⟨(G i).toNat, by have := hG i hi; omega⟩
  have hv3 : v < 103 := by have := hG i hi; omega
  have k0 := h i hi 0 (by omega)
  have k1 := h i hi 1 (by omega)
  have k2 := h i hi 2 (by omega)
  have k3 := h i hi 3 (by omega)
  have k4 := h i hi 4 (by omega)
  have k5 := h i hi 5 (by omega)
  rw [if_pos (by decide)] at k0 k2 k4
  rw [if_neg (by decide)] at k1 k3 k5
  rw [hv] at k0 k1 k2 k3 k4 k5 ⊢
  unfold gr
  rw [← pat_find v hv3]
  obtain ⟨a, ha⟩ : ∃ a, a = TB.getD v (R.d E6i) := ⟨_, rfl⟩
  have p0 : (pat (v : Int)).getD 0 0 = a.1 := by rw [ha]; rfl
  have p1 : (pat (v : Int)).getD 1 0 = a.2.1 := by rw [ha]; rfl
  have p2 : (pat (v : Int)).getD 2 0 = a.2.2.1 := by rw [ha]; rfl
  have p3 : (pat (v : Int)).getD 3 0 = a.2.2.2.1 := by rw [ha]; rfl
  have p4 : (pat (v : Int)).getD 4 0 = a.2.2.2.2.1 := by rw [ha]; rfl
  have p5 : (pat (v : Int)).getD 5 0 = a.2.2.2.2.2 := by rw [ha]; rfl
  rw [p0] at k0; rw [p1] at k1; rw [p2] at k2; rw [p3] at k3; rw [p4] at k4; rw [p5] at k5
  rw [← ha]
  refine val_scale hs ?_ ?_ ?_ ?_ ?_ <;> simp only [drop_get] <;> grind

theorem patsL_get {Z : List Int} : ∀ {n i k : Nat}, i < n → k < 6 → (patsL Z n).getD (6 * i + k) 0 = (pat (Z.getD i 0)).getD k 0
  | n + 1, i, k, hi, hk => by
    simp only [patsL]
    rcases Nat.lt_or_ge i n with h | h
    · rw [getD_app1 (by rw [patsL_len]; omega)]; exact patsL_get h hk
    · obtain rfl : i = n := by omega
      rw [getD_app2 (by rw [patsL_len]; omega), patsL_len, Nat.add_sub_cancel_left]

/-- The values of a text, with start, check and stop. -/
def GV (l : List Int) (i : Nat) : Int := if i = 0 then 101 else (vals l ++ [chk (vals l)] ++ [102]).getD (i - 1) 0
theorem GV_vals {l : List Int} {i : Nat} (hi : i < (vals l).length) : GV l (i + 1) = (vals l).getD i 0 := by
  unfold GV
  rw [if_neg (by omega), Nat.add_sub_cancel, getD_app1 (by rw [List.length_append]; omega), getD_app1 hi]
theorem GV_chk {l : List Int} : GV l ((vals l).length + 1) = chk (vals l) := by
  unfold GV
  rw [if_neg (by omega), Nat.add_sub_cancel, getD_app1 (by rw [List.length_append]; simp), getD_app2 (Nat.le_refl _), Nat.sub_self]; rfl
theorem GV_stop {l : List Int} : GV l ((vals l).length + 2) = 102 := by
  unfold GV
  rw [if_neg (by omega), getD_app2 (by rw [List.length_append]; simp), List.length_append]
  simp
theorem GV_bd {l : List Int} (hd : Dig l) {i : Nat} (hi : i < (vals l).length + 3) : 0 ≤ GV l i ∧ GV l i ≤ 102 := by
  have hc := chk_bd (vals l)
  rcases Nat.eq_zero_or_pos i with h | h
  · subst h; unfold GV; rw [if_pos rfl]; omega
  · rcases Nat.lt_or_ge i ((vals l).length + 1) with h1 | h1
    · obtain ⟨j, rfl⟩ : ∃ j, i = j + 1 := ⟨i - 1, by omega⟩
      rw [GV_vals (by omega)]
      have := vals_bd hd j (by omega)
      omega
    · have : i = (vals l).length + 1 ∨ i = (vals l).length + 2 := by omega
      rcases this with rfl | rfl
      · rw [GV_chk]; omega
      · rw [GV_stop]; omega
theorem code_len {l : List Int} : (code l).length = 6 * ((vals l).length + 3) + 1 := by
  unfold code
  rw [List.length_append, List.length_append, patsL_len, pat_len, List.length_append, List.length_append]
  simp only [List.length_cons, List.length_nil]
  omega
theorem code_get {l : List Int} {i k : Nat} (hi : i < (vals l).length + 3) (hk : k < 6) : (code l).getD (6 * i + k) 0 = (pat (GV l i)).getD k 0 := by
  unfold code
  have ln : (vals l ++ [chk (vals l)] ++ [102]).length = (vals l).length + 2 := by simp
  rw [getD_app1 (by rw [List.length_append, patsL_len, pat_len, ln]; omega)]
  rcases Nat.eq_zero_or_pos i with h | h
  · subst h
    rw [Nat.mul_zero, Nat.zero_add, getD_app1 (by rw [pat_len]; exact hk)]; rfl
  · obtain ⟨j, rfl⟩ : ∃ j, i = j + 1 := ⟨i - 1, by omega⟩
    rw [getD_app2 (by rw [pat_len]; omega), pat_len, show 6 * (j + 1) + k - 6 = 6 * j + k by omega, patsL_get (by rw [ln]; omega) hk]
    unfold GV
    rw [if_neg (by omega), Nat.add_sub_cancel]
theorem code_last {l : List Int} : (code l).getD (6 * ((vals l).length + 3)) 0 = 2 := by
  unfold code
  have ln : (vals l ++ [chk (vals l)] ++ [102]).length = (vals l).length + 2 := by simp
  rw [getD_app2 (by rw [List.length_append, patsL_len, pat_len, ln]; omega), List.length_append, patsL_len, pat_len, ln]
  rw [show 6 * ((vals l).length + 3) - (6 + 6 * ((vals l).length + 2)) = 0 by omega]; rfl
theorem code_bd {l : List Int} (hd : Dig l) (i : Nat) (hi : i < (code l).length) : 1 ≤ (code l).getD i 0 ∧ (code l).getD i 0 ≤ 4 := by
  rw [code_len] at hi
  rcases Nat.lt_or_ge i (6 * ((vals l).length + 3)) with h | h
  · have hg := GV_bd hd (i := i / 6) (by omega)
    have hc := code_get (l := l) (i := i / 6) (k := i % 6) (by omega) (by omega)
    rw [show 6 * (i / 6) + i % 6 = i by omega] at hc
    rw [hc]
    obtain ⟨v, hv⟩ : ∃ v : Nat, GV l (i / 6) = v := ⟨(GV l (i / 6)).toNat, by omega⟩
    rw [hv]
    exact pat_rng v (by omega) _ (by omega)
  · obtain rfl : i = 6 * ((vals l).length + 3) := by omega
    rw [code_last]; omega
end Go.Proofs.Ytbfflfinhigfeaa
