/- The camera: how many pixels are dark (plain). -/
import Derived.Test.YtjedljdfkoagbaaCam2
import Derived.Test.YtjedljdfkoagbaaCamX
import Derived.Test.YtjedljdfkoagbaaPop
namespace Go.Proofs.Ytjedljdfkoagbaa
open Go Go.Lite
set_option linter.unusedVariables false
set_option linter.unusedSimpArgs false
set_option maxRecDepth 100000
set_option maxHeartbeats 4000000

theorem sumN_blk {f : Nat → Int} {b : Nat} : ∀ {m : Nat}, sumN f (m * b) = sumN (fun r => sumN (fun u => f (r * b + u)) b) m
  | 0 => by rw [Nat.zero_mul]; rfl
  | m + 1 => by rw [Nat.add_mul, Nat.one_mul, sumN_add, sumN_blk (m := m)]; rfl
theorem sumN_pl {f g : Nat → Int} : ∀ {n : Nat}, sumN (fun i => f i + g i) n = sumN f n + sumN g n
  | 0 => rfl
  | n + 1 => by simp only [sumN]; rw [sumN_pl (n := n)]; omega
theorem sumN_sw {f : Nat → Nat → Int} {m : Nat} : ∀ {n : Nat}, sumN (fun i => sumN (fun j => f i j) m) n = sumN (fun j => sumN (fun i => f i j) n) m
  | 0 => by
    show (0 : Int) = sumN (fun _ => 0) m
    exact (sumN_zero fun _ _ => rfl).symm
  | n + 1 => by
    simp only [sumN]
    rw [sumN_sw (n := n), ← sumN_pl]
theorem sumN_cst {c : Int} : ∀ {n : Nat}, sumN (fun _ => c) n = n * c
  | 0 => by simp [sumN]
  | n + 1 => by simp only [sumN]; rw [sumN_cst (n := n)]; rw [Int.natCast_succ, Int.add_mul, Int.one_mul]
theorem sumN_ml {f : Nat → Int} {c : Int} : ∀ {n : Nat}, sumN (fun i => c * f i) n = c * sumN f n
  | 0 => by simp [sumN]
  | n + 1 => by simp only [sumN]; rw [sumN_ml (n := n), Int.mul_add]

/-- Each value s times, X places further. -/
theorem mag {g : Nat → Int} {w s X : Nat} (hs : 1 ≤ s) (hX : X ≤ 32) (hg : ∀ a, w ≤ a → g a = 0) : sumN (fun x => if X ≤ x then g ((x - X) / s) else 0) (w * s + 32) = s * sumN g w := by
  rw [show w * s + 32 = X + (w * s + (32 - X)) by omega, sumN_add, sumN_add]
  have e1 : sumN (fun x => if X ≤ x then g ((x - X) / s) else 0) X = 0 := sumN_zero fun i hi => if_neg (by omega)
  have e2 : sumN (fun i => if X ≤ X + (w * s + i) then g ((X + (w * s + i) - X) / s) else 0) (32 - X) = 0 := sumN_zero fun i hi => by
    rw [if_pos (by omega), Nat.add_sub_cancel_left]
    exact hg _ ((Nat.le_div_iff_mul_le (by omega)).2 (by omega))
  have e3 : sumN (fun i => if X ≤ X + i then g ((X + i - X) / s) else 0) (w * s) = s * sumN g w := by
    rw [sumN_blk, ← sumN_ml]
    refine sumN_congr fun r hr => ?_
    rw [← sumN_cst]
    refine sumN_congr fun u hu => ?_
    rw [if_pos (by omega), Nat.add_sub_cancel_left, Nat.mul_comm r s, Nat.mul_add_div (by omega), Nat.div_eq_of_lt hu, Nat.add_zero]
  rw [e1, e2, e3]; omega

/-- The dark places of an image without blur and noise. -/
def cI (T : Bm3) (s X Y x y : Nat) : Bool := decide (X ≤ x) && decide (Y ≤ y) && px T.1 T.2.1 T.2.2 (((x - X) / s : Nat) : Int) (((y - Y) / s : Nat) : Int)
theorem camT_is {T : Bm3} {s X Y : Nat} {l d : Int} {x y : Nat} : camT T s X Y l d x y = if cI T s X Y x y then d else l := by
  unfold camT cI
  by_cases h1 : X ≤ x
  · by_cases h2 : Y ≤ y
    · have e1 : quo ((x : Int) - X) s = (((x - X) / s : Nat) : Int) := by rw [quo_nn (by omega), show (x : Int) - X = ((x - X : Nat) : Int) by omega]; rfl
      have e2 : quo ((y : Int) - Y) s = (((y - Y) / s : Nat) : Int) := by rw [quo_nn (by omega), show (y : Int) - Y = ((y - Y : Nat) : Int) by omega]; rfl
      rw [e1, e2, decide_eq_true h1, decide_eq_true h2]
      simp only [Bool.true_and]
      by_cases h3 : px T.1 T.2.1 T.2.2 (((x - X) / s : Nat) : Int) (((y - Y) / s : Nat) : Int) = true
      · rw [if_pos ⟨by omega, by omega, h3⟩, if_pos h3]
      · rw [if_neg fun h => h3 h.2.2, if_neg h3]
    · rw [if_neg (by omega), decide_eq_false h2]; simp
  · rw [if_neg (by omega), decide_eq_false h1]; simp
theorem one_if {b : Bool} {c : Prop} [Decidable c] : one (decide c && b) = if c then one b else 0 := by
  by_cases h : c
  · rw [decide_eq_true h, if_pos h, Bool.true_and]
  · rw [decide_eq_false h, if_neg h, Bool.false_and]; rfl
theorem count_mag {T : Bm3} {s X Y : Nat} (hs : 1 ≤ s) (hX : X ≤ 32) (hY : Y ≤ 32) (ok : Ok3 T) : popL (bm (camW T s) (camH T s) (cI T s X Y)) = s * (s * popL T.2.2) := by
  have e0 : popL T.2.2 = sumN (fun y => sumN (fun x => one (px T.1 T.2.1 T.2.2 (x : Nat) (y : Nat))) T.1) T.2.1 := by
    conv => lhs; rw [ok_is ok]
    exact pop_bm (by have := ok.w1; omega)
  rw [pop_bm (by unfold camW; omega), e0]
  have e1 : ∀ y, sumN (fun x => one (cI T s X Y x y)) (camW T s) = s * sumN (fun a => if Y ≤ y then one (px T.1 T.2.1 T.2.2 (a : Nat) (((y - Y) / s : Nat) : Int)) else 0) T.1 := fun y => by
    rw [← mag (g := fun a => if Y ≤ y then one (px T.1 T.2.1 T.2.2 (a : Nat) (((y - Y) / s : Nat) : Int)) else 0) hs hX fun a ha => by
      split
      · rw [px_out (by omega)]; rfl
      · rfl]
    refine sumN_congr fun x _ => ?_
    unfold cI
    rw [Bool.and_assoc, one_if, one_if]
  rw [sumN_congr fun y _ => e1 y, sumN_ml]
  refine congrArg (fun z => (s : Int) * z) ?_
  rw [← mag (g := fun b => sumN (fun a => one (px T.1 T.2.1 T.2.2 (a : Nat) (b : Nat))) T.1) hs hY fun b hb => sumN_zero fun a _ => by rw [px_out (by omega)]; rfl]
  refine sumN_congr fun y _ => ?_
  by_cases h : Y ≤ y
  · rw [if_pos h]; exact sumN_congr fun a _ => if_pos h
  · rw [if_neg h]; exact sumN_zero fun a _ => if_neg h

theorem pop_rot {t : Bm3} (ok : Ok3 t) : popL (rotD t).2.2 = popL t.2.2 := by
  have e0 : popL t.2.2 = sumN (fun y => sumN (fun x => one (px t.1 t.2.1 t.2.2 (x : Nat) (y : Nat))) t.1) t.2.1 := by
    conv => lhs; rw [ok_is ok]
    exact pop_bm (by have := ok.w1; omega)
  have e1 : popL (rotD t).2.2 = sumN (fun y => sumN (fun x => one (px t.1 t.2.1 t.2.2 (y : Nat) ((t.2.1 - 1 - x : Nat) : Int))) t.2.1) t.1 := pop_bm (by have := ok.h1; omega)
  rw [e0, e1, sumN_sw (n := t.2.1)]
  refine sumN_congr fun y _ => ?_
  exact sumN_rev (f := fun x => one (px t.1 t.2.1 t.2.2 (y : Nat) (x : Nat)))
theorem pop_rots {t : Bm3} (ok : Ok3 t) : ∀ n, popL (rots t n).2.2 = popL t.2.2
  | 0 => rfl
  | n + 1 => by
    show popL (rotD (rots t n)).2.2 = _
    rw [pop_rot (rots_ok ok n), pop_rots ok n]

/-! ### The least and the greatest tone -/
theorem mn_le {P : List Int} : ∀ {k i : Nat}, i < k → mnN P k ≤ P.getD i 0
  | k + 1, i, h => by
    simp only [mnN]
    rcases Nat.lt_or_ge i k with h1 | h1
    · have := mn_le (P := P) h1; omega
    · obtain rfl : i = k := by omega
      omega
theorem mn_at {P : List Int} (h0 : 0 < P.length) : ∀ {k : Nat}, k ≤ P.length → ∃ i, i < P.length ∧ mnN P k = P.getD i 0
  | 0, _ => ⟨0, h0, rfl⟩
  | k + 1, h => by
    obtain ⟨i, h1, h2⟩ := mn_at h0 (k := k) (by omega)
    simp only [mnN]
    by_cases e : mnN P k ≤ P.getD k 0
    · exact ⟨i, h1, by omega⟩
    · exact ⟨k, by omega, by omega⟩
theorem mx_ge {P : List Int} : ∀ {k i : Nat}, i < k → P.getD i 0 ≤ mxN P k
  | k + 1, i, h => by
    simp only [mxN]
    rcases Nat.lt_or_ge i k with h1 | h1
    · have := mx_ge (P := P) h1; omega
    · obtain rfl : i = k := by omega
      omega
theorem mx_at {P : List Int} (h0 : 0 < P.length) : ∀ {k : Nat}, k ≤ P.length → ∃ i, i < P.length ∧ mxN P k = P.getD i 0
  | 0, _ => ⟨0, h0, rfl⟩
  | k + 1, h => by
    obtain ⟨i, h1, h2⟩ := mx_at h0 (k := k) (by omega)
    simp only [mxN]
    by_cases e : P.getD k 0 ≤ mxN P k
    · exact ⟨i, h1, by omega⟩
    · exact ⟨k, by omega, by omega⟩

theorem cap_get {T : Bm3} {s X Y : Nat} {l d : Int} {m : Nat} (hm : m < camW T s * camH T s) : (capP T s X Y 0 l d []).getD m 0 = if cI T s X Y (m % camW T s) (m / camW T s) then d else l := by
  unfold capP
  rw [tab_get hm, nzF, if_pos (show ([] : List Int).length = 0 from rfl)]
  show (tab (camW T s * camH T s) (camB T s X Y l d)).getD m 0 = _
  rw [tab_get hm, camB, camT_is]
theorem dark_is {T : Bm3} {s X Y : Nat} {l d : Int} (hs : 1 ≤ s) (hX : X ≤ 32) (hld : d < l) {x y : Nat} (hx : x < camW T s) (hy : y < camH T s) :
    dark (camW T s) (capP T s X Y 0 l d []) x y = cI T s X Y x y := by
  have hw : 0 < camW T s := by omega
  have hlen : (capP T s X Y 0 l d []).length = camW T s * camH T s := tab_len
  have idx : ∀ a b, a < camW T s → b < camH T s → b * camW T s + a < camW T s * camH T s ∧ (b * camW T s + a) % camW T s = a ∧ (b * camW T s + a) / camW T s = b := fun a b ha hb => by
    refine ⟨?_, ?_, ?_⟩
    · have h1 : (b + 1) * camW T s ≤ camH T s * camW T s := Nat.mul_le_mul_right _ (by omega)
      rw [Nat.add_mul, Nat.one_mul, Nat.mul_comm (camH T s)] at h1
      omega
    · rw [Nat.mul_add_mod']; exact Nat.mod_eq_of_lt ha
    · rw [Nat.mul_comm, Nat.mul_add_div hw, Nat.div_eq_of_lt ha, Nat.add_zero]
  have val : ∀ a b, a < camW T s → b < camH T s → (capP T s X Y 0 l d []).getD (b * camW T s + a) 0 = if cI T s X Y a b then d else l := fun a b ha hb => by
    obtain ⟨h1, h2, h3⟩ := idx a b ha hb
    rw [cap_get h1, h2, h3]
  have two : ∀ m, m < camW T s * camH T s → (capP T s X Y 0 l d []).getD m 0 = d ∨ (capP T s X Y 0 l d []).getD m 0 = l := fun m hm => by
    rw [cap_get hm]; split
    · exact .inl rfl
    · exact .inr rfl
  -- a place that is light
  obtain ⟨x0, hx0, hl0⟩ : ∃ x0, x0 < camW T s ∧ cI T s X Y x0 y = false := by
    rcases Nat.eq_zero_or_pos X with h | h
    · subst h
      refine ⟨T.1 * s, by unfold camW; omega, ?_⟩
      unfold cI
      rw [Nat.sub_zero, Nat.mul_div_cancel _ hs, px_out (by omega), Bool.and_false]
    · refine ⟨0, hw, ?_⟩
      unfold cI
      rw [decide_eq_false (by omega)]; rfl
  have v0 := val x0 y hx0 hy
  rw [hl0] at v0
  have v1 := val x y hx hy
  have i0 := (idx x0 y hx0 hy).1
  have i1 := (idx x y hx hy).1
  have m0 := mx_ge (P := capP T s X Y 0 l d []) (k := (capP T s X Y 0 l d []).length) (i := y * camW T s + x0) (by omega)
  have m1 := mn_le (P := capP T s X Y 0 l d []) (k := (capP T s X Y 0 l d []).length) (i := y * camW T s + x) (by omega)
  obtain ⟨i2, h2, m2⟩ := mx_at (P := capP T s X Y 0 l d []) (by omega) (Nat.le_refl _)
  obtain ⟨i3, h3, m3⟩ := mn_at (P := capP T s X Y 0 l d []) (by omega) (Nat.le_refl _)
  have t2 := two i2 (by omega)
  have t3 := two i3 (by omega)
  unfold dark
  cases hc : cI T s X Y x y
  · rw [hc] at v1
    simp only [Bool.false_eq_true, if_false] at v0 v1
    exact decide_eq_false (by omega)
  · rw [hc] at v1
    simp only [Bool.false_eq_true, if_false, if_true] at v0 v1
    exact decide_eq_true (by omega)
end Go.Proofs.Ytjedljdfkoagbaa
