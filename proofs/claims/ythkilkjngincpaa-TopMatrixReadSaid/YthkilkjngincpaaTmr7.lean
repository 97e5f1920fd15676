/- The camera and matrix codes, in plain words: samples. -/
import Derived.Test.YthkilkjngincpaaTmr6
namespace Go.Proofs.Ythkilkjngincpaa
open Go Go.Lite
set_option linter.unusedVariables false
set_option linter.unusedSimpArgs false
set_option maxRecDepth 100000
set_option maxHeartbeats 4000000

def mid (m n x : Nat) : Nat := (2 * x + 1) * m / (2 * n)
theorem mid_lt {m n x : Nat} (hm : 0 < m) (hx : x < n) : mid m n x < m := by
  unfold mid
  refine Nat.div_lt_of_lt_mul ?_
  exact Nat.mul_lt_mul_of_pos_right (by omega) hm
theorem mid_mono {m n x : Nat} : mid m n x ≤ mid m n (x + 1) := Nat.div_le_div_right (Nat.mul_le_mul_right _ (by omega))
theorem mid_same {m x : Nat} (hm : 0 < m) : mid m m x = x := by
  unfold mid
  rw [Nat.mul_div_mul_right _ _ hm]; omega
theorem mid_twice {m n : Nat} (hm : 0 < m) (h : m < n) : ∃ x, x + 1 < n ∧ mid m n x = mid m n (x + 1) := by
  refine Classical.byContradiction fun hne => ?_
  have up : ∀ x, x < n → x ≤ mid m n x := fun x => by
    induction x with
    | zero => intro _; exact Nat.zero_le _
    | succ x ih =>
      intro hx
      have h1 := ih (by omega)
      have h2 := mid_mono (m := m) (n := n) (x := x)
      have h3 : mid m n x ≠ mid m n (x + 1) := fun e => hne ⟨x, hx, e⟩
      omega
  have h1 := up (n - 1) (by omega)
  have h2 := mid_lt (n := n) hm (show n - 1 < n by omega)
  omega
/-- What a sample of the magnified code is. -/
theorem smp_is {m s X Y w n x y : Nat} {f : Nat → Nat → Bool} {D : List Int} (hs : 1 ≤ s) (hm : 0 < m) (hw : X + m * s ≤ w ∧ Y + m * s ≤ w) (hD : ∀ x y, x < w → y < w → px w w D (x : Int) (y : Int) = cJ m s X Y f x y) (hx : x < n) (hy : y < n) :
    smp w w D X Y (m * s) (m * s) n x y = f (mid m n x) (mid m n y) := by
  have ms : 0 < m * s := Nat.mul_pos hm hs
  have pos : ∀ x, x < n → (2 * x + 1) * (m * s) / (2 * n) < m * s ∧ (2 * x + 1) * (m * s) / (2 * n) / s = mid m n x := fun x hx => by
    refine ⟨Nat.div_lt_of_lt_mul (Nat.mul_lt_mul_of_pos_right (by omega) ms), ?_⟩
    unfold mid
    rw [Nat.div_div_eq_div_mul, ← Nat.mul_assoc, Nat.mul_div_mul_right _ _ hs]
  obtain ⟨a1, a2⟩ := pos x hx
  obtain ⟨b1, b2⟩ := pos y hy
  unfold smp
  rw [hD _ _ (by omega) (by omega)]
  unfold cJ
  rw [Nat.add_sub_cancel_left, Nat.add_sub_cancel_left, a2, b2, decide_eq_true (show X ≤ X + (2 * x + 1) * (m * s) / (2 * n) from Nat.le_add_right _ _), decide_eq_true (show Y ≤ Y + (2 * y + 1) * (m * s) / (2 * n) from Nat.le_add_right _ _), decide_eq_true (mid_lt hm hx), decide_eq_true (mid_lt hm hy)]
  simp
theorem cntB_pos {p : Nat → Bool} {i : Nat} (hp : p i = true) : ∀ {n : Nat}, i < n → 1 ≤ cntB p n
  | n + 1, h => by
    rw [cntB_succ]
    by_cases e : i = n
    · rw [← e, if_pos hp]; omega
    · have := cntB_pos hp (n := n) (by omega); omega
theorem mWr_pos {s x y : Nat} {f : Nat → Nat → Bool} (hx : x < s) (hy : y < s) (h : mBad s f x y = true) : 1 ≤ mWr s f s := by
  rw [mWr_cnt (by omega)]
  have hlt : y * s + x < s * s := by
    have : (y + 1) * s ≤ s * s := Nat.mul_le_mul_right _ hy
    rw [Nat.add_mul, Nat.one_mul] at this; omega
  have := cntB_pos (p := fun i => mBad s f (i % s) (i / s)) (i := y * s + x) (by
    rw [Nat.mul_comm y s, Nat.mul_add_mod, Nat.mod_eq_of_lt hx, Nat.mul_add_div (by omega), Nat.div_eq_of_lt hx, Nat.add_zero]; exact h) hlt
  omega
theorem mDark_top {s x : Nat} (hs : 8 ≤ s) (hx : x < s) : mDark s x 0 = (x % 2 == 0) := by
  unfold mDark
  by_cases e : x = 0
  · subst e; rw [if_pos (.inl rfl)]; rfl
  · rw [if_neg (by omega), if_pos rfl]
/-- Two modules of the top side that are alike: one is wrong. -/
theorem top_bad {s x : Nat} {f : Nat → Nat → Bool} (hs : 8 ≤ s) (hx : x + 1 < s) (h : f x 0 = f (x + 1) 0) : 1 ≤ mWr s f s := by
  have b0 : ∀ z, z < s → mBord s z 0 = true := fun z _ => by unfold mBord; simp
  have d1 := mDark_top (x := x) hs (by omega)
  have d2 := mDark_top (x := x + 1) hs (by omega)
  by_cases e : mDark s x 0 = f x 0
  · refine mWr_pos (x := x + 1) (y := 0) hx (by omega) ?_
    unfold mBad
    rw [b0 _ hx, d2, ← h, ← e, d1]
    rcases Nat.mod_two_eq_zero_or_one x with h2 | h2
    · rw [show (x + 1) % 2 = 1 by omega, h2]; rfl
    · rw [show (x + 1) % 2 = 0 by omega, h2]; rfl
  · refine mWr_pos (x := x) (y := 0) (by omega) (by omega) ?_
    unfold mBad
    rw [b0 x (by omega)]
    simpa using e
theorem mBest_pos {s : Nat} {D : List Int} (hs : 1 ≤ s) (h : ∀ k, k < 4 → 1 ≤ mWr s (mPix s D k) s) : ∀ n, n ≤ 4 → 1 ≤ (mBest s D n).2
  | 0, _ => by simp only [mBest]; omega
  | n + 1, hn => by
    simp only [mBest]
    split
    · exact h n (by omega)
    · exact mBest_pos hs h n (by omega)
/-- A sample with more modules than the code has a wrong border. -/
theorem smp_worse {m n : Nat} {f : Nat → Nat → Bool} (hm : 0 < m) (hn : 8 ≤ n) (h : m < n) : 1 ≤ (mBest n (bm n n fun x y => f (mid m n x) (mid m n y)) 4).2 := by
  obtain ⟨z, hz, he⟩ := mid_twice hm h
  refine mBest_pos (by omega) (fun k hk => ?_) 4 (Nat.le_refl _)
  have pk : ∀ x y, x < n → y < n → mPix n (bm n n fun x y => f (mid m n x) (mid m n y)) k x y = rotN n (fun x y => f (mid m n x) (mid m n y)) k x y := fun x y hx hy => by
    unfold mPix
    rw [trn_rot (by omega) k hk hx hy]
    exact rotN_congr (fun x y hx hy => px_bm hx hy) k x y hx hy
  have h4 : k = 0 ∨ k = 1 ∨ k = 2 ∨ k = 3 := by omega
  have r1 : n - 1 - (n - 2 - z) = z + 1 := by omega
  have r2 : n - 1 - (n - 2 - z + 1) = z := by omega
  rcases h4 with rfl | rfl | rfl | rfl
  · refine top_bad (x := z) hn hz ?_
    rw [pk _ _ (by omega) (by omega), pk _ _ hz (by omega)]
    show f (mid m n z) _ = f (mid m n (z + 1)) _
    rw [he]
  · refine top_bad (x := n - 2 - z) hn (by omega) ?_
    rw [pk _ _ (by omega) (by omega), pk _ _ (by omega) (by omega)]
    show f _ (mid m n (n - 1 - (n - 2 - z))) = f _ (mid m n (n - 1 - (n - 2 - z + 1)))
    rw [r1, r2, he]
  · refine top_bad (x := n - 2 - z) hn (by omega) ?_
    rw [pk _ _ (by omega) (by omega), pk _ _ (by omega) (by omega)]
    show f (mid m n (n - 1 - (n - 2 - z))) _ = f (mid m n (n - 1 - (n - 2 - z + 1))) _
    rw [r1, r2, he]
  · refine top_bad (x := z) hn hz ?_
    rw [pk _ _ (by omega) (by omega), pk _ _ hz (by omega)]
    show f _ (mid m n (n - 1 - (n - 1 - z))) = f _ (mid m n (n - 1 - (n - 1 - (z + 1))))
    rw [show n - 1 - (n - 1 - z) = z by omega, show n - 1 - (n - 1 - (z + 1)) = z + 1 by omega, he]
/-- A module inside the border turned over. -/
theorem fOn_set {s k : Nat} {on : Nat → Bool} {v : Bool} (hs : 8 ≤ s) (hk : k < (s - 2) * (s - 2)) {x y : Nat} (hx : x < s) (hy : y < s) : fOn s (upd on (inK s k) v) x y = if x = 1 + k % (s - 2) ∧ y = 1 + k / (s - 2) then v else fOn s on x y := by
  obtain ⟨a1, a2, a3, _⟩ := inK_xy hs hk
  unfold fOn upd
  by_cases e : x = 1 + k % (s - 2) ∧ y = 1 + k / (s - 2)
  · rw [if_pos e, if_pos]
    unfold inK
    rw [e.1, e.2]
  · rw [if_neg e, if_neg]
    intro h
    apply e
    rw [← a1, ← a2, ← h]
    constructor
    · rw [Nat.mul_comm, Nat.mul_add_mod, Nat.mod_eq_of_lt hx]
    · rw [Nat.mul_comm, Nat.mul_add_div (by omega), Nat.div_eq_of_lt hx, Nat.add_zero]
theorem bxs_congr {f g : Nat → Nat → Bool} {w k : Nat} (h : ∀ x y, x < w → y < k → f x y = g x y) : ∀ y, y ≤ k → bxs f w k y = bxs g w k y := by
  have lo : ∀ {p q : Nat → Bool} {a n : Nat}, (∀ x, x < n → p x = q x) → rlo p a n = rlo q a n ∧ rhi p a n = rhi q a n ∧ rany p n = rany q n := fun {p q a n} hh => by
    induction n with
    | zero => exact ⟨rfl, rfl, rfl⟩
    | succ n ih =>
      obtain ⟨h1, h2, h3⟩ := ih fun x hx => hh x (by omega)
      simp only [rlo, rhi, rany]
      rw [h1, h2, h3, hh n (by omega)]
      exact ⟨rfl, rfl, rfl⟩
  intro y
  induction y with
  | zero => intro _; rfl
  | succ y ih =>
    intro hy
    have e := ih (by omega)
    simp only [bxs]
    rw [e]
    obtain ⟨h1, _, h3⟩ := lo (p := fun x => f x y) (q := fun x => g x y) (a := (bxs g w k y).1) (n := w) fun x hx => h x y hx (by omega)
    obtain ⟨_, h2, _⟩ := lo (p := fun x => f x y) (q := fun x => g x y) (a := (bxs g w k y).2.2.1) (n := w) fun x hx => h x y hx (by omega)
    rw [h1, h2, h3]
end Go.Proofs.Ythkilkjngincpaa
