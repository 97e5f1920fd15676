/- The camera and matrix codes, in plain words: the rectangle; samples of other sizes are worse. -/
import Derived.Test.YthkilkjngincpaaTmr5
namespace Go.Proofs.Ythkilkjngincpaa
open Go Go.Lite
set_option linter.unusedVariables false
set_option linter.unusedSimpArgs false
set_option maxRecDepth 100000
set_option maxHeartbeats 4000000

theorem rlo_is (p : Nat → Bool) (a : Nat) : ∀ x, (∀ j, j < x → p j = true → rlo p a x ≤ j) ∧ (rlo p a x = a ∨ ∃ j, j < x ∧ p j = true ∧ rlo p a x = j)
  | 0 => ⟨fun j h => by omega, .inl rfl⟩
  | x + 1 => by
    obtain ⟨h1, h2⟩ := rlo_is p a x
    simp only [rlo]
    cases hp : p x with
    | false =>
      rw [if_neg (by simp)]
      refine ⟨fun j hj hpj => ?_, ?_⟩
      · by_cases e : j = x
        · rw [e, hp] at hpj; cases hpj
        · exact h1 j (by omega) hpj
      · rcases h2 with h2 | ⟨j, h3, h4, h5⟩
        · exact .inl h2
        · exact .inr ⟨j, by omega, h4, h5⟩
    | true =>
      rw [if_pos rfl]
      refine ⟨fun j hj hpj => ?_, ?_⟩
      · by_cases e : j = x
        · omega
        · have := h1 j (by omega) hpj; omega
      · by_cases e : rlo p a x ≤ x
        · rcases h2 with h2 | ⟨j, h3, h4, h5⟩
          · exact .inl (by omega)
          · exact .inr ⟨j, by omega, h4, by omega⟩
        · exact .inr ⟨x, by omega, hp, by omega⟩
theorem rhi_is (p : Nat → Bool) (c : Nat) : ∀ x, c ≤ rhi p c x ∧ (∀ j, j < x → p j = true → j < rhi p c x) ∧ (rhi p c x = c ∨ ∃ j, j < x ∧ p j = true ∧ rhi p c x = j + 1)
  | 0 => ⟨Nat.le_refl _, fun j h => by omega, .inl rfl⟩
  | x + 1 => by
    obtain ⟨h0, h1, h2⟩ := rhi_is p c x
    simp only [rhi]
    cases hp : p x with
    | false =>
      rw [if_neg (by simp)]
      refine ⟨h0, fun j hj hpj => ?_, ?_⟩
      · by_cases e : j = x
        · rw [e, hp] at hpj; cases hpj
        · exact h1 j (by omega) hpj
      · rcases h2 with h2 | ⟨j, h3, h4, h5⟩
        · exact .inl h2
        · exact .inr ⟨j, by omega, h4, h5⟩
    | true =>
      rw [if_pos rfl]
      refine ⟨by omega, fun j hj hpj => ?_, ?_⟩
      · by_cases e : j = x
        · omega
        · have := h1 j (by omega) hpj; omega
      · by_cases e : x + 1 ≤ rhi p c x
        · rcases h2 with h2 | ⟨j, h3, h4, h5⟩
          · exact .inl (by omega)
          · exact .inr ⟨j, by omega, h4, by omega⟩
        · exact .inr ⟨x, by omega, hp, by omega⟩
theorem rany_is (p : Nat → Bool) : ∀ x, rany p x = true ↔ ∃ j, j < x ∧ p j = true
  | 0 => by simp [rany]
  | x + 1 => by
    simp only [rany, Bool.or_eq_true]
    rw [rany_is p x]
    constructor
    · rintro (⟨j, h1, h2⟩ | h)
      · exact ⟨j, by omega, h2⟩
      · exact ⟨x, by omega, h⟩
    · rintro ⟨j, h1, h2⟩
      by_cases e : j = x
      · rw [← e]; exact .inr h2
      · exact .inl ⟨j, by omega, h2⟩
/-- The rectangle, by its sides. -/
theorem bxs_is {f : Nat → Nat → Bool} {w k a b a2 b2 : Nat} (hin : ∀ x y, x < w → y < k → f x y = true → a ≤ x ∧ x < a2 ∧ b ≤ y ∧ y < b2)
    (hl : ∃ y, y < k ∧ f a y = true) (hr : ∃ y, y < k ∧ f (a2 - 1) y = true) (ht : ∃ x, x < w ∧ f x b = true) (hbt : ∃ x, x < w ∧ f x (b2 - 1) = true) (h1 : a < a2 ∧ a2 ≤ w) (h2 : b < b2 ∧ b2 ≤ k) : bxs f w k k = (a, b, a2, b2) := by
  have key : ∀ y, y ≤ k → (∀ x y', x < w → y' < y → f x y' = true → (bxs f w k y).1 ≤ x ∧ (bxs f w k y).2.1 ≤ y' ∧ x < (bxs f w k y).2.2.1 ∧ y' < (bxs f w k y).2.2.2) ∧
      ((bxs f w k y).1 = w ∨ ∃ x y', x < w ∧ y' < y ∧ f x y' = true ∧ (bxs f w k y).1 = x) ∧ ((bxs f w k y).2.1 = k ∨ ∃ x y', x < w ∧ y' < y ∧ f x y' = true ∧ (bxs f w k y).2.1 = y') ∧
      ((bxs f w k y).2.2.1 = 0 ∨ ∃ x y', x < w ∧ y' < y ∧ f x y' = true ∧ (bxs f w k y).2.2.1 = x + 1) ∧ ((bxs f w k y).2.2.2 = 0 ∨ ∃ x y', x < w ∧ y' < y ∧ f x y' = true ∧ (bxs f w k y).2.2.2 = y' + 1) := by
    intro y
    induction y with
    | zero => intro _; exact ⟨fun x y' _ h => by omega, .inl rfl, .inl rfl, .inl rfl, .inl rfl⟩
    | succ y ih =>
      intro hy
      obtain ⟨g1, g2, g3, g4, g5⟩ := ih (by omega)
      have bd := bxs_bd f w k y
      obtain ⟨l1, l2⟩ := rlo_is (fun x => f x y) (bxs f w k y).1 w
      have l3 := rlo_bd (fun x => f x y) (bxs f w k y).1 w
      obtain ⟨r0, r1, r2⟩ := rhi_is (fun x => f x y) (bxs f w k y).2.2.1 w
      have an := rany_is (fun x => f x y) w
      simp only [bxs]
      refine ⟨fun x y' hx hy' hf => ?_, ?_, ?_, ?_, ?_⟩
      · by_cases e : y' = y
        · subst e
          have ha : rany (fun x => f x y') w = true := an.2 ⟨x, hx, hf⟩
          rw [if_pos ha, if_pos ha]
          exact ⟨l1 x hx hf, by omega, r1 x hx hf, by omega⟩
        · obtain ⟨q1, q2, q3, q4⟩ := g1 x y' hx (by omega) hf
          refine ⟨by omega, ?_, by omega, ?_⟩
          · split <;> omega
          · split <;> omega
      · rcases l2 with l2 | ⟨j, j1, j2, j3⟩
        · rcases g2 with g2 | ⟨x, y', q1, q2, q3, q4⟩
          · exact .inl (by omega)
          · exact .inr ⟨x, y', q1, by omega, q3, by omega⟩
        · exact .inr ⟨j, y, j1, by omega, j2, j3⟩
      · cases ha : rany (fun x => f x y) w with
        | false =>
          rw [if_neg (by simp)]
          rcases g3 with g3 | ⟨x, y', q1, q2, q3, q4⟩
          · exact .inl g3
          · exact .inr ⟨x, y', q1, by omega, q3, q4⟩
        | true =>
          rw [if_pos rfl]
          obtain ⟨j, j1, j2⟩ := an.1 ha
          by_cases e : (bxs f w k y).2.1 ≤ y
          · rcases g3 with g3 | ⟨x, y', q1, q2, q3, q4⟩
            · omega
            · exact .inr ⟨x, y', q1, by omega, q3, by omega⟩
          · exact .inr ⟨j, y, j1, by omega, j2, by omega⟩
      · rcases r2 with r2 | ⟨j, j1, j2, j3⟩
        · rcases g4 with g4 | ⟨x, y', q1, q2, q3, q4⟩
          · exact .inl (by omega)
          · exact .inr ⟨x, y', q1, by omega, q3, by omega⟩
        · exact .inr ⟨j, y, j1, by omega, j2, j3⟩
      · cases ha : rany (fun x => f x y) w with
        | false =>
          rw [if_neg (by simp)]
          rcases g5 with g5 | ⟨x, y', q1, q2, q3, q4⟩
          · exact .inl g5
          · exact .inr ⟨x, y', q1, by omega, q3, q4⟩
        | true =>
          rw [if_pos rfl]
          obtain ⟨j, j1, j2⟩ := an.1 ha
          exact .inr ⟨j, y, j1, by omega, j2, rfl⟩
  obtain ⟨g1, g2, g3, g4, g5⟩ := key k (Nat.le_refl _)
  have bd := bxs_bd f w k k
  obtain ⟨yl, yl1, yl2⟩ := hl
  obtain ⟨yr, yr1, yr2⟩ := hr
  obtain ⟨xt, xt1, xt2⟩ := ht
  obtain ⟨xb, xb1, xb2⟩ := hbt
  have p1 := g1 a yl (by omega) yl1 yl2
  have p2 := g1 (a2 - 1) yr (by omega) yr1 yr2
  have p3 := g1 xt b xt1 (by omega) xt2
  have p4 := g1 xb (b2 - 1) xb1 (by omega) xb2
  generalize bxs f w k k = q at *
  obtain ⟨q1, q2, q3, q4⟩ := q
  dsimp only at *
  have e1 : q1 = a := by
    rcases g2 with g2 | ⟨x, y', u1, u2, u3, u4⟩
    · omega
    · have := hin x y' u1 u2 u3; omega
  have e2 : q2 = b := by
    rcases g3 with g3 | ⟨x, y', u1, u2, u3, u4⟩
    · omega
    · have := hin x y' u1 u2 u3; omega
  have e3 : q3 = a2 := by
    rcases g4 with g4 | ⟨x, y', u1, u2, u3, u4⟩
    · omega
    · have := hin x y' u1 u2 u3; omega
  have e4 : q4 = b2 := by
    rcases g5 with g5 | ⟨x, y', u1, u2, u3, u4⟩
    · omega
    · have := hin x y' u1 u2 u3; omega
  rw [e1, e2, e3, e4]
/-- Each row and each column has a dark module. -/
structure Full (s : Nat) (f : Nat → Nat → Bool) : Prop where
  row : ∀ y, y < s → ∃ x, x < s ∧ f x y = true
  col : ∀ x, x < s → ∃ y, y < s ∧ f x y = true
theorem Full.rot {s : Nat} {f : Nat → Nat → Bool} (h : Full s f) : ∀ n, Full s (rotN s f n)
  | 0 => h
  | n + 1 => by
    have ih := h.rot n
    refine ⟨fun y hy => ?_, fun x hx => ?_⟩
    · obtain ⟨z, hz, hf⟩ := ih.col y hy
      refine ⟨s - 1 - z, by omega, ?_⟩
      show rotN s f n y (s - 1 - (s - 1 - z)) = true
      rw [show s - 1 - (s - 1 - z) = z by omega]; exact hf
    · obtain ⟨z, hz, hf⟩ := ih.row (s - 1 - x) (by omega)
      exact ⟨z, hz, hf⟩
theorem border_full {s : Nat} {f : Nat → Nat → Bool} (hs : 8 ≤ s) (h : ∀ x y, x < s → y < s → mBord s x y = true → f x y = mDark s x y) : Full s f := by
  have d0 : ∀ y, y < s → f 0 y = true := fun y hy => by
    rw [h 0 y (by omega) hy (by unfold mBord; simp)]
    unfold mDark; rw [if_pos (.inl rfl)]
  have d1 : ∀ x, x < s → f x (s - 1) = true := fun x hx => by
    rw [h x (s - 1) hx (by omega) (by unfold mBord; simp)]
    unfold mDark; rw [if_pos (.inr rfl)]
  exact ⟨fun y hy => ⟨0, by omega, d0 y hy⟩, fun x hx => ⟨s - 1, by omega, d1 x hx⟩⟩
/-- The rectangle of the magnified code. -/
theorem bxs_j {n s X Y w : Nat} {f : Nat → Nat → Bool} (hs : 1 ≤ s) (hn : 1 ≤ n) (hX : X ≤ 32) (hY : Y ≤ 32) (hw : w = n * s + 32) (hf : Full n f) : bxs (cJ n s X Y f) w w w = (X, Y, X + n * s, Y + n * s) := by
  have mul1 : ∀ a, a < n → a * s + s ≤ n * s := fun a ha => by have : (a + 1) * s ≤ n * s := Nat.mul_le_mul_right _ ha; rw [Nat.add_mul, Nat.one_mul] at this; exact this
  have at1 : ∀ a b u v, a < n → b < n → u < s → v < s → f a b = true → cJ n s X Y f (X + (a * s + u)) (Y + (b * s + v)) = true := fun a b u v ha hb hu hv h => by
    unfold cJ
    rw [show X + (a * s + u) - X = a * s + u by omega, show Y + (b * s + v) - Y = b * s + v by omega, Nat.mul_comm a, Nat.mul_comm b, Nat.mul_add_div (by omega), Nat.mul_add_div (by omega), Nat.div_eq_of_lt hu, Nat.div_eq_of_lt hv, Nat.add_zero, Nat.add_zero, decide_eq_true (show X ≤ X + (s * a + u) by omega), decide_eq_true (show Y ≤ Y + (s * b + v) by omega), decide_eq_true ha, decide_eq_true hb, h]; rfl
  have ns : s ≤ n * s := by have := mul1 0 (by omega); omega
  refine bxs_is (fun x y hx hy h => ?_) ?_ ?_ ?_ ?_ (by omega) (by omega)
  · unfold cJ at h
    simp only [Bool.and_eq_true, decide_eq_true_eq] at h
    obtain ⟨⟨h1, h2⟩, ⟨h3, h4⟩, _⟩ := h
    have q1 := (Nat.div_lt_iff_lt_mul (by omega)).1 h3
    have q2 := (Nat.div_lt_iff_lt_mul (by omega)).1 h4
    omega
  · obtain ⟨b, hb, h⟩ := hf.col 0 (by omega)
    have := at1 0 b 0 0 (by omega) hb (by omega) (by omega) h
    have m := mul1 b hb
    exact ⟨Y + (b * s + 0), by omega, by rw [← this]; congr 1; omega⟩
  · obtain ⟨b, hb, h⟩ := hf.col (n - 1) (by omega)
    have := at1 (n - 1) b (s - 1) 0 (by omega) hb (by omega) (by omega) h
    have m := mul1 b hb
    have m2 := mul1 (n - 1) (by omega)
    have m3 : (n - 1) * s + s = n * s := by rw [Nat.sub_mul, Nat.one_mul]; omega
    exact ⟨Y + (b * s + 0), by omega, by rw [← this]; congr 1; omega⟩
  · obtain ⟨a, ha, h⟩ := hf.row 0 (by omega)
    have := at1 a 0 0 0 ha (by omega) (by omega) (by omega) h
    have m := mul1 a ha
    exact ⟨X + (a * s + 0), by omega, by rw [← this]; congr 1; omega⟩
  · obtain ⟨a, ha, h⟩ := hf.row (n - 1) (by omega)
    have := at1 a (n - 1) 0 (s - 1) ha (by omega) (by omega) (by omega) h
    have m := mul1 a ha
    have m3 : (n - 1) * s + s = n * s := by rw [Nat.sub_mul, Nat.one_mul]; omega
    exact ⟨X + (a * s + 0), by omega, by rw [← this]; congr 1; omega⟩
end Go.Proofs.Ythkilkjngincpaa
