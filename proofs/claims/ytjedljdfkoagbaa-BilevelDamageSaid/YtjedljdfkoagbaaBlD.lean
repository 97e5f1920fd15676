/- Compressed bitmaps: whatever the bytes are, they decode to some rows (plain). -/
import Derived.Test.YtjedljdfkoagbaaBl5
namespace Go.Proofs.Ytjedljdfkoagbaa
open Go Go.Lite
set_option linter.unusedVariables false
set_option linter.unusedSimpArgs false
set_option maxRecDepth 100000
set_option maxHeartbeats 4000000

theorem dRun_congr {N : Nat} {q : List Int} {a b : Nat → Nat} : ∀ {k : Nat}, (∀ j, j < k → a j = b j) → dRun N q a k = dRun N q b k
  | 0, _ => rfl
  | k + 1, h => by
    show dstep q (dRun N q a k) (a k) = dstep q (dRun N q b k) (b k)
    rw [dRun_congr fun j hj => h j (by omega), h k (by omega)]
/-- The bits of L are those that the decoder finds. -/
def Good (N : Nat) (q : List Int) (L : List (Nat × Nat)) : Prop := ∀ j, j < L.length → dbit (dRun N q (ctx L) j) (ctx L j) = bitA L j
theorem ctx_app1 {L M : List (Nat × Nat)} {j : Nat} (h : j < L.length) : ctx (L ++ M) j = ctx L j := by unfold ctx; rw [getD_app1 h]
theorem bitA_app1 {L M : List (Nat × Nat)} {j : Nat} (h : j < L.length) : bitA (L ++ M) j = bitA L j := by unfold bitA; rw [getD_app1 h]
theorem snoc_at {L : List (Nat × Nat)} {c t : Nat} : ctx (L ++ [(c, t)]) L.length = c ∧ bitA (L ++ [(c, t)]) L.length = t := by
  have e2 : (L ++ [(c, t)]).getD L.length (0, 0) = (c, t) := by rw [getD_app2 (Nat.le_refl _), Nat.sub_self]; rfl
  unfold ctx bitA
  rw [e2]
  exact ⟨rfl, rfl⟩
theorem good_snoc {N : Nat} {q : List Int} {L : List (Nat × Nat)} {c t : Nat} (h : Good N q L) (ht : dbit (dRun N q (ctx L) L.length) c = t) : Good N q (L ++ [(c, t)]) := by
  intro j hj
  rw [List.length_append, List.length_singleton] at hj
  have e : dRun N q (ctx (L ++ [(c, t)])) j = dRun N q (ctx L) j := dRun_congr fun i hi => ctx_app1 (by omega)
  rcases Nat.lt_or_ge j L.length with h1 | h1
  · rw [e, ctx_app1 h1, bitA_app1 h1]
    exact h j h1
  · obtain rfl : j = L.length := by omega
    rw [e, snoc_at.1, snoc_at.2]
    exact ht
theorem tab_congr2 {α : Type} {n : Nat} {f g : Nat → α} (h : ∀ i, i < n → f i = g i) : tab n f = tab n g := by
  unfold tab
  exact List.map_congr_left fun i hi => h i (by simpa using hi)
theorem rowE_congr {w k : Nat} {f g : Nat → Nat → Bool} {sm sn : Nat → Bool} {y : Nat} (h1 : ∀ x v, x < w → v < y + 1 → f x v = g x v) (h2 : sm y = sn y) : rowE w k f sm y = rowE w k g sn y := by
  have e : (tab w fun x => (win w k f x y, (f x y).toNat)) = tab w fun x => (win w k g x y, (g x y).toNat) := tab_congr2 fun x hx => by
    rw [h1 x y hx (by omega), win_congr (f := f) (g := g) fun i j hi hj e => h1 i j hi (by omega)]
  unfold rowE
  rw [h2, e]
theorem evs_congr {w k : Nat} {f g : Nat → Nat → Bool} {sm sn : Nat → Bool} : ∀ {y : Nat}, (∀ x v, x < w → v < y → f x v = g x v) → (∀ v, v < y → sm v = sn v) → evs w k f sm y = evs w k g sn y
  | 0, _, _ => rfl
  | y + 1, h1, h2 => by
    simp only [evs]
    rw [evs_congr (y := y) (fun x v hx hv => h1 x v hx (by omega)) fun v hv => h2 v (by omega), rowE_congr h1 (h2 y (by omega))]
theorem dec_ex (N w k : Nat) (q : List Int) : ∀ y : Nat, ∃ (f : Nat → Nat → Bool) (sm : Nat → Bool), (∀ v, v < y → sm v = true → ∀ x, x < w → f x v = abv f v x) ∧ Good N q (evs w k f sm y)
  | 0 => ⟨fun _ _ => false, fun _ => false, fun v hv => by omega, fun j hj => by simp [evs] at hj⟩
  | y + 1 => by
    obtain ⟨f, sm, h1, h2⟩ := dec_ex N w k q y
    obtain ⟨L, hL⟩ : ∃ L, L = evs w k f sm y := ⟨_, rfl⟩
    rw [← hL] at h2
    have b1 : dbit (dRun N q (ctx L) L.length) 2048 ≤ 1 := gB_le
    by_cases hb : dbit (dRun N q (ctx L) L.length) 2048 = 1
    · refine ⟨fun x v => if v = y then abv f y x else f x v, fun v => if v = y then true else sm v, fun v hv hs x hx => ?_, ?_⟩
      · have ea : abv (fun x v => if v = y then abv f y x else f x v) v x = abv f v x := by
          unfold abv
          split
          · rfl
          · simp only
            rw [if_neg (show v - 1 ≠ y by omega)]
        rw [ea]
        by_cases e : v = y
        · subst e; simp only [if_pos]
        · simp only [if_neg e] at hs ⊢
          exact h1 v (by omega) hs x hx
      · have e : evs w k (fun x v => if v = y then abv f y x else f x v) (fun v => if v = y then true else sm v) y = L := by
          rw [hL]
          refine evs_congr (fun x v hx hv => ?_) fun v hv => ?_
          · show (if v = y then abv f y x else f x v) = f x v
            rw [if_neg (by omega)]
          · show (if v = y then true else sm v) = sm v
            rw [if_neg (by omega)]
        simp only [evs]
        rw [e]
        unfold rowE
        simp only [if_pos]
        exact good_snoc h2 hb
    · have b0 : dbit (dRun N q (ctx L) L.length) 2048 = 0 := by omega
      have row : ∀ x : Nat, x ≤ w → ∃ g : Nat → Nat → Bool, (∀ i v, v < y → g i v = f i v) ∧ Good N q (L ++ [(2048, 0)] ++ tab x fun i => (win w k g i y, (g i y).toNat)) := by
        intro x
        induction x with
        | zero => exact fun _ => ⟨f, fun _ _ _ => rfl, by simpa [tab] using good_snoc h2 b0⟩
        | succ x ih =>
          intro hx
          obtain ⟨g, g1, g2⟩ := ih (by omega)
          obtain ⟨M, hM⟩ : ∃ M, M = L ++ [(2048, 0)] ++ tab x fun i => (win w k g i y, (g i y).toNat) := ⟨_, rfl⟩
          rw [← hM] at g2
          obtain ⟨t, ht⟩ : ∃ t, t = dbit (dRun N q (ctx M) M.length) (win w k g x y) := ⟨_, rfl⟩
          have t1 : t ≤ 1 := by rw [ht]; exact gB_le
          refine ⟨fun i v => if i = x ∧ v = y then decide (t = 1) else g i v, fun i v hv => ?_, ?_⟩
          · simp only
            rw [if_neg (by omega)]; exact g1 i v hv
          · have ew : ∀ i, i ≤ x → win w k (fun i v => if i = x ∧ v = y then decide (t = 1) else g i v) i y = win w k g i y := fun i hi => win_congr fun a b _ _ h => if_neg (by omega)
            obtain ⟨G, hG⟩ : ∃ G : Nat → Nat → Bool, G = fun i v => if i = x ∧ v = y then decide (t = 1) else g i v := ⟨_, rfl⟩
            rw [← hG] at ew ⊢
            have Gn : ∀ i, i < x → G i y = g i y := fun i hi => by
              rw [hG]; exact if_neg (by omega)
            have Gx : G x y = decide (t = 1) := by
              rw [hG]; exact if_pos ⟨rfl, rfl⟩
            have et : (tab x fun i => (win w k G i y, (G i y).toNat)) = tab x fun i => (win w k g i y, (g i y).toNat) := tab_congr2 fun i hi => by
              rw [ew i (by omega), Gn i hi]
            rw [tab_succ, et, ew x (Nat.le_refl _), Gx, ← List.append_assoc, ← hM]
            refine good_snoc g2 ?_
            rw [← ht]
            rcases (show t = 0 ∨ t = 1 by omega) with e | e <;> rw [e] <;> rfl
      obtain ⟨g, g1, g2⟩ := row w (Nat.le_refl _)
      refine ⟨g, fun v => if v = y then false else sm v, fun v hv hs x hx => ?_, ?_⟩
      · by_cases e : v = y
        · subst e; simp at hs
        · simp only [if_neg e] at hs
          rw [g1 x v (by omega), h1 v (by omega) hs x hx]
          unfold abv
          split
          · rfl
          · rw [g1 x (v - 1) (by omega)]
      · have e : evs w k g (fun v => if v = y then false else sm v) y = L := by
          rw [hL]
          exact evs_congr (fun x v hx hv => g1 x v hv) fun v hv => by simp only [if_neg (show v ≠ y by omega)]
        simp only [evs]
        rw [e]
        have er : rowE w k g (fun v => if v = y then false else sm v) y = [(2048, 0)] ++ tab w fun i => (win w k g i y, (g i y).toNat) := by
          unfold rowE
          simp
        rw [er, ← List.append_assoc]
        exact g2
end Go.Proofs.Ytjedljdfkoagbaa
