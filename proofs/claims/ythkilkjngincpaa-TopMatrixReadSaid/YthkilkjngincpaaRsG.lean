/- Places drawn one after another: lost ones, then wrong ones. -/
import Derived.Test.YthkilkjngincpaaRs9
namespace Go.Proofs.Ythkilkjngincpaa
open Go Go.Lite
set_option linter.unusedVariables false
set_option linter.unusedSimpArgs false
set_option maxRecDepth 100000
set_option maxHeartbeats 4000000

theorem cntB_congr {p q : Nat → Bool} {n : Nat} (h : ∀ j, j < n → p j = q j) : cntB p n = cntB q n := by
  induction n with
  | zero => rfl
  | succ n ih => rw [cntB_succ, cntB_succ, ih fun j hj => h j (by omega), h n (by omega)]
theorem cntB_mono {p q : Nat → Bool} {n : Nat} (h : ∀ j, j < n → p j = true → q j = true) : cntB p n ≤ cntB q n := by
  induction n with
  | zero => exact Nat.le_refl _
  | succ n ih =>
    have ih := ih fun j hj => h j (by omega)
    rw [cntB_succ, cntB_succ]
    cases hp : p n with
    | false => rw [if_neg (by simp)]; split <;> omega
    | true => rw [if_pos rfl, if_pos (h n (by omega) hp)]; omega
theorem cntB_one {p q : Nat → Bool} {n a : Nat} (ha : a < n) (hp : p a = false) (hq : q a = true) (h : ∀ j, j ≠ a → q j = p j) : cntB q n = cntB p n + 1 := by
  induction n with
  | zero => omega
  | succ n ih =>
    rw [cntB_succ, cntB_succ]
    by_cases e : n = a
    · subst e
      rw [hp, hq, if_pos rfl, if_neg (by simp), cntB_congr (p := q) (q := p) fun j hj => h j (by omega)]
    · rw [ih (by omega), h n e]; omega
/-- What has been drawn: rho lost places, k others. -/
structure Drw (N lim err rho k : Nat) (pl : Nat → Nat) (used : Nat → Bool) (w wr : Nat → BitVec 8) : Prop where
  r1 : rho ≤ lim
  p1 : ∀ i, i < rho → pl i < N
  p2 : ∀ i j, i < rho → j < rho → pl i = pl j → i = j
  u1 : ∀ i, i < rho → used (pl i) = true
  c1 : cntB (fun j => used j && !erK pl rho j) N = k
  k1 : k ≤ err
  w1 : ∀ j, j < N → wr j ≠ w j → used j = true
theorem Drw.zero (N lim err : Nat) (w : Nat → BitVec 8) : Drw N lim err 0 0 (fun _ => 0) (fun _ => false) w w :=
  ⟨Nat.zero_le _, fun _ h => by omega, fun _ _ h => by omega, fun _ h => by omega, by
    unfold cntB
    rw [List.length_eq_zero_iff, List.filter_eq_nil_iff]
    intro j _; simp, Nat.zero_le _, fun _ _ h => absurd rfl h⟩
def upd {α : Type} (f : Nat → α) (a : Nat) (v : α) (j : Nat) : α := if j = a then v else f j
theorem Drw.bad {N lim err rho k a : Nat} {pl : Nat → Nat} {used : Nat → Bool} {w wr : Nat → BitVec 8} (h : Drw N lim err rho k pl used w wr) (hk : k < err) (ha : a < N) (hu : used a = false) (v : BitVec 8) :
    Drw N lim err rho (k + 1) pl (upd used a true) w (upd wr a v) := by
  obtain ⟨r1, p1, p2, u1, c1, k1, w1⟩ := h
  have na : ∀ i, i < rho → pl i ≠ a := fun i hi e => by have := u1 i hi; rw [e, hu] at this; cases this
  have ea : erK pl rho a = false := by
    cases he : erK pl rho a with
    | false => rfl
    | true => obtain ⟨i, hi, e⟩ := erK_mem.1 he; exact absurd e (na i hi)
  refine ⟨r1, p1, p2, fun i hi => ?_, ?_, by omega, fun j hj hw => ?_⟩
  · unfold upd; rw [if_neg (na i hi)]; exact u1 i hi
  · rw [← c1]
    refine cntB_one ha (by rw [hu]; rfl) (by unfold upd; rw [if_pos rfl, ea]; rfl) fun j hj => ?_
    unfold upd; rw [if_neg hj]
  · unfold upd at hw ⊢
    by_cases e : j = a
    · rw [if_pos e]
    · rw [if_neg e] at hw ⊢; exact w1 j hj hw
end Go.Proofs.Ythkilkjngincpaa
