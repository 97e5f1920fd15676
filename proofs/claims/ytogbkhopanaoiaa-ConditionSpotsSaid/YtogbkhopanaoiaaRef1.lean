/- Merged: Lists Fst Num Ref1. -/
import Derived.Test.YtogbkhopanaoiaaLiteTP
import Derived.Test.YtogbkhopanaoiaaXConditionSpots0
import Derived.Test.YtogbkhopanaoiaaGo
namespace Go.Proofs.Ytogbkhopanaoiaa
open Go Go.Lite
set_option linter.unusedVariables false
set_option linter.unusedSimpArgs false
set_option maxRecDepth 100000
set_option maxHeartbeats 4000000

theorem getD_set_eq {α : Type} {l : List α} {i : Nat} {v d : α} (h : i < l.length) : (l.set i v).getD i d = v := by
  rw [List.getD_eq_getElem?_getD, List.getElem?_set_self h]; rfl
theorem getD_set_ne {α : Type} {l : List α} {i j : Nat} {v d : α} (h : i ≠ j) : (l.set i v).getD j d = l.getD j d := by
  rw [List.getD_eq_getElem?_getD, List.getElem?_set_ne h, ← List.getD_eq_getElem?_getD]
theorem ext_getD {α : Type} (d : α) {a b : List α} (hl : a.length = b.length) (h : ∀ i, i < a.length → a.getD i d = b.getD i d) : a = b :=
  List.ext_getElem hl fun j h1 h2 => by
    have := h j h1
    rwa [getD_get d h1, getD_get d h2] at this
theorem getD_mem {α : Type} {a : List α} {i : Nat} {d : α} (h : i < a.length) : a.getD i d ∈ a := by rw [getD_get d h]; exact List.getElem_mem h
theorem mem_getD {α : Type} {a : List α} {x d : α} (h : x ∈ a) : ∃ i, i < a.length ∧ a.getD i d = x := by
  obtain ⟨i, hi, rfl⟩ := List.getElem_of_mem h
  exact ⟨i, hi, getD_get d hi⟩
theorem getD_repl {α : Type} {n i : Nat} {v d : α} (h : i < n) : (List.replicate n v).getD i d = v := by
  rw [getD_get d (by simpa using h)]; simp
/-- The list of the first n values of f. -/
def tab {α : Type} (n : Nat) (f : Nat → α) : List α := (List.range n).map f
theorem tab_len {α : Type} {n : Nat} {f : Nat → α} : (tab n f).length = n := by simp [tab]
theorem tab_get {α : Type} {n i : Nat} {f : Nat → α} {d : α} (h : i < n) : (tab n f).getD i d = f i := by
  rw [List.getD_eq_getElem?_getD, tab, List.getElem?_map, List.getElem?_range h]; rfl
theorem is_tab {α : Type} {n : Nat} {f : Nat → α} (d : α) {l : List α} (h : l.length = n) (hf : ∀ i, i < n → l.getD i d = f i) : l = tab n f :=
  ext_getD d (by rw [h, tab_len]) fun i hi => by rw [hf i (by omega), tab_get (by omega)]

/-- The sum of f over the first n numbers. -/
def sumN (f : Nat → Int) : Nat → Int
  | 0 => 0
  | n + 1 => sumN f n + f n
theorem sumN_congr {f g : Nat → Int} : ∀ {n : Nat}, (∀ i, i < n → f i = g i) → sumN f n = sumN g n
  | 0, _ => rfl
  | n + 1, h => by simp only [sumN]; rw [sumN_congr fun i hi => h i (by omega), h n (by omega)]
theorem sumN_nonneg {f : Nat → Int} : ∀ {n : Nat}, (∀ i, i < n → 0 ≤ f i) → 0 ≤ sumN f n
  | 0, _ => Int.le_refl _
  | n + 1, h => by simp only [sumN]; have := sumN_nonneg (n := n) fun i hi => h i (by omega); have := h n (by omega); omega
theorem sumN_bd {f : Nat → Int} {k : Int} : ∀ {n : Nat}, (∀ i, i < n → 0 ≤ f i ∧ f i ≤ k) → 0 ≤ sumN f n ∧ sumN f n ≤ k * n
  | 0, _ => by simp [sumN]
  | n + 1, h => by
    have := sumN_bd (n := n) fun i hi => h i (by omega)
    have h1 := h n (by omega)
    simp only [sumN]
    have e : k * ((n + 1 : Nat) : Int) = k * n + k := by rw [Int.natCast_add, Int.mul_add]; simp
    omega
/-- One place of a sum. -/
theorem sumN_one {f : Nat → Int} {b : Nat} : ∀ {n : Nat}, b < n → sumN f n = sumN (fun i => if i = b then 0 else f i) n + f b := by
  intro n
  induction n with
  | zero => intro h; omega
  | succ n ih =>
    intro h
    simp only [sumN]
    by_cases e : b = n
    · subst e
      rw [if_pos rfl, sumN_congr (g := f) (f := fun i => if i = b then 0 else f i) fun i hi => if_neg (by omega)]
      omega
    · rw [ih (by omega), if_neg (by omega)]; omega
/-- The first k of n values of f; zeros behind them. -/
def ptab (n k : Nat) (f : Nat → Int) : List Int := tab n fun i => if i < k then f i else 0
theorem ptab_len {n k : Nat} {f : Nat → Int} : (ptab n k f).length = n := tab_len
theorem ptab_set {n k : Nat} {f : Nat → Int} : (ptab n k f).set k (f k) = ptab n (k + 1) f := by
  refine List.ext_getElem (by simp [ptab, tab]) fun j h1 h2 => ?_
  rw [List.getElem_set]
  simp only [ptab, tab, List.getElem_map, List.getElem_range]
  by_cases e : k = j
  · subst e; rw [if_pos rfl, if_pos (by omega)]
  · rw [if_neg e]
    by_cases h : j < k
    · rw [if_pos h, if_pos (by omega)]
    · rw [if_neg h, if_neg (by omega)]
end Go.Proofs.Ytogbkhopanaoiaa
namespace Go.Proofs.Ytogbkhopanaoiaa
open Go Go.Lite
set_option linter.unusedVariables false
set_option linter.unusedSimpArgs false
set_option maxRecDepth 100000
set_option maxHeartbeats 4000000

def fstE (f : Nat → Int) : Nat → Int
  | 0 => 0
  | n + 1 => if fstE f n ≠ 0 then fstE f n else f n
theorem fstE_zero {f : Nat → Int} : ∀ {n : Nat}, fstE f n = 0 ↔ ∀ j, j < n → f j = 0
  | 0 => ⟨fun _ j hj => by omega, fun _ => rfl⟩
  | n + 1 => by
    simp only [fstE]
    by_cases h : fstE f n = 0
    · rw [if_neg (by simpa using h)]
      constructor
      · intro h2 j hj
        rcases Nat.lt_or_ge j n with h3 | h3
        · exact fstE_zero.1 h j h3
        · obtain rfl : j = n := by omega
          exact h2
      · intro h2; exact h2 n (by omega)
    · rw [if_pos h]
      constructor
      · intro h2; exact absurd h2 h
      · intro h2; exact fstE_zero.2 fun j hj => h2 j (by omega)
theorem fstE_at {f : Nat → Int} {i : Nat} (h0 : ∀ j, j < i → f j = 0) (h1 : f i ≠ 0) : ∀ {n : Nat}, i < n → fstE f n = f i
  | 0, h => by omega
  | n + 1, h => by
    simp only [fstE]
    rcases Nat.lt_or_ge i n with h3 | h3
    · rw [fstE_at h0 h1 h3, if_pos h1]
    · obtain rfl : i = n := by omega
      rw [if_neg (by simpa using fstE_zero.2 h0)]
end Go.Proofs.Ytogbkhopanaoiaa
namespace Go.Proofs.Ytogbkhopanaoiaa
open Go Go.Lite
set_option linter.unusedVariables false
set_option linter.unusedSimpArgs false
set_option maxRecDepth 100000
set_option maxHeartbeats 4000000

/-- The greatest number up to n with a property, or 0. -/
def most (p : Nat → Bool) : Nat → Nat
  | 0 => 0
  | k + 1 => if p (k + 1) then k + 1 else most p k
/-- The root of n, rounded down. -/
def rt (n : Int) : Int := (most (fun r => decide ((r : Int) * r ≤ n)) 1048575 : Nat)
end Go.Proofs.Ytogbkhopanaoiaa
namespace Go.Proofs.Ytogbkhopanaoiaa
open Go Go.Lite
set_option linter.unusedVariables false
set_option linter.unusedSimpArgs false
set_option maxRecDepth 100000
set_option maxHeartbeats 4000000
-- @simp rdi

def labOk (l a b : Int) : Prop := 0 ≤ l ∧ l ≤ 10000 ∧ -12800 ≤ a ∧ a ≤ 12800 ∧ -12800 ≤ b ∧ b ≤ 12800
instance (l a b : Int) : Decidable (labOk l a b) := by unfold labOk; infer_instance
def labE (l a b : Int) : Int := if labOk l a b then 0 else 3
theorem refCheck_c (l a b : Int) : TC R Try.prog refspace_Check_f [.agg [.int .i64 l, .int .i64 a, .int .i64 b]] [] (fun v X => v = .int .i64 (labE l a b) ∧ X = []) := by
  refine tc0 env refspace_Check_s (by rfl) ?_
  dsimp only [refspace_Check_c]
  repeat' (first
    | refine GZ_i ?_ ?_ ?_ ?_ ?_ ?_ ?_ ?_
    | with_reducible first | exact BzZq.mk | refine Tw.ret ?_ | refine ImZq.i fun h => ?_ | refine IkZq.i fun hk => ?_)
  · exact ⟨rfl, by rw [labE, if_neg (by unfold labOk; omega)], rfl⟩
  · exact ⟨rfl, by rw [labE, if_pos (by unfold labOk; omega)], rfl⟩

end Go.Proofs.Ytogbkhopanaoiaa
