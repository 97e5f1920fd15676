/- Lists by their places; sums. -/
import Derived.Test.YtcehapmkhlmgdaaLiteTP
namespace Go.Proofs.Ytcehapmkhlmgdaa
open Go Go.Lite
set_option linter.unusedVariables false
set_option linter.unusedSimpArgs false
set_option maxRecDepth 100000
set_option maxHeartbeats 4000000

theorem getD_set_eq {α : Type} {l : List α} {i : Nat} {v d : α} (h : i < l.length) : (l.set i v).getD i d = v := by
  rw [List.getD_eq_getElem?_getD, List.getElem?_set_self h]; rfl
theorem getD_set_ne {α : Type} {l : List α} {i j : Nat} {v d : α} (h : i ≠ j) : (l.set i v).getD j d = l.getD j d := by
  rw [List.getD_eq_getElem?_getD, List.getElem?_set_ne h, ← List.getD_eq_getElem?_getD]
theorem ext_getD {α : Type} (d : α) {a b : List α} (hl : a.length = b.length) (h : ∀ i, i < a.length → a.getD i d = b.getD i d) : a = b :=
  List.ext_getElem hl fun j h1 h2 => by
    have := h j h1
    rwa [getD_get d h1, getD_get d h2] at this
theorem getD_mem {α : Type} {a : List α} {i : Nat} {d : α} (h : i < a.length) : a.getD i d ∈ a := by rw [getD_get d h]; exact List.getElem_mem h
theorem getD_repl {α : Type} {n i : Nat} {v d : α} (h : i < n) : (List.replicate n v).getD i d = v := by
  rw [getD_get d (by simpa using h)]; simp
/-- The list of the first n values of f. -/
def tab {α : Type} (n : Nat) (f : Nat → α) : List α := (List.range n).map f
theorem tab_len {α : Type} {n : Nat} {f : Nat → α} : (tab n f).length = n := by simp [tab]
theorem tab_get {α : Type} {n i : Nat} {f : Nat → α} {d : α} (h : i < n) : (tab n f).getD i d = f i := by
  rw [List.getD_eq_getElem?_getD, tab, List.getElem?_map, List.getElem?_range h]; rfl
theorem is_tab {α : Type} {n : Nat} {f : Nat → α} (d : α) {l : List α} (h : l.length = n) (hf : ∀ i, i < n → l.getD i d = f i) : l = tab n f :=
  ext_getD d (by rw [h, tab_len]) fun i hi => by rw [hf i (by omega), tab_get (by omega)]

theorem tab_succ {α : Type} {n : Nat} {f : Nat → α} : tab (n + 1) f = tab n f ++ [f n] := by simp [tab, List.range_succ]
/-- The sum of f over the first n numbers. -/
def sumN (f : Nat → Int) : Nat → Int
  | 0 => 0
  | n + 1 => sumN f n + f n
theorem sumN_congr {f g : Nat → Int} : ∀ {n : Nat}, (∀ i, i < n → f i = g i) → sumN f n = sumN g n
  | 0, _ => rfl
  | n + 1, h => by simp only [sumN]; rw [sumN_congr fun i hi => h i (by omega), h n (by omega)]
theorem sumN_add {f : Nat → Int} {m : Nat} : ∀ {n : Nat}, sumN f (m + n) = sumN f m + sumN (fun i => f (m + i)) n
  | 0 => by simp [sumN]
  | n + 1 => by rw [← Nat.add_assoc]; simp only [sumN]; rw [sumN_add]; omega
theorem sumN_zero {f : Nat → Int} {n : Nat} (h : ∀ i, i < n → f i = 0) : sumN f n = 0 := by
  rw [sumN_congr h]; induction n with
  | zero => rfl
  | succ n ih => simp only [sumN]; rw [ih fun i hi => h i (by omega)]; rfl
theorem sumN_bd {f : Nat → Int} {k : Int} : ∀ {n : Nat}, (∀ i, i < n → 0 ≤ f i ∧ f i ≤ k) → 0 ≤ sumN f n ∧ sumN f n ≤ k * n
  | 0, _ => by simp [sumN]
  | n + 1, h => by
    have := sumN_bd (n := n) fun i hi => h i (by omega)
    have h1 := h n (by omega)
    simp only [sumN]
    have e : k * ((n + 1 : Nat) : Int) = k * n + k := by rw [Int.natCast_add, Int.mul_add]; simp
    omega
/-- One place of a sum. -/
theorem sumN_one {f : Nat → Int} {b : Nat} : ∀ {n : Nat}, b < n → sumN f n = sumN (fun i => if i = b then 0 else f i) n + f b := by
  intro n
  induction n with
  | zero => intro h; omega
  | succ n ih =>
    intro h
    simp only [sumN]
    by_cases e : b = n
    · subst e
      rw [if_pos rfl, sumN_congr (g := f) (f := fun i => if i = b then 0 else f i) fun i hi => if_neg (by omega)]
      omega
    · rw [ih (by omega), if_neg (by omega)]; omega
/-- The first k of n values of f; zeros behind them. -/
def ptab (n k : Nat) (f : Nat → Int) : List Int := tab n fun i => if i < k then f i else 0
theorem ptab_len {n k : Nat} {f : Nat → Int} : (ptab n k f).length = n := tab_len
theorem ptab_zero {n : Nat} {f : Nat → Int} : ptab n 0 f = List.replicate n 0 := by
  refine List.ext_getElem (by simp [ptab, tab]) fun j h1 h2 => by simp [ptab, tab]
theorem ptab_all {n : Nat} {f : Nat → Int} : ptab n n f = tab n f :=
  List.map_congr_left fun i hi => if_pos (by simpa using hi)
theorem ptab_set {n k : Nat} {f : Nat → Int} : (ptab n k f).set k (f k) = ptab n (k + 1) f := by
  refine List.ext_getElem (by simp [ptab, tab]) fun j h1 h2 => ?_
  rw [List.getElem_set]
  simp only [ptab, tab, List.getElem_map, List.getElem_range]
  by_cases e : k = j
  · subst e; rw [if_pos rfl, if_pos (by omega)]
  · rw [if_neg e]
    by_cases h : j < k
    · rw [if_pos h, if_pos (by omega)]
    · rw [if_neg h, if_neg (by omega)]
end Go.Proofs.Ytcehapmkhlmgdaa
