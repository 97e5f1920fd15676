/- Lists by their places; sums. -/
import Derived.Test.YthkilkjngincpaaLiteTP
namespace Go.Proofs.Ythkilkjngincpaa
open Go Go.Lite
set_option linter.unusedVariables false
set_option linter.unusedSimpArgs false
set_option maxRecDepth 100000
set_option maxHeartbeats 4000000

theorem getD_set_eq {α : Type} {l : List α} {i : Nat} {v d : α} (h : i < l.length) : (l.set i v).getD i d = v := by
  rw [List.getD_eq_getElem?_getD, List.getElem?_set_self h]; rfl
theorem getD_set_ne {α : Type} {l : List α} {i j : Nat} {v d : α} (h : i ≠ j) : (l.set i v).getD j d = l.getD j d := by
  rw [List.getD_eq_getElem?_getD, List.getElem?_set_ne h, ← List.getD_eq_getElem?_getD]
theorem ext_getD {α : Type} (d : α) {a b : List α} (hl : a.length = b.length) (h : ∀ i, i < a.length → a.getD i d = b.getD i d) : a = b :=
  List.ext_getElem hl fun j h1 h2 => by
    have := h j h1
    rwa [getD_get d h1, getD_get d h2] at this
theorem getD_repl {α : Type} {n i : Nat} {v d : α} (h : i < n) : (List.replicate n v).getD i d = v := by
  rw [getD_get d (by simpa using h)]; simp
/-- The list of the first n values of f. -/
def tab {α : Type} (n : Nat) (f : Nat → α) : List α := (List.range n).map f
theorem tab_len {α : Type} {n : Nat} {f : Nat → α} : (tab n f).length = n := by simp [tab]
theorem tab_get {α : Type} {n i : Nat} {f : Nat → α} {d : α} (h : i < n) : (tab n f).getD i d = f i := by
  rw [List.getD_eq_getElem?_getD, tab, List.getElem?_map, List.getElem?_range h]; rfl
theorem is_tab {α : Type} {n : Nat} {f : Nat → α} (d : α) {l : List α} (h : l.length = n) (hf : ∀ i, i < n → l.getD i d = f i) : l = tab n f :=
  ext_getD d (by rw [h, tab_len]) fun i hi => by rw [hf i (by omega), tab_get (by omega)]

theorem tab_succ {α : Type} {n : Nat} {f : Nat → α} : tab (n + 1) f = tab n f ++ [f n] := by simp [tab, List.range_succ]
theorem cut_tab {α : Type} {n : Nat} {f : Nat → α} : cut (tab n f) 0 n = tab n f := cut_all tab_len.symm

/-- The sum of f over the first n numbers. -/
def sumN (f : Nat → Int) : Nat → Int
  | 0 => 0
  | n + 1 => sumN f n + f n
theorem sumN_bd {f : Nat → Int} {k : Int} : ∀ {n : Nat}, (∀ i, i < n → 0 ≤ f i ∧ f i ≤ k) → 0 ≤ sumN f n ∧ sumN f n ≤ k * n
  | 0, _ => by simp [sumN]
  | n + 1, h => by
    have := sumN_bd (n := n) fun i hi => h i (by omega)
    have h1 := h n (by omega)
    simp only [sumN]
    have e : k * ((n + 1 : Nat) : Int) = k * n + k := by rw [Int.natCast_add, Int.mul_add]; simp
    omega
end Go.Proofs.Ythkilkjngincpaa
