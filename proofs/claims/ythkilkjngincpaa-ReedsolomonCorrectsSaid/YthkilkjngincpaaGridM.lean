/- Grids: nodes and simplex interpolation, plainly. -/
import Derived.Test.YthkilkjngincpaaRs1
namespace Go.Proofs.Ythkilkjngincpaa
open Go Go.Lite
set_option linter.unusedVariables false
set_option linter.unusedSimpArgs false
set_option maxRecDepth 100000
set_option maxHeartbeats 4000000

/-- The node of a cell that belongs to t. -/
def gc (st t x : Nat) : Nat := x / st + if t < x % st then 1 else 0
/-- The sum over the t from a on. -/
def tail (f : Nat → Int) (st a : Nat) : Int := sumN f st - sumN f a
theorem tab_set {α : Type} {n i : Nat} {f : Nat → α} {v : α} : (tab n f).set i v = tab n (fun j => if j = i then v else f j) := by
  refine List.ext_getElem (by simp [tab]) fun j h1 h2 => ?_
  simp only [tab, List.length_map, List.length_range] at h2
  rw [List.getElem_set]
  by_cases e : i = j
  · subst e; simp [tab]
  · rw [if_neg e]; simp [tab, show ¬ j = i from fun h => e h.symm]
theorem tab_congr {α : Type} {n : Nat} {f g : Nat → α} (h : ∀ i, i < n → f i = g i) : tab n f = tab n g :=
  List.map_congr_left fun i hi => h i (by simpa using hi)
theorem tab_repl {α : Type} {n : Nat} {v : α} : List.replicate n v = tab n fun _ => v := by
  refine List.ext_getElem (by simp [tab]) fun j h1 h2 => by simp [tab]
/-- A grid's shape is permitted. -/
structure GOk (inn out s : Nat) (vals : List Int) : Prop where
  i1 : 1 ≤ inn ∧ inn ≤ 4
  o1 : 1 ≤ out ∧ out ≤ 8
  s1 : s = 2 ∨ s = 3 ∨ s = 4 ∨ s = 5 ∨ s = 6 ∨ s = 7 ∨ s = 9
  big : s ^ inn * out ≤ 32768
  len : vals.length = s ^ inn * out
  bd : ∀ v ∈ vals, -32768 ≤ v ∧ v ≤ 65535
def gstep (s : Nat) : Nat := 65280 / (s - 1)
theorem GOk.step {inn out s : Nat} {vals : List Int} (g : GOk inn out s vals) : (s - 1) * gstep s = 65280 ∧ 8160 ≤ gstep s ∧ gstep s ≤ 65280 := by
  unfold gstep
  rcases g.s1 with rfl | rfl | rfl | rfl | rfl | rfl | rfl <;> decide
end Go.Proofs.Ythkilkjngincpaa
