/- Grids: nodes and simplex interpolation, plainly. -/
import Derived.Test.YtogbkhopanaoiaaCurve1
namespace Go.Proofs.Ytogbkhopanaoiaa
open Go Go.Lite
set_option linter.unusedVariables false
set_option linter.unusedSimpArgs false
set_option maxRecDepth 100000
set_option maxHeartbeats 4000000

/-- The number of a node, behind n. -/
def ndx (s : Nat) (n : Nat) : List Nat → Nat
  | [] => n
  | k :: r => ndx s (n * s + k) r
theorem ndx_snoc {s : Nat} : ∀ {l : List Nat} {n k : Nat}, ndx s n (l ++ [k]) = ndx s n l * s + k
  | [], _, _ => rfl
  | _ :: r, _, _ => ndx_snoc (l := r)
theorem ndx_lt {s : Nat} : ∀ {l : List Nat} {n : Nat}, (∀ k ∈ l, k < s) → ndx s n l < (n + 1) * s ^ l.length
  | [], n, _ => by simp [ndx]
  | k :: r, n, h => by
    have := ndx_lt (l := r) (n := n * s + k) fun j hj => h j (List.mem_cons_of_mem _ hj)
    have hk := h k (List.mem_cons_self ..)
    simp only [ndx, List.length_cons]
    refine Nat.lt_of_lt_of_le this ?_
    rw [Nat.pow_succ, Nat.mul_comm (s ^ r.length) s, ← Nat.mul_assoc]
    refine Nat.mul_le_mul_right _ ?_
    rw [Nat.add_mul, Nat.one_mul]
    omega
/-- The value o of a node. -/
def gnode (vals : List Int) (out s o : Nat) (l : List Nat) : Int := vals.getD (ndx s 0 l * out + o) 0
/-- The node of a cell that belongs to t. -/
def gc (st t x : Nat) : Nat := x / st + if t < x % st then 1 else 0
/-- The interpolated value o, multiplied by the step. -/
def graw (vals : List Int) (out s st o : Nat) (xs : List Nat) : Int := sumN (fun t => gnode vals out s o (xs.map fun x => (x + t) / st)) st
theorem gc_eq {st t x : Nat} (h : t < st) : (x + (st - 1 - t)) / st = gc st t x := by
  unfold gc
  have h1 := Nat.div_add_mod x st
  have h2 := Nat.mod_lt x (show 0 < st by omega)
  generalize x / st = q at *
  generalize x % st = r at *
  subst h1
  rw [Nat.add_assoc, Nat.mul_add_div (by omega)]
  congr 1
  split
  · exact Nat.div_eq_of_lt_le (by omega) (by omega)
  · exact Nat.div_eq_of_lt (by omega)
theorem graw_eq {vals : List Int} {out s st o : Nat} {xs : List Nat} : sumN (fun t => gnode vals out s o (xs.map (gc st t))) st = graw vals out s st o xs := by
  unfold graw
  rw [← sumN_rev (f := fun t => gnode vals out s o (xs.map fun x => (x + t) / st))]
  exact sumN_congr fun t ht => by
    congr 1
    exact List.map_congr_left fun x _ => (gc_eq ht).symm
theorem sumN_const {f : Nat → Int} {c : Int} : ∀ {n : Nat}, (∀ i, i < n → f i = c) → sumN f n = n * c
  | 0, _ => by simp [sumN]
  | n + 1, h => by
    simp only [sumN]
    rw [sumN_const fun i hi => h i (by omega), h n (by omega), Int.natCast_add, Int.add_mul]
    simp
/-- The sum over the t from a on. -/
def tail (f : Nat → Int) (st a : Nat) : Int := sumN f st - sumN f a
theorem tail_all {f : Nat → Int} {st : Nat} : tail f st 0 = sumN f st := by simp [tail, sumN]
theorem tail_none {f : Nat → Int} {st : Nat} : tail f st st = 0 := by simp [tail]
theorem tail_step {f : Nat → Int} {st a b : Nat} {c : Int} (hab : a ≤ b) (hf : ∀ t, a ≤ t → t < b → f t = c) : tail f st a = tail f st b + ((b : Int) - a) * c := by
  obtain ⟨k, rfl⟩ := Nat.exists_eq_add_of_le hab
  have h1 := sumN_add (f := f) (m := a) (n := k)
  rw [sumN_const (f := fun i => f (a + i)) (c := c) fun i hi => hf _ (by omega) (by omega)] at h1
  have h2 : ((a + k : Nat) : Int) - a = k := by omega
  unfold tail
  rw [h1, h2]
  omega
theorem sumN_abs {f : Nat → Int} {k : Int} : ∀ {n : Nat}, (∀ i, i < n → -k ≤ f i ∧ f i ≤ k) → -(k * n) ≤ sumN f n ∧ sumN f n ≤ k * n
  | 0, _ => by simp [sumN]
  | n + 1, h => by
    have := sumN_abs (n := n) fun i hi => h i (by omega)
    have h1 := h n (by omega)
    simp only [sumN]
    have e : k * ((n + 1 : Nat) : Int) = k * n + k := by rw [Int.natCast_add, Int.mul_add]; simp
    omega
theorem tail_abs {f : Nat → Int} {k : Int} {st a : Nat} (ha : a ≤ st) (h : ∀ i, i < st → -k ≤ f i ∧ f i ≤ k) : -(k * st) ≤ tail f st a ∧ tail f st a ≤ k * st := by
  obtain ⟨j, rfl⟩ := Nat.exists_eq_add_of_le ha
  have h1 := sumN_add (f := f) (m := a) (n := j)
  have h2 := sumN_abs (f := fun i => f (a + i)) (k := k) (n := j) fun i hi => h _ (by omega)
  have h3 : k * ((a + j : Nat) : Int) = k * a + k * j := by rw [Int.natCast_add, Int.mul_add]
  have h4 : 0 ≤ k * a := by
    by_cases e : a + j = 0
    · have : a = 0 := by omega
      subst this; simp
    · have := h 0 (by omega)
      exact Int.mul_nonneg (by omega) (by omega)
  unfold tail
  omega

theorem tab_set {α : Type} {n i : Nat} {f : Nat → α} {v : α} : (tab n f).set i v = tab n (fun j => if j = i then v else f j) := by
  refine List.ext_getElem (by simp [tab]) fun j h1 h2 => ?_
  simp only [tab, List.length_map, List.length_range] at h2
  rw [List.getElem_set]
  by_cases e : i = j
  · subst e; simp [tab]
  · rw [if_neg e]; simp [tab, show ¬ j = i from fun h => e h.symm]
theorem tab_congr {α : Type} {n : Nat} {f g : Nat → α} (h : ∀ i, i < n → f i = g i) : tab n f = tab n g :=
  List.map_congr_left fun i hi => h i (by simpa using hi)
theorem tab_repl {α : Type} {n : Nat} {v : α} : List.replicate n v = tab n fun _ => v := by
  refine List.ext_getElem (by simp [tab]) fun j h1 h2 => by simp [tab]
theorem tab_take {α : Type} {n m : Nat} {f : Nat → α} (h : m ≤ n) : (tab n f).take m = tab m f := by
  refine List.ext_getElem (by simp [tab]; omega) fun j h1 h2 => ?_
  simp [tab]

/-- A grid's shape is permitted. -/
structure GOk (inn out s : Nat) (vals : List Int) : Prop where
  i1 : 1 ≤ inn ∧ inn ≤ 4
  o1 : 1 ≤ out ∧ out ≤ 8
  s1 : s = 2 ∨ s = 3 ∨ s = 4 ∨ s = 5 ∨ s = 6 ∨ s = 7 ∨ s = 9
  big : s ^ inn * out ≤ 32768
  len : vals.length = s ^ inn * out
  bd : ∀ v ∈ vals, -32768 ≤ v ∧ v ≤ 65535
def gstep (s : Nat) : Nat := 65280 / (s - 1)
theorem GOk.step {inn out s : Nat} {vals : List Int} (g : GOk inn out s vals) : (s - 1) * gstep s = 65280 ∧ 8160 ≤ gstep s ∧ gstep s ≤ 65280 := by
  unfold gstep
  rcases g.s1 with rfl | rfl | rfl | rfl | rfl | rfl | rfl <;> decide
theorem gnode_bd {inn out s : Nat} {vals : List Int} (g : GOk inn out s vals) (o : Nat) (l : List Nat) : -65536 ≤ gnode vals out s o l ∧ gnode vals out s o l ≤ 65536 := by
  unfold gnode
  by_cases h : ndx s 0 l * out + o < vals.length
  · have := g.bd _ (getD_mem (d := 0) h); omega
  · rw [List.getD_eq_getElem?_getD, List.getElem?_eq_none (by omega)]; simp
theorem at_in {inn out s : Nat} {vals : List Int} (g : GOk inn out s vals) {l : List Nat} (hl : l.length = inn) (hk : ∀ k ∈ l, k < s) {o : Nat} (ho : o < out) : ndx s 0 l * out + o < vals.length ∧ ndx s 0 l < s ^ inn := by
  have := ndx_lt (n := 0) hk
  rw [hl, Nat.zero_add, Nat.one_mul] at this
  refine ⟨?_, this⟩
  rw [g.len]
  have h2 : (ndx s 0 l + 1) * out ≤ s ^ inn * out := Nat.mul_le_mul_right _ this
  rw [Nat.add_mul] at h2
  omega
end Go.Proofs.Ytogbkhopanaoiaa
