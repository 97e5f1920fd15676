/- Lite, part E: memory of the call's own: reading, writing, making rows; append and copy. -/
import Derived.Test.YthmjeeamomfifaaLiteD
namespace Go.Lite
open Go Go.RowKit
set_option linter.unusedVariables false

def solid : LV → Bool
  | .dead | .und | .agg _ | .tup _ => false
  | _ => true

/-- The row behind a handle. -/
def row (H : Hp) (h : Nat) : Option (List LV) :=
  match H[h]? with
  | some (some cs) => some cs
  | _ => none

def putC (cs : List LV) (off : Nat) : List LV → List LV
  | [d] => cs.set off d
  | ds => putCells cs off ds

def zerosL (n : Nat) : List LV → List LV
  | [z] => List.replicate n z
  | zs => (List.replicate n zs).flatten

/-- The operations that read. -/
def loadOp (τ : TT) (F : Fr) (H : Hp) : Op → Option LV
  | .load t x => match τ t, evalO F x with
    | some ti, .ptr h o => (match row H h with | some cs => lpart ti.agg ti.size cs o | none => none)
    | some ti, .pp cs => lpart ti.agg ti.size cs 0
    | _, _ => none
  | _ => none

/-- The cells of a source of append or copy, and how many elements they are. -/
def srcCells (H : Hp) (esz : Nat) : LV → Option (Nat × List LV)
  | .nils => some (0, [])
  | .ps sz n cs => if sz = esz then some (n, cs) else none
  | .sl sz h o n => if sz = esz then (match row H h with | some cs => if o + n * sz ≤ cs.length then some (n, (cs.drop o).take (n * sz)) else none | none => none) else none
  | .str s => if esz = 1 then some (s.size, s.data.toList.map fun b => .int .u8 b.toNat) else none
  | _ => none

/-- Rows laid anew. -/
def applyWs (H : Hp) : List (Nat × Option (List LV)) → Hp
  | [] => H
  | (h, r) :: ws => applyWs (H.set h r) ws

/-- The operations that make or write memory; a new row has the number a. Value, rows laid anew. -/
def effOp (τ : TT) (F : Fr) (H : Hp) (a : Nat) : Op → Option (LV × List (Nat × Option (List LV)))
  | .store t x y => match τ t, evalO F x, lcells (evalO F y) with
    | some ti, .ptr h o, some ds => (match row H h with
      | some cs => if ds.length = ti.size ∧ o + ds.length ≤ cs.length ∧ ds.all solid = true then some (.und, [(h, some (putC cs o ds))]) else none
      | none => none)
    | _, _, _ => none
  | .alloc t => match τ t with
    | some ti => some (.ptr a 0, [(a, some ti.zero)])
    | none => none
  | .box t x => match lcells (evalO F x) with
    | some cs => some (.ptr a 0, [(a, some cs)])
    | none => none
  | .buildSlice t len parts => match τ t with
    | some ⟨.slice esz _ ez, _, _, _⟩ =>
      if len * esz ≤ 16777216 then
        (match lfill (fun i => some (i * esz, esz)) (zerosL len ez) (parts.toList.map fun p => (p.1, evalO F p.2)) with
        | some cs => some (.sl esz a 0 len, [(a, some cs)])
        | none => none)
      else none
    | _ => none
  | .makeSlice t l c => match τ t, evalO F l, evalO F c with
    | some ⟨.slice esz eb ez, _, _, _⟩, .int _ n, .int _ m =>
      if 0 ≤ n ∧ n ≤ m ∧ m ≤ 281474976710656 ∧ eb * m ≤ 281474976710656 then some (.sl esz a 0 n.toNat, [(a, some (zerosL n.toNat ez))]) else none
    | _, _, _ => none
  | .call ⟨.builtin .append, args, argTypes⟩ => match argTypes[0]?, argTypes[1]?, args[0]?, args[1]? with
    | some t, some u, some x, some y => match τ t, τ u with
      | some ⟨.slice esz eb _, _, _, _⟩, some ⟨ud, _, _, _⟩ =>
        (match ud with
        | .int _ => none
        | _ => match srcCells H esz (evalO F y), evalO F x with
          | some (n, xs), .nils => if n * eb ≤ 140737488355328 ∧ n ≤ 140737488355328 then some (.sl esz a 0 n, [(a, some xs)]) else none
          | some (n, xs), .sl sz h o m => (match row H h with
            | some cs => if sz = esz ∧ o + m * sz ≤ cs.length ∧ (m + n) * eb ≤ 140737488355328 ∧ m + n ≤ 140737488355328 ∧ xs.all solid = true then
                some (.sl sz a 0 (m + n), [(h, none), (a, some (((cs.drop o).take (m * sz)) ++ xs))]) else none
            | none => none)
          | _, _ => none)
      | _, _ => none
    | _, _, _, _ => none
  | .call ⟨.builtin .copy, args, argTypes⟩ => match argTypes[0]?, args[0]?, args[1]? with
    | some t, some x, some y => match τ t with
      | some ⟨.slice esz eb _, _, _, _⟩ => (match evalO F x, srcCells H esz (evalO F y) with
        | .sl sz h o m, some (n, xs) => (match row H h with
          | some cs => if sz = esz ∧ o + m * sz ≤ cs.length ∧ xs.all solid = true then some (.int .i64 (Nat.min n m), [(h, some (putCells cs o (xs.take (Nat.min n m * sz))))]) else none
          | none => none)
        | _, _ => none)
      | _ => none
    | _, _, _ => none
  | _ => none

/-- It makes a row. -/
def makes : Op → Bool
  | .alloc _ | .box _ _ | .buildSlice _ _ _ | .makeSlice _ _ _ | .call ⟨.builtin .append, _, _⟩ => true
  | _ => false

/-- The rows with one more, not made yet. -/
def more (op : Op) (H : Hp) : Hp := if makes op then H ++ [none] else H

/-- The same where the next number is taken. -/
def effN (τ : TT) (F : Fr) (H : Hp) (op : Op) : Option (LV × Hp) :=
  match effOp τ F (more op H) H.length op with
  | some (x, ws) => some (x, applyWs (more op H) ws)
  | none => none

section
variable {w : World} {ι ι' : Pl} {per : Nat → Prop}

theorem VR.one {x : LV} {v : Value} (hv : VR w per ι x v) (hs : solid x = true) : v.oneCell' = true := by
  cases hv <;> first | rfl | (simp [solid] at hs)

end

/-- A block laid anew. -/
def setBlk (w : World) (b : Nat) (o : Obj) : World := { w with heap := w.heap.setIfInBounds b o }

theorem lt_of_get {w : World} {b : Nat} {o : Obj} (h : w.heap[b]? = some o) : b < w.heap.size := by
  rcases Nat.lt_or_ge b w.heap.size with h' | h'
  · exact h'
  · simp [Array.getElem?_eq_none h'] at h

theorem setCell_blk {w : World} {b o : Nat} {c : Array Value} {e : TypeId} {v : Value} (h : w.heap[b]? = some (.cells c e (0, 0))) :
    w.setCell ⟨b, o, none⟩ v = setBlk w b (.cells (c.setIfInBounds o v) e (0, 0)) := by
  have hb := lt_of_get h
  unfold World.setCell setBlk
  congr 1
  apply Array.ext_getElem?
  intro i
  simp only [Array.getElem?_modify, Array.getElem?_setIfInBounds]
  by_cases hi : b = i
  · subst hi
    rw [if_pos rfl, if_pos rfl, if_pos hb, h]
    rfl
  · simp [hi]

theorem cell_of_blk {w : World} {b o : Nat} {c : Array Value} {e : TypeId} {fz : Nat × Nat} (h : w.heap[b]? = some (.cells c e fz)) : w.cell? ⟨b, o, none⟩ = c[o]? := by
  simp [World.cell?, h]

theorem setBlk_get {w : World} {b k : Nat} {o : Obj} : (setBlk w b o).heap[k]? = if b = k then (if b < w.heap.size then some o else none) else w.heap[k]? := by
  unfold setBlk
  simp only [Array.getElem?_setIfInBounds]

theorem setBlk_size {w : World} {b : Nat} {o : Obj} : (setBlk w b o).heap.size = w.heap.size := by simp [setBlk]

theorem setBlk_setBlk {w : World} {b : Nat} {o o' : Obj} : setBlk (setBlk w b o) b o' = setBlk w b o' := by
  unfold setBlk
  simp

theorem setBlk_same {w : World} {b : Nat} {o : Obj} (h : w.heap[b]? = some o) : setBlk w b o = w := by
  have hb := lt_of_get h
  unfold setBlk
  have : w.heap.setIfInBounds b o = w.heap := by
    apply Array.ext_getElem?
    intro i
    simp only [Array.getElem?_setIfInBounds]
    by_cases hi : b = i
    · subst hi
      rw [if_pos rfl, if_pos hb, h]
    · simp [hi]
  rw [this]

/-- Cells stored one behind the other. -/
theorem run_storeCells {P : Program} {b o : Nat} {e : TypeId} (vs : List Value) : ∀ (i : Nat) (w : World) (c : Array Value), w.heap[b]? = some (.cells c e (0, 0)) → o + i + vs.length ≤ c.size →
    (∀ v ∈ vs, v.oneCell' = true) → ∃ c' : Array Value, (storeCells ⟨b, o, none⟩ vs i).run P w = .ok () (setBlk w b (.cells c' e (0, 0))) ∧ c'.size = c.size ∧
      ∀ k, c'.getD k undef = if o + i ≤ k ∧ k < o + i + vs.length then vs.getD (k - (o + i)) undef else c.getD k undef := by
  induction vs with
  | nil =>
    intro i w c h _ _
    refine ⟨c, ?_, rfl, fun k => ?_⟩
    · rw [setBlk_same h]; simp [storeCells]
    · rw [if_neg (by simp only [List.length_nil]; omega)]
  | cons v r ih =>
    intro i w c h hl hv
    simp only [List.length_cons] at hl
    have hcell : w.cell? ⟨b, o + i, none⟩ = some (c[o + i]'(by omega)) := by
      have : o + i < c.size := by omega
      rw [cell_of_blk h]; simp [this]
    have hb := lt_of_get h
    have hfz : w.frozen? ⟨b, o + i, none⟩ = false := by simp [World.frozen?, h]
    have h2 : (setBlk w b (.cells (c.setIfInBounds (o + i) v) e (0, 0))).heap[b]? = some (.cells (c.setIfInBounds (o + i) v) e (0, 0)) := by
      rw [setBlk_get]; simp [hb]
    obtain ⟨c', hrun, hs, hg⟩ := ih (i + 1) _ _ h2 (by simp; omega) (fun u hu => hv u (List.mem_cons_of_mem _ hu))
    refine ⟨c', ?_, by rw [hs]; simp, fun k => ?_⟩
    · simp only [storeCells, Sem.run_bind, add_plain, run_store P w _ v .plain (hv v (List.mem_cons_self ..)), hcell, hfz, Bool.false_eq_true, if_false, Result.andThen_ok]
      rw [setCell_blk h, hrun, setBlk_setBlk]
    · rw [hg k]
      simp only [List.length_cons]
      by_cases h1 : k = o + i
      · subst h1
        rw [if_neg (by omega), if_pos (by omega)]
        have hlt : o + i < c.size := by omega
        simp [hlt]
      · by_cases h3 : o + (i + 1) ≤ k ∧ k < o + (i + 1) + r.length
        · rw [if_pos h3, if_pos (by omega)]
          have : k - (o + i) = (k - (o + (i + 1))) + 1 := by omega
          rw [this, List.getD_cons_succ]
        · rw [if_neg h3, if_neg (by omega)]
          have : (c.setIfInBounds (o + i) v).getD k undef = c.getD k undef := by
            simp only [Array.getD_eq_getD_getElem?, Array.getElem?_setIfInBounds]
            rw [if_neg (by omega)]
          exact this

theorem run_loadCells {P : Program} {w : World} {b o : Nat} (vs : Nat → Value) (n : Nat) : ∀ (i : Nat) (acc : Array Value), (∀ j, i ≤ j → j < i + n → w.cell? ⟨b, o + j, none⟩ = some (vs j)) →
    (loadCellsFrom ⟨b, o, none⟩ i n acc).run P w = .ok (acc ++ ((List.range' i n).map vs).toArray) w := by
  induction n with
  | zero => intro i acc _; simp [loadCellsFrom]
  | succ n ih =>
    intro i acc h
    simp only [loadCellsFrom, Sem.run_bind, add_plain, run_load, h i (Nat.le_refl _) (by omega), Result.andThen_ok]
    rw [ih (i + 1) _ (fun j h1 h2 => h j (by omega) (by omega))]
    simp [List.range'_succ]

end Go.Lite
