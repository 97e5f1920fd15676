/- Lite, parts E F. -/
import Derived.Test.YtagfanbodglplaaLiteD
import Derived.Laws.BytesArg
set_option linter.unusedVariables false
set_option linter.unusedSimpArgs false

/- Lite, part E: memory of the call's own: reading, writing, making rows; append and copy. -/
namespace Go.Lite
open Go Go.RowKit
set_option linter.unusedVariables false

def solid : LV → Bool
  | .dead | .und | .agg _ | .tup _ => false
  | _ => true

/-- The row behind a handle. -/
def row (H : Hp) (h : Nat) : Option (List LV) :=
  match H[h]? with
  | some (some cs) => some cs
  | _ => none

def putC (cs : List LV) (off : Nat) : List LV → List LV
  | [d] => cs.set off d
  | ds => putCells cs off ds

def zerosL (n : Nat) : List LV → List LV
  | [z] => List.replicate n z
  | zs => (List.replicate n zs).flatten

def u8s : List LV → Option (List Int)
  | [] => some []
  | .int .u8 n :: r => (match u8s r with | some l => some (n :: l) | none => none)
  | _ => none
/-- The bytes of a slice. -/
def bytesAt (H : Hp) : LV → Option (List Int)
  | .nils => some []
  | .ps sz _ cs => if sz = 1 then u8s cs else none
  | .sl sz h o n => if sz = 1 then (match row H h with | some cs => if o + n ≤ cs.length then u8s ((cs.drop o).take n) else none | none => none) else none
  | _ => none
theorem u8s_len : ∀ {cs : List LV} {ns : List Int}, u8s cs = some ns → ns.length = cs.length ∧ ∀ i (h1 : i < cs.length) (h2 : i < ns.length), cs[i] = .int .u8 ns[i]
  | [], ns, h => by simp only [u8s, Option.some.injEq] at h; subst h; simp
  | c :: r, ns, h => by
    unfold u8s at h
    split at h
    · rename_i h1; cases h1
    · rename_i n r' h1
      cases h1
      split at h
      · rename_i l hl
        obtain rfl := Option.some.inj h
        obtain ⟨g1, g2⟩ := u8s_len hl
        refine ⟨by simp [g1], fun i h1 h2 => ?_⟩
        cases i with
        | zero => rfl
        | succ i => exact g2 i (by simpa using h1) (by simpa using h2)
      · cases h
    · cases h
theorem u8s_map : ∀ (ns : List Int), u8s (ns.map (LV.int .u8)) = some ns
  | [] => rfl
  | n :: r => by simp only [List.map_cons, u8s, u8s_map r]

/-- The operations that read. -/
def loadOp (τ : TT) (F : Fr) (H : Hp) : Op → Option LV
  | .convert s d x => if Nat.beq (τ.nilk s) 3 then (match τ d with
    | some ⟨.str, _, _, _⟩ => (match bytesAt H (evalO F x) with | some ns => some (.str (strOfNums ns)) | none => none)
    | _ => none) else none
  | .load t x => match τ t, evalO F x with
    | some ti, .ptr h o => (match row H h with | some cs => lpart ti.agg ti.size cs o | none => none)
    | some ti, .pp cs => lpart ti.agg ti.size cs 0
    | _, _ => none
  | .slice t x lo hi none => match τ t, evalO F x with
    | some ⟨.arr m esz _, _, _, _⟩, .ptr h o => (match row H h, sliceBnds m (lo.map (evalO F)) (hi.map (evalO F)) with
      | some cs, some (l, r) => if o + m * esz ≤ cs.length ∧ l < m then some (.sl esz h (o + l * esz) (r - l)) else none
      | _, _ => none)
    | some ⟨.arr m esz _, _, _, _⟩, .pp cs => (match sliceBnds m (lo.map (evalO F)) (hi.map (evalO F)) with
      | some (l, r) => if m * esz ≤ cs.length ∧ l < m then some (.ps esz (r - l) ((cs.drop (l * esz)).take ((r - l) * esz))) else none
      | none => none)
    | _, _ => none
  | _ => none

/-- The cells of a source of append or copy, and how many elements they are. -/
def srcCells (H : Hp) (esz : Nat) : LV → Option (Nat × List LV)
  | .nils => some (0, [])
  | .ps sz n cs => if sz = esz then some (n, cs) else none
  | .sl sz h o n => if sz = esz then (match row H h with | some cs => if o + n * sz ≤ cs.length then some (n, (cs.drop o).take (n * sz)) else none | none => none) else none
  | .str s => if esz = 1 then some (s.size, s.data.toList.map fun b => .int .u8 b.toNat) else none
  | _ => none

/-- Rows laid anew. -/
def applyWs (H : Hp) : List (Nat × Option (List LV)) → Hp
  | [] => H
  | (h, r) :: ws => applyWs (H.set h r) ws

/-- The operations that make or write memory; a new row has the number a. Value, rows laid anew. -/
def effOp (τ : TT) (F : Fr) (H : Hp) (a : Nat) : Op → Option (LV × List (Nat × Option (List LV)))
  | .store t x y => match τ t, evalO F x, lcells (evalO F y) with
    | some ti, .ptr h o, some ds => (match row H h with
      | some cs => if ds.length = ti.size ∧ o + ds.length ≤ cs.length ∧ ds.all solid = true then some (.und, [(h, some (putC cs o ds))]) else none
      | none => none)
    | _, _, _ => none
  | .alloc t => match τ t with
    | some ti => some (.ptr a 0, [(a, some ti.zero)])
    | none => none
  | .box t x => match lcells (evalO F x) with
    | some cs => some (.ptr a 0, [(a, some cs)])
    | none => none
  | .buildSlice t len parts => match τ t with
    | some ⟨.slice esz _ ez, _, _, _⟩ =>
      if len * esz ≤ 16777216 then
        (match lfill (fun i => some (i * esz, esz)) (zerosL len ez) (parts.toList.map fun p => (p.1, evalO F p.2)) with
        | some cs => some (.sl esz a 0 len, [(a, some cs)])
        | none => none)
      else none
    | _ => none
  | .makeSlice t l c => match τ t, evalO F l, evalO F c with
    | some ⟨.slice esz eb ez, _, _, _⟩, .int _ n, .int _ m =>
      if 0 ≤ n ∧ n ≤ m ∧ m ≤ 281474976710656 ∧ eb * m ≤ 281474976710656 then some (.sl esz a 0 n.toNat, [(a, some (zerosL n.toNat ez))]) else none
    | _, _, _ => none
  | .call ⟨.builtin .append, args, argTypes⟩ => match argTypes[0]?, argTypes[1]?, args[0]?, args[1]? with
    | some t, some u, some x, some y => match τ t, τ u with
      | some ⟨.slice esz eb _, _, _, _⟩, some ⟨ud, _, _, _⟩ =>
        (match ud with
        | .int _ => none
        | _ => match srcCells H esz (evalO F y), evalO F x with
          | some (n, xs), .nils => if n * eb ≤ 140737488355328 ∧ n ≤ 140737488355328 then some (.sl esz a 0 n, [(a, some xs)]) else none
          | some (n, xs), .sl sz h o m => (match row H h with
            | some cs => if sz = esz ∧ o + m * sz ≤ cs.length ∧ (m + n) * eb ≤ 140737488355328 ∧ m + n ≤ 140737488355328 ∧ xs.all solid = true then
                some (.sl sz a 0 (m + n), [(h, none), (a, some (((cs.drop o).take (m * sz)) ++ xs))]) else none
            | none => none)
          | _, _ => none)
      | _, _ => none
    | _, _, _, _ => none
  | .call ⟨.builtin .copy, args, argTypes⟩ => match argTypes[0]?, args[0]?, args[1]? with
    | some t, some x, some y => match τ t with
      | some ⟨.slice esz eb _, _, _, _⟩ => (match evalO F x, srcCells H esz (evalO F y) with
        | .sl sz h o m, some (n, xs) => (match row H h with
          | some cs => if sz = esz ∧ o + m * sz ≤ cs.length ∧ xs.all solid = true then some (.int .i64 (Nat.min n m), [(h, some (putCells cs o (xs.take (Nat.min n m * sz))))]) else none
          | none => none)
        | _, _ => none)
      | _ => none
    | _, _, _ => none
  | .call ⟨.builtin .clear, args, argTypes⟩ => match argTypes[0]?, args[0]? with
    | some t, some x => match τ t, evalO F x with
      | some ⟨.slice esz _ ez, _, _, _⟩, .sl sz h o m => (match row H h with
        | some cs => if sz = esz ∧ o + m * sz ≤ cs.length ∧ ez.all solid = true then some (.tup [], [(h, some (putCells cs o (zerosL m ez)))]) else none
        | none => none)
      | _, _ => none
    | _, _ => none
  | _ => none

/-- It makes a row. -/
def makes : Op → Bool
  | .alloc _ | .box _ _ | .buildSlice _ _ _ | .makeSlice _ _ _ | .call ⟨.builtin .append, _, _⟩ => true
  | _ => false

/-- The rows with one more, not made yet. -/
def more (op : Op) (H : Hp) : Hp := if makes op then H ++ [none] else H

/-- The same where the next number is taken. -/
def effN (τ : TT) (F : Fr) (H : Hp) (op : Op) : Option (LV × Hp) :=
  match effOp τ F (more op H) H.length op with
  | some (x, ws) => some (x, applyWs (more op H) ws)
  | none => none

section
variable {w : World} {ι ι' : Pl} {per : Nat → Prop}

theorem VR.one {x : LV} {v : Value} (hv : VR w per ι x v) (hs : solid x = true) : v.oneCell' = true := by
  cases hv <;> first | rfl | exact fnV_one | (simp [solid] at hs)

end

/-- A block laid anew. -/
def setBlk (w : World) (b : Nat) (o : Obj) : World := { w with heap := w.heap.setIfInBounds b o }

theorem lt_of_get {w : World} {b : Nat} {o : Obj} (h : w.heap[b]? = some o) : b < w.heap.size := by
  rcases Nat.lt_or_ge b w.heap.size with h' | h'
  · exact h'
  · simp [Array.getElem?_eq_none h'] at h

theorem setCell_blk {w : World} {b o : Nat} {c : Array Value} {e : TypeId} {fz : Nat × Nat} {v : Value} (h : w.heap[b]? = some (.cells c e fz)) :
    w.setCell ⟨b, o, none⟩ v = setBlk w b (.cells (c.setIfInBounds o v) e fz) := by
  have hb := lt_of_get h
  unfold World.setCell setBlk
  congr 1
  apply Array.ext_getElem?
  intro i
  simp only [Array.getElem?_modify, Array.getElem?_setIfInBounds]
  by_cases hi : b = i
  · subst hi
    rw [if_pos rfl, if_pos rfl, if_pos hb, h]
    rfl
  · simp [hi]

theorem cell_of_blk {w : World} {b o : Nat} {c : Array Value} {e : TypeId} {fz : Nat × Nat} (h : w.heap[b]? = some (.cells c e fz)) : w.cell? ⟨b, o, none⟩ = c[o]? := by
  simp [World.cell?, h]

theorem setBlk_get {w : World} {b k : Nat} {o : Obj} : (setBlk w b o).heap[k]? = if b = k then (if b < w.heap.size then some o else none) else w.heap[k]? := by
  unfold setBlk
  simp only [Array.getElem?_setIfInBounds]

theorem setBlk_size {w : World} {b : Nat} {o : Obj} : (setBlk w b o).heap.size = w.heap.size := by simp [setBlk]

theorem setBlk_setBlk {w : World} {b : Nat} {o o' : Obj} : setBlk (setBlk w b o) b o' = setBlk w b o' := by
  unfold setBlk
  simp

theorem setBlk_same {w : World} {b : Nat} {o : Obj} (h : w.heap[b]? = some o) : setBlk w b o = w := by
  have hb := lt_of_get h
  unfold setBlk
  have : w.heap.setIfInBounds b o = w.heap := by
    apply Array.ext_getElem?
    intro i
    simp only [Array.getElem?_setIfInBounds]
    by_cases hi : b = i
    · subst hi
      rw [if_pos rfl, if_pos hb, h]
    · simp [hi]
  rw [this]

/-- Cells stored one behind the other. -/
theorem run_storeCells {P : Program} {b o : Nat} {e : TypeId × Nat × Nat} (vs : List Value) : ∀ (i : Nat) (w : World) (c : Array Value), Live w b c e → o + i + vs.length ≤ c.size →
    (∀ v ∈ vs, v.oneCell' = true) → ∃ c' : Array Value, (storeCells ⟨b, o, none⟩ vs i).run P w = .ok () (setBlk w b (.cells c' e.1 e.2)) ∧ c'.size = c.size ∧
      ∀ k, c'.getD k undef = if o + i ≤ k ∧ k < o + i + vs.length then vs.getD (k - (o + i)) undef else c.getD k undef := by
  induction vs with
  | nil =>
    intro i w c h _ _
    refine ⟨c, ?_, rfl, fun k => ?_⟩
    · rw [setBlk_same h.1]; simp [storeCells]
    · rw [if_neg (by simp only [List.length_nil]; omega)]
  | cons v r ih =>
    intro i w c h hl hv
    simp only [List.length_cons] at hl
    have hcell : w.cell? ⟨b, o + i, none⟩ = some (c[o + i]'(by omega)) := by
      have : o + i < c.size := by omega
      rw [cell_of_blk h.1]; simp [this]
    have hb := lt_of_get h.1
    have hfz : w.frozen? ⟨b, o + i, none⟩ = false := by
      have h9 := h.2 (o + i) (by omega)
      simp only [World.frozen?, h.1]
      cases hd : (decide (e.2.1 ≤ o + i) && decide (o + i < e.2.2)) with
      | false => rfl
      | true => simp at hd; exact absurd hd h9
    have h2 : Live (setBlk w b (.cells (c.setIfInBounds (o + i) v) e.1 e.2)) b (c.setIfInBounds (o + i) v) e := ⟨by
      rw [setBlk_get]; simp [hb], by simpa using h.2⟩
    obtain ⟨c', hrun, hs, hg⟩ := ih (i + 1) _ _ h2 (by simp; omega) (fun u hu => hv u (List.mem_cons_of_mem _ hu))
    refine ⟨c', ?_, by rw [hs]; simp, fun k => ?_⟩
    · simp only [storeCells, Sem.run_bind, add_plain, run_store P w _ v .plain (hv v (List.mem_cons_self ..)), hcell, hfz, Bool.false_eq_true, if_false, Result.andThen_ok]
      rw [setCell_blk h.1, hrun, setBlk_setBlk]
    · rw [hg k]
      simp only [List.length_cons]
      by_cases h1 : k = o + i
      · subst h1
        rw [if_neg (by omega), if_pos (by omega)]
        have hlt : o + i < c.size := by omega
        simp [hlt]
      · by_cases h3 : o + (i + 1) ≤ k ∧ k < o + (i + 1) + r.length
        · rw [if_pos h3, if_pos (by omega)]
          have : k - (o + i) = (k - (o + (i + 1))) + 1 := by omega
          rw [this, List.getD_cons_succ]
        · rw [if_neg h3, if_neg (by omega)]
          have : (c.setIfInBounds (o + i) v).getD k undef = c.getD k undef := by
            simp only [Array.getD_eq_getD_getElem?, Array.getElem?_setIfInBounds]
            rw [if_neg (by omega)]
          exact this

theorem run_loadCells {P : Program} {w : World} {b o : Nat} (vs : Nat → Value) (n : Nat) : ∀ (i : Nat) (acc : Array Value), (∀ j, i ≤ j → j < i + n → w.cell? ⟨b, o + j, none⟩ = some (vs j)) →
    (loadCellsFrom ⟨b, o, none⟩ i n acc).run P w = .ok (acc ++ ((List.range' i n).map vs).toArray) w := by
  induction n with
  | zero => intro i acc _; simp [loadCellsFrom]
  | succ n ih =>
    intro i acc h
    simp only [loadCellsFrom, Sem.run_bind, add_plain, run_load, h i (Nat.le_refl _) (by omega), Result.andThen_ok]
    rw [ih (i + 1) _ (fun j h1 h2 => h j (by omega) (by omega))]
    simp [List.range'_succ]

end Go.Lite

/- Lite, part F: the state while memory is made and written. -/
namespace Go.Lite
open Go Go.RowKit
set_option linter.unusedVariables false

structure ST (cx : Ctx) (N : Dim) (ι : Pl) (per : Nat → Prop) (F : Fr) (H : Hp) (a : Act) (w : World) : Prop where
  rep : Rep cx.kp w ι per H
  p1 : ∀ b, per b → cx.per0 b ∨ ¬ cx.kp b
  p2 : ∀ b, cx.per0 b → per b
  fr : FR w ι per F a
  size : a.tmps.size = N.n
  defers : DF cx N.rd N.y a.defers w
  below : Kept cx.kp cx.w0 w
  bs : ∀ b, cx.kp b → b < w.heap.size
  grow : cx.ι0.length = N.m ∧ ∀ h, h < N.m → ι[h]? = cx.ι0[h]?

theorem SR.of {cx : Ctx} {N : Dim} {ι : Pl} {per : Nat → Prop} {F : Fr} {H : Hp} {a : Act} {w : World} (h : ST cx N ι per F H a w) : SR cx N F H a w :=
  ⟨ι, per, h.rep, h.p1, h.p2, h.fr, h.size, h.defers, h.below, h.bs, h.grow⟩

theorem SR.st {cx : Ctx} {N : Dim} {F : Fr} {H : Hp} {a : Act} {w : World} (h : SR cx N F H a w) : ∃ ι per, ST cx N ι per F H a w := by
  obtain ⟨ι, per, h1, h2, h3, h4, h5, h6, h7, h8, h9⟩ := h
  exact ⟨ι, per, h1, h2, h3, h4, h5, h6, h7, h8, h9⟩

section
variable {cx : Ctx} {N : Dim} {ι : Pl} {per : Nat → Prop} {F : Fr} {H : Hp} {a : Act} {w : World}

theorem Step.alloc (hp : ∀ b, per b → b < w.heap.size) (o : Obj) : Step per w (w.alloc o) := by
  refine ⟨fun b hb => Below.heap_alloc _ _ _ (hp b hb), fun b n hr => ?_⟩
  obtain ⟨c, e, fz, h1, h2⟩ := hr
  exact ⟨c, e, fz, by rw [Below.heap_alloc _ _ _ (lt_of_get h1)]; exact h1, h2⟩

theorem Step.blk {b : Nat} {c c' : Array Value} {e : TypeId} {fz : Nat × Nat} (h : w.heap[b]? = some (.cells c e fz)) (hb : ¬ per b) (hs : c'.size = c.size) :
    Step per w (setBlk w b (.cells c' e fz)) := by
  have hlt := lt_of_get h
  refine ⟨fun k hk => ?_, fun k n hr => ?_⟩
  · rw [setBlk_get, if_neg]
    intro e; subst e; exact hb hk
  · obtain ⟨d, e2, fz2, h1, h2⟩ := hr
    by_cases hk : b = k
    · subst hk
      rw [h] at h1
      simp only [Option.some.injEq, Obj.cells.injEq] at h1
      obtain ⟨rfl, rfl, rfl⟩ := h1
      exact ⟨c', e, fz, by rw [setBlk_get]; simp [hlt], by omega⟩
    · exact ⟨d, e2, fz2, by rw [setBlk_get, if_neg hk]; exact h1, h2⟩

theorem Step.heap {w' : World} (h : w'.heap = w.heap) : Step per w w' :=
  ⟨fun b _ => by rw [h], fun b n hr => by unfold Room at *; rw [h]; exact hr⟩

theorem FR.step {w' : World} {ι' : Pl} (hs : Step per w w') (hi : ∀ (h : Nat) (b : Nat × Nat), ι[h]? = some (some b) → ι'[h]? = some (some b)) (h : FR w ι per F a) : FR w' ι' per F a :=
  fun t => (h t).step hs (fun _ h => h) hi

theorem ST.ilen (hst : ST cx N ι per F H a w) : N.m ≤ ι.length ∨ ∀ h, ι.length ≤ h → h < N.m → False := by
  by_cases hx : N.m ≤ ι.length
  · exact .inl hx
  · refine .inl ?_
    rcases Nat.lt_or_ge ι.length N.m with h' | h'
    · have := hst.grow.2 ι.length h'
      rw [List.getElem?_eq_none (Nat.le_refl _)] at this
      have h3 : ι.length < cx.ι0.length := by rw [hst.grow.1]; exact h'
      rw [List.getElem?_eq_getElem h3] at this
      cases this
    · exact h'

theorem ST.mle (hst : ST cx N ι per F H a w) : N.m ≤ ι.length := by
  rcases hst.ilen with h | h
  · exact h
  · rcases Nat.lt_or_ge ι.length N.m with h' | h'
    · exact (h ι.length (Nat.le_refl _) h').elim
    · exact h'

theorem ST.grow_push (hst : ST cx N ι per F H a w) (x : Pl) : cx.ι0.length = N.m ∧ ∀ h, h < N.m → (ι ++ x)[h]? = cx.ι0[h]? :=
  ⟨hst.grow.1, fun h hh => by rw [List.getElem?_append_left (Nat.lt_of_lt_of_le hh hst.mle)]; exact hst.grow.2 h hh⟩

theorem Kept.alloc (hk : ∀ b, cx.kp b → b < w.heap.size) (o : Obj) : Kept cx.kp w (w.alloc o) :=
  ⟨rfl, rfl, rfl, by simp, Step.alloc hk o, fun b o' hb _ => (Below.heap_alloc _ _ _ (lt_of_get hb)).trans hb, Nat.le_refl _⟩

theorem pl_push (x : Option (Nat × Nat)) : ∀ (h : Nat) (b : Nat × Nat), ι[h]? = some (some b) → (ι ++ [x])[h]? = some (some b) := by
  intro h b hb
  have : h < ι.length := by
    rcases Nat.lt_or_ge h ι.length with h' | h'
    · exact h'
    · simp [List.getElem?_eq_none h'] at hb
  rw [List.getElem?_append_left this]; exact hb

theorem row_some {h : Nat} {cs : List LV} (hr : row H h = some cs) : H[h]? = some (some cs) := by
  unfold row at hr
  split at hr
  · rename_i x hx; obtain rfl := Option.some.inj hr; exact hx
  · cases hr

theorem get_push {H : Hp} {r : Option (List LV)} {h : Nat} {cs : List LV} (hh : (H ++ [r])[h]? = some (some cs)) : H[h]? = some (some cs) ∨ (h = H.length ∧ r = some cs) := by
  rcases Nat.lt_trichotomy h H.length with h1 | h1 | h1
  · rw [List.getElem?_append_left h1] at hh; exact .inl hh
  · subst h1; simp at hh; exact .inr ⟨rfl, hh⟩
  · rw [List.getElem?_append_right (by omega)] at hh
    obtain ⟨m, hm⟩ : ∃ m, h - H.length = m + 1 := ⟨h - H.length - 1, by omega⟩
    rw [hm] at hh
    simp at hh

/-- Row a is not made yet. -/
def Vac (N : Dim) (ι : Pl) (H : Hp) (a : Nat) : Prop := N.m ≤ a ∧ H[a]? = some none ∧ ι[a]? = some none

/-- One more row, not made yet. -/
theorem ST.ext1 (hst : ST cx N ι per F H a w) : ST cx N (ι ++ [none]) per F (H ++ [none]) a w ∧ Vac N (ι ++ [none]) (H ++ [none]) H.length := by
  have hl := hst.rep.len
  refine ⟨⟨⟨by simp [hl], hst.rep.perlt, fun h ds hh => ?_, fun h h' ds ds' b o b' o' hh hh' hi hi' hbb => ?_⟩, hst.p1, hst.p2, hst.fr.step (Step.refl _ _) (pl_push _), hst.size, hst.defers, hst.below, hst.bs, hst.grow_push _⟩,
    by rw [← hl]; exact hst.mle, by simp, by rw [← hl]; simp⟩
  · rcases get_push hh with h1 | ⟨_, h1⟩
    · rcases hst.rep.live h ds h1 with ⟨h2, h3⟩ | ⟨b, o, c', e', h2, h3, h4, h5, h6, h7⟩
      · refine .inl ⟨?_, h3⟩
        have : h < ι.length := by
          rcases Nat.lt_or_ge h ι.length with h' | h'
          · exact h'
          · simp [List.getElem?_eq_none h'] at h2
        rw [List.getElem?_append_left this]; exact h2
      · exact .inr ⟨b, o, c', e', pl_push _ _ _ h2, h3, h4, h5, h6, fun i hi => (h7 i hi).step (Step.refl _ _) (fun _ h => h) (pl_push _)⟩
    · cases h1
  · have old : ∀ (k : Nat) (d : List LV) (x y : Nat), H[k]? = some (some d) → (ι ++ [none])[k]? = some (some (x, y)) → ι[k]? = some (some (x, y)) := by
      intro k d x y hk hx
      have hkl : k < ι.length := by
        rw [hl]
        rcases Nat.lt_or_ge k H.length with h' | h'
        · exact h'
        · simp [List.getElem?_eq_none h'] at hk
      rw [List.getElem?_append_left hkl] at hx
      exact hx
    rcases get_push hh with h1 | ⟨_, h1⟩
    · rcases get_push hh' with h2 | ⟨_, h2⟩
      · exact hst.rep.inj h h' ds ds' b o b' o' h1 h2 (old _ _ _ _ h1 hi) (old _ _ _ _ h2 hi') hbb
      · cases h2
    · cases h1

theorem vac_set {N : Dim} {n : Nat} (hv : Vac N ι H n) (x : Option (Nat × Nat)) : (∀ (h : Nat) (b : Nat × Nat), ι[h]? = some (some b) → (ι.set n x)[h]? = some (some b)) ∧ (ι.set n x)[n]? = some x := by
  refine ⟨fun h b hb => ?_, ?_⟩
  · rw [List.getElem?_set_ne]
    · exact hb
    · intro e; subst e; rw [hv.2.2] at hb; cases hb
  · have : n < ι.length := by
      rcases Nat.lt_or_ge n ι.length with h' | h'
      · exact h'
      · have := hv.2.2; simp [List.getElem?_eq_none h'] at this
    simp [this]

theorem get_set {H : Hp} {r : Option (List LV)} {k h : Nat} {cs : List LV} (hk : k < H.length) (hh : (H.set k r)[h]? = some (some cs)) : (h = k ∧ r = some cs) ∨ (h ≠ k ∧ H[h]? = some (some cs)) := by
  by_cases e : h = k
  · subst e; simp [hk] at hh; exact .inl ⟨rfl, hh⟩
  · rw [List.getElem?_set_ne (fun x => e x.symm)] at hh; exact .inr ⟨e, hh⟩

theorem lt_row {h : Nat} {cs : List LV} (hh : H[h]? = some (some cs)) : h < H.length := by
  rcases Nat.lt_or_ge h H.length with h' | h'
  · exact h'
  · simp [List.getElem?_eq_none h'] at hh

/-- A row written in place. -/
theorem ST.row (hst : ST cx N ι per F H a w) {h : Nat} {cs cs' : List LV} {b o : Nat} {c c' : Array Value} {e : TypeId × Nat × Nat} (hh : H[h]? = some (some cs)) (hi : ι[h]? = some (some (b, o)))
    (hc : Live w b c e) (hbb : ¬ cx.kp b) (hb : ¬ per b) (hs : c'.size = c.size) (hl : o + cs'.length ≤ c.size) (hv : ∀ i (hi : i < cs'.length), VR w per ι cs'[i] (c'.getD (o + i) undef)) :
    ST cx N ι per F (H.set h (some cs')) a (setBlk w b (.cells c' e.1 e.2)) := by
  have hstep := Step.blk (per := per) hc.1 hb hs
  have hlt := lt_row hh
  have hblt := lt_of_get hc.1
  have hBelow : Kept cx.kp w (setBlk w b (.cells c' e.1 e.2)) := ⟨rfl, rfl, rfl, by rw [setBlk_size]; exact Nat.le_refl _, Step.blk hc.1 hbb hs, fun k o' hk ho => by rw [setBlk_get, if_neg (fun e' => by subst e'; rw [hc.1] at hk; cases hk; cases ho)]; exact hk, Nat.le_refl _⟩
  refine ⟨⟨by simp [hst.rep.len], fun k hk => by rw [setBlk_size]; exact hst.rep.perlt k hk, fun k ds hk => ?_, fun k k' ds ds' x y x' y' hk hk' hx hx' hxx => ?_⟩, hst.p1, hst.p2,
    hst.fr.step hstep (fun _ _ h => h), hst.size, hst.defers.keep hBelow, hst.below.trans hBelow, fun b hb => by rw [setBlk_size]; exact hst.bs b hb, hst.grow⟩
  · rcases get_set hlt hk with ⟨rfl, h1⟩ | ⟨hne, h1⟩
    · simp only [Option.some.injEq] at h1
      subst h1
      refine .inr ⟨b, o, c', e, hi, hbb, hb, ⟨?_, by rw [hs]; exact hc.2⟩, by omega, fun i hi => (hv i hi).step hstep (fun _ h => h) (fun _ _ h => h)⟩
      rw [setBlk_get]; simp [hblt]
    · rcases hst.rep.live k ds h1 with ⟨h2, h3⟩ | ⟨b2, o2, c2, e2, h2, h3, h4, h5, h6, h7⟩
      · exact .inl ⟨h2, h3⟩
      · refine .inr ⟨b2, o2, c2, e2, h2, h3, h4, h5.get ?_, h6, fun i hi => (h7 i hi).step hstep (fun _ h => h) (fun _ _ h => h)⟩
        rw [setBlk_get, if_neg]
        · intro e3
          exact hne (hst.rep.inj k h ds cs b2 o2 b o h1 hh h2 hi e3.symm)
  · have old : ∀ (k : Nat) (d : List LV), (H.set h (some cs'))[k]? = some (some d) → ∃ d', H[k]? = some (some d') := by
      intro k d hk
      rcases get_set hlt hk with ⟨rfl, _⟩ | ⟨_, h1⟩
      · exact ⟨cs, hh⟩
      · exact ⟨d, h1⟩
    obtain ⟨d1, h1⟩ := old k ds hk
    obtain ⟨d2, h2⟩ := old k' ds' hk'
    exact hst.rep.inj k k' d1 d2 x y x' y' h1 h2 hx hx' hxx

/-- A row is made at number n; perhaps another, of number k, is void from now on. -/
theorem ST.place (hst : ST cx N ι per F H a w) {w' : World} {n : Nat} (hv : Vac N ι H n) {k : Option Nat} {cs' : List LV} {x : Option (Nat × Nat)}
    (hstep : Step per w w') (hBelow : Kept cx.kp w w')
    (hnew : (x = none ∧ cs' = []) ∨ ∃ b o c' e, x = some (b, o) ∧ ¬ cx.kp b ∧ ¬ per b ∧ Live w' b c' e ∧ o + cs'.length ≤ c'.size ∧
      (∀ i (hi : i < cs'.length), VR w' per ι cs'[i] (c'.getD (o + i) undef)) ∧ ∀ (j : Nat) (ds : List LV) (p q : Nat), k ≠ some j → H[j]? = some (some ds) → ι[j]? = some (some (p, q)) → p ≠ b)
    (hoth : ∀ (j : Nat) (ds : List LV) (p q : Nat), k ≠ some j → H[j]? = some (some ds) → ι[j]? = some (some (p, q)) → w'.heap[p]? = w.heap[p]?) :
    ST cx N (ι.set n x) per F ((match k with | some k => H.set k none | none => H).set n (some cs')) a w' := by
  obtain ⟨hι, hself⟩ := vac_set hv x
  have hl := hst.rep.len
  have hnl : n < H.length := by
    rcases Nat.lt_or_ge n H.length with h' | h'
    · exact h'
    · have := hv.2.1; simp [List.getElem?_eq_none h'] at this
  obtain ⟨H1, hH1⟩ : ∃ H1, H1 = (match k with | some k => H.set k none | none => H) := ⟨_, rfl⟩
  have hH1l : H1.length = H.length := by subst hH1; cases k <;> simp
  have old1 : ∀ (j : Nat) (ds : List LV), H1[j]? = some (some ds) → k ≠ some j ∧ H[j]? = some (some ds) := by
    intro j ds hj
    subst hH1
    cases k with
    | none => exact ⟨by simp, hj⟩
    | some k =>
      simp only at hj
      rw [List.getElem?_set] at hj
      split at hj
      · split at hj
        · simp at hj
        · cases hj
      · rename_i hne
        exact ⟨fun e => hne (Option.some.inj e), hj⟩
  rw [← hH1]
  have old : ∀ (j : Nat) (ds : List LV), (H1.set n (some cs'))[j]? = some (some ds) → (j = n ∧ ds = cs') ∨ (j ≠ n ∧ k ≠ some j ∧ H[j]? = some (some ds)) := by
    intro j ds hj
    rw [List.getElem?_set] at hj
    split at hj
    · rename_i e
      subst e
      rw [if_pos (by rw [hH1l]; exact hnl)] at hj
      exact .inl ⟨rfl, (Option.some.inj (Option.some.inj hj)).symm⟩
    · rename_i hne
      obtain ⟨h1, h2⟩ := old1 j ds hj
      exact .inr ⟨fun e => hne e.symm, h1, h2⟩
  have oldι : ∀ (j : Nat) (y : Option (Nat × Nat)), j ≠ n → (ι.set n x)[j]? = some y → ι[j]? = some y := by
    intro j y hne hy
    rwa [List.getElem?_set_ne (fun e => hne e.symm)] at hy
  refine ⟨⟨by simp [hl, hH1l], fun j hj => Nat.lt_of_lt_of_le (hst.rep.perlt j hj) hBelow.size, fun j ds hj => ?_, fun j j' ds ds' p q p' q' hj hj' hx hx' hxx => ?_⟩, hst.p1, hst.p2,
    hst.fr.step hstep hι, hst.size, hst.defers.keep hBelow, hst.below.trans hBelow, fun b hb => Nat.lt_of_lt_of_le (hst.bs b hb) hBelow.size, hst.grow.1, fun h hh => ?_⟩
  · rcases old j ds hj with ⟨rfl, rfl⟩ | ⟨hne, hk, h1⟩
    · rcases hnew with ⟨rfl, rfl⟩ | ⟨b, o, c', e, rfl, g1, g2, g3, g4, g5, _⟩
      · exact .inl ⟨hself, rfl⟩
      · exact .inr ⟨b, o, c', e, hself, g1, g2, g3, g4, fun i hi => (g5 i hi).step (Step.refl _ _) (fun _ h => h) hι⟩
    · rcases hst.rep.live j ds h1 with ⟨h2, h3⟩ | ⟨b2, o2, c2, e2, h2, h3, h4, h5, h6, h7⟩
      · refine .inl ⟨?_, h3⟩
        rw [List.getElem?_set_ne (fun e => hne e.symm)]; exact h2
      · refine .inr ⟨b2, o2, c2, e2, hι _ _ h2, h3, h4, h5.get (hoth j ds b2 o2 hk h1 h2), h6, fun i hi => (h7 i hi).step hstep (fun _ h => h) hι⟩
  · rcases old j ds hj with ⟨rfl, rfl⟩ | ⟨hne, hk, h1⟩ <;> rcases old j' ds' hj' with ⟨rfl, rfl⟩ | ⟨hne', hk', h1'⟩
    · rfl
    · rw [hself] at hx
      rcases hnew with ⟨rfl, rfl⟩ | ⟨b, o, c', e, rfl, g1, g2, g3, g4, g5, g6⟩
      · cases hx
      · simp only [Option.some.injEq, Prod.mk.injEq] at hx
        exact absurd (by rw [← hxx]; exact hx.1.symm) (g6 j' ds' p' q' hk' h1' (oldι _ _ hne' hx'))
    · rw [hself] at hx'
      rcases hnew with ⟨rfl, rfl⟩ | ⟨b, o, c', e, rfl, g1, g2, g3, g4, g5, g6⟩
      · cases hx'
      · simp only [Option.some.injEq, Prod.mk.injEq] at hx'
        exact absurd (by rw [hxx]; exact hx'.1.symm) (g6 j ds p q hk h1 (oldι _ _ hne hx))
    · exact hst.rep.inj j j' ds ds' p q p' q' h1 h1' (oldι _ _ hne hx) (oldι _ _ hne' hx') hxx
  · rw [List.getElem?_set_ne]
    · exact hst.grow.2 h hh
    · intro e; have := hv.1; omega

/-- A new row. -/
theorem ST.alloc (hst : ST cx N ι per F H a w) {n : Nat} (hv : Vac N ι H n) {c : Array Value} {e : TypeId} {cs : List LV} (hl : cs.length ≤ c.size) (hvr : ∀ i (hi : i < cs.length), VR w per ι cs[i] (c.getD i undef)) :
    ST cx N (ι.set n (some (w.heap.size, 0))) per F (H.set n (some cs)) a (w.alloc (.cells c e)) := by
  have hs := Step.alloc (w := w) hst.rep.perlt (.cells c e)
  have hnew : (w.alloc (.cells c e)).heap[w.heap.size]? = some (.cells c e (0, 0)) := by
    show (w.heap.push _)[w.heap.size]? = _
    rw [Array.getElem?_push_size]
  have blk : ∀ (j : Nat) (ds : List LV) (p q : Nat), H[j]? = some (some ds) → ι[j]? = some (some (p, q)) → p < w.heap.size := by
    intro j ds p q hj hp
    rcases hst.rep.live j ds hj with ⟨h2, _⟩ | ⟨b, o, c', e', h2, _, _, h5, _⟩
    · rw [h2] at hp; cases hp
    · rw [h2] at hp
      simp only [Option.some.injEq, Prod.mk.injEq] at hp
      have := lt_of_get h5.1
      omega
  exact hst.place (k := none) hv hs (Kept.alloc hst.bs _) (.inr ⟨w.heap.size, 0, c, (e, 0, 0), rfl, fun hp => absurd (hst.bs _ hp) (Nat.lt_irrefl _), fun hp => absurd (hst.rep.perlt _ hp) (Nat.lt_irrefl _), .of hnew, by omega,
    fun i hi => by rw [Nat.zero_add]; exact (hvr i hi).step hs (fun _ h => h) (fun _ _ h => h), fun j ds p q _ hj hp => by have := blk j ds p q hj hp; omega⟩)
    (fun j ds p q _ hj hp => Below.heap_alloc _ _ _ (blk j ds p q hj hp))

theorem ST.same {w' : World} (hst : ST cx N ι per F H a w) (h : w'.heap = w.heap) (ho : w'.os = w.os) (ht : w'.tape = w.tape) (hp : w'.output = w.output) (hdr : w.drawn ≤ w'.drawn) : ST cx N ι per F H a w' := by
  have hs : Step per w w' := Step.heap h
  have hBelow : Kept cx.kp w w' := ⟨ho, ht, hp, by rw [h]; exact Nat.le_refl _, Step.heap h, fun b o hb _ => by rw [h]; exact hb, hdr⟩
  refine ⟨⟨hst.rep.len, fun b hb => by rw [h]; exact hst.rep.perlt b hb, fun k ds hk => ?_, hst.rep.inj⟩, hst.p1, hst.p2, hst.fr.step hs (fun _ _ h => h), hst.size, hst.defers.keep hBelow,
    hst.below.trans hBelow, by rw [h]; exact hst.bs, hst.grow⟩
  rcases hst.rep.live k ds hk with h1 | ⟨b, o, c, e, h1, h2, h3, h4, h5, h6⟩
  · exact .inl h1
  · exact .inr ⟨b, o, c, e, h1, h2, h3, h4.get (by rw [h]), h5, fun i hi => (h6 i hi).step hs (fun _ h => h) (fun _ _ h => h)⟩

/-- What lies in cells lies as it lay. -/
def SameCells (w w' : World) : Prop := ∀ (b : Nat) (c : Array Value) (e : TypeId) (fz : Nat × Nat), w.heap[b]? = some (.cells c e fz) → w'.heap[b]? = some (.cells c e fz)

theorem SameCells.trans {a b c : World} (h : SameCells a b) (k : SameCells b c) : SameCells a c := fun x cs e fz hx => k x cs e fz (h x cs e fz hx)

theorem SameCells.cell {w' : World} (h : SameCells w w') {p : Addr} {v : Value} (hv : w.cell? p = some v) : w'.cell? p = some v := by
  unfold World.cell? at hv ⊢
  split at hv
  · rename_i c e fz hb; rw [h _ _ _ _ hb]; exact hv
  · cases hv

theorem SameCells.room {w' : World} (h : SameCells w w') {b n : Nat} (hr : Room w b n) : Room w' b n := by
  obtain ⟨c, e, fz, h1, h2⟩ := hr
  exact ⟨c, e, fz, h _ _ _ _ h1, h2⟩

theorem VR.nc {w' : World} (hc : SameCells w w') {ι : Pl} {x : LV} {v : Value} (h : VR w per ι x v) : VR w' per ι x v := by
  induction h with
  | dead v => exact .dead v
  | und => exact .und
  | bool b => exact .bool b
  | int k n => exact .int k n
  | str s => exact .str s
  | nilp => exact .nilp
  | ptr h => exact .ptr h
  | pp vs hpb h1 hv ih => exact .pp vs hpb (fun i h => hc.cell (h1 i h)) ih
  | nils => exact .nils
  | sl h1 h2 h3 => exact .sl h1 h2 (hc.room h3)
  | slz => exact .slz
  | psz => exact .psz
  | ps vs hpb hn hl h1 hv ih => exact .ps vs hpb hn hl (fun i h => hc.cell (h1 i h)) ih
  | nilf => exact .nilf
  | fn hn hv ih => exact .fn hn ih
  | yld l => exact .yld l
  | agg hn hv ih => exact .agg hn ih
  | tup hn hv ih => exact .tup hn ih

theorem Rep.nc {kp : Nat → Prop} {w' : World} (hc : SameCells w w') (hs : w.heap.size ≤ w'.heap.size) (h : Rep kp w ι per H) : Rep kp w' ι per H :=
  ⟨h.len, fun b hb => Nat.lt_of_lt_of_le (h.perlt b hb) hs, fun k cs hk => by
    rcases h.live k cs hk with h1 | ⟨b, o, c, e, h1, h2, h3, h4, h5, h6⟩
    · exact .inl h1
    · exact .inr ⟨b, o, c, e, h1, h2, h3, ⟨hc _ _ _ _ h4.1, h4.2⟩, h5, fun i hi => (h6 i hi).nc hc⟩, h.inj⟩

/-- What is no cells turns. -/
theorem ST.nc {w' : World} (hst : ST cx N ι per F H a w) (hc : SameCells w w') (hs : w.heap.size ≤ w'.heap.size) {a' : Act} (ha : a'.tmps = a.tmps) (hd : DF cx N.rd N.y a'.defers w') (hk : Kept cx.kp cx.w0 w') : ST cx N ι per F H a' w' :=
  ⟨hst.rep.nc hc hs, hst.p1, hst.p2, fun t => by rw [ha]; exact (hst.fr t).nc hc, by rw [ha]; exact hst.size, hd, hk, fun b hb => Nat.lt_of_lt_of_le (hst.bs b hb) hs, hst.grow⟩

theorem SameCells.putObj {l : Nat} {o : Obj} (h : w.heap[l]? = some o) (ho : isCells o = false) (o' : Obj) : SameCells w (w.putObj l o') := fun b c e fz hb => by
  rw [World.putObj_heap_other (fun e => by subst e; rw [h] at hb; cases hb; cases ho)]; exact hb

theorem SameCells.alloc (w : World) (o : Obj) : SameCells w (w.alloc o) := fun b c e fz hb => (Below.heap_alloc _ _ _ (lt_of_get hb)).trans hb

/-- A block that was not there when the walk began, no cells, turns. -/
theorem Kept.put {kp : Nat → Prop} {w0 w : World} (hk : Kept kp w0 w) {l : Nat} {o : Obj} (h : w.heap[l]? = some o) (ho : isCells o = false) (hl : w0.heap.size ≤ l) (hkl : ¬ kp l) (o' : Obj) : Kept kp w0 (w.putObj l o') :=
  ⟨hk.os, hk.tape, hk.output, by simpa using hk.size, ⟨fun b hb => by rw [World.putObj_heap_other (fun e => hkl (by subst e; exact hb))]; exact hk.step.same b hb, fun b n hr => (SameCells.putObj h ho o').room (hk.step.room b n hr)⟩, fun b o2 hb ho2 => by
    rw [World.putObj_heap_other (fun e => by subst e; have := lt_of_get hb; omega)]; exact hk.oth b o2 hb ho2, hk.drawn⟩

end
end Go.Lite
