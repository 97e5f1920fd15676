/- Lite, parts K. -/
import Derived.Test.YtbaepacihkgalaaLiteD
import Derived.Laws.BytesArg
set_option linter.unusedVariables false
set_option linter.unusedSimpArgs false

/- Lite, part E: memory of the call's own: reading, writing, making rows; append and copy. -/
namespace Go.Lite
open Go Go.RowKit
set_option linter.unusedVariables false

def solid : LV → Bool
  | .dead | .und | .agg _ | .tup _ => false
  | _ => true

/-- The row behind a handle. -/
def row (H : Hp) (h : Nat) : Option (List LV) :=
  match H[h]? with
  | some (some cs) => some cs
  | _ => none

def putC (cs : List LV) (off : Nat) : List LV → List LV
  | [d] => cs.set off d
  | ds => putCells cs off ds

def zerosL (n : Nat) : List LV → List LV
  | [z] => List.replicate n z
  | zs => (List.replicate n zs).flatten

def u8s : List LV → Option (List Int)
  | [] => some []
  | .int .u8 n :: r => (match u8s r with | some l => some (n :: l) | none => none)
  | _ => none
/-- The bytes of a slice. -/
def bytesAt (H : Hp) : LV → Option (List Int)
  | .nils => some []
  | .ps sz _ cs => if sz = 1 then u8s cs else none
  | .sl sz h o n => if sz = 1 then (match row H h with | some cs => if o + n ≤ cs.length then u8s ((cs.drop o).take n) else none | none => none) else none
  | _ => none
theorem u8s_len : ∀ {cs : List LV} {ns : List Int}, u8s cs = some ns → ns.length = cs.length ∧ ∀ i (h1 : i < cs.length) (h2 : i < ns.length), cs[i] = .int .u8 ns[i]
  | [], ns, h => by simp only [u8s, Option.some.injEq] at h; subst h; simp
  | c :: r, ns, h => by
    unfold u8s at h
    split at h
    · rename_i h1; cases h1
    · rename_i n r' h1
      cases h1
      split at h
      · rename_i l hl
        obtain rfl := Option.some.inj h
        obtain ⟨g1, g2⟩ := u8s_len hl
        refine ⟨by simp [g1], fun i h1 h2 => ?_⟩
        cases i with
        | zero => rfl
        | succ i => exact g2 i (by simpa using h1) (by simpa using h2)
      · cases h
    · cases h
theorem u8s_map : ∀ (ns : List Int), u8s (ns.map (LV.int .u8)) = some ns
  | [] => rfl
  | n :: r => by simp only [List.map_cons, u8s, u8s_map r]

/-- The operations that read. -/
def loadOp (τ : TT) (F : Fr) (H : Hp) : Op → Option LV
  | .convert s d x => if Nat.beq (τ.nilk s) 3 then (match τ d with
    | some ⟨.str, _, _, _⟩ => (match bytesAt H (evalO F x) with | some ns => some (.str (strOfNums ns)) | none => none)
    | _ => none) else none
  | .load t x => match τ t, evalO F x with
    | some ti, .ptr h o => (match row H h with | some cs => lpart ti.agg ti.size cs o | none => none)
    | some ti, .pp cs => lpart ti.agg ti.size cs 0
    | _, _ => none
  | .slice t x lo hi none => match τ t, evalO F x with
    | some ⟨.arr m esz _, _, _, _⟩, .ptr h o => (match row H h, sliceBnds m (lo.map (evalO F)) (hi.map (evalO F)) with
      | some cs, some (l, r) => if o + m * esz ≤ cs.length ∧ l < m then some (.sl esz h (o + l * esz) (r - l)) else none
      | _, _ => none)
    | some ⟨.arr m esz _, _, _, _⟩, .pp cs => (match sliceBnds m (lo.map (evalO F)) (hi.map (evalO F)) with
      | some (l, r) => if m * esz ≤ cs.length ∧ l < m then some (.ps esz (r - l) ((cs.drop (l * esz)).take ((r - l) * esz))) else none
      | none => none)
    | _, _ => none
  | _ => none

/-- The cells of a source of append or copy, and how many elements they are. -/
def srcCells (H : Hp) (esz : Nat) : LV → Option (Nat × List LV)
  | .nils => some (0, [])
  | .ps sz n cs => if sz = esz then some (n, cs) else none
  | .sl sz h o n => if sz = esz then (match row H h with | some cs => if o + n * sz ≤ cs.length then some (n, (cs.drop o).take (n * sz)) else none | none => none) else none
  | .str s => if esz = 1 then some (s.size, s.data.toList.map fun b => .int .u8 b.toNat) else none
  | _ => none

/-- Rows laid anew. -/
def applyWs (H : Hp) : List (Nat × Option (List LV)) → Hp
  | [] => H
  | (h, r) :: ws => applyWs (H.set h r) ws

/-- The operations that make or write memory; a new row has the number a. Value, rows laid anew. -/
def effOp (τ : TT) (F : Fr) (H : Hp) (a : Nat) : Op → Option (LV × List (Nat × Option (List LV)))
  | .store t x y => match τ t, evalO F x, lcells (evalO F y) with
    | some ti, .ptr h o, some ds => (match row H h with
      | some cs => if ds.length = ti.size ∧ o + ds.length ≤ cs.length ∧ ds.all solid = true then some (.und, [(h, some (putC cs o ds))]) else none
      | none => none)
    | _, _, _ => none
  | .alloc t => match τ t with
    | some ti => some (.ptr a 0, [(a, some ti.zero)])
    | none => none
  | .box t x => match lcells (evalO F x) with
    | some cs => some (.ptr a 0, [(a, some cs)])
    | none => none
  | .buildSlice t len parts => match τ t with
    | some ⟨.slice esz _ ez, _, _, _⟩ =>
      if len * esz ≤ 16777216 then
        (match lfill (fun i => some (i * esz, esz)) (zerosL len ez) (parts.toList.map fun p => (p.1, evalO F p.2)) with
        | some cs => some (.sl esz a 0 len, [(a, some cs)])
        | none => none)
      else none
    | _ => none
  | .makeSlice t l c => match τ t, evalO F l, evalO F c with
    | some ⟨.slice esz eb ez, _, _, _⟩, .int _ n, .int _ m =>
      if 0 ≤ n ∧ n ≤ m ∧ m ≤ 281474976710656 ∧ eb * m ≤ 281474976710656 then some (.sl esz a 0 n.toNat, [(a, some (zerosL n.toNat ez))]) else none
    | _, _, _ => none
  | .call ⟨.builtin .append, args, argTypes⟩ => match argTypes[0]?, argTypes[1]?, args[0]?, args[1]? with
    | some t, some u, some x, some y => match τ t, τ u with
      | some ⟨.slice esz eb _, _, _, _⟩, some ⟨ud, _, _, _⟩ =>
        (match ud with
        | .int _ => none
        | _ => match srcCells H esz (evalO F y), evalO F x with
          | some (n, xs), .nils => if n * eb ≤ 140737488355328 ∧ n ≤ 140737488355328 then some (.sl esz a 0 n, [(a, some xs)]) else none
          | some (n, xs), .sl sz h o m => (match row H h with
            | some cs => if sz = esz ∧ o + m * sz ≤ cs.length ∧ (m + n) * eb ≤ 140737488355328 ∧ m + n ≤ 140737488355328 ∧ xs.all solid = true then
                some (.sl sz a 0 (m + n), [(h, none), (a, some (((cs.drop o).take (m * sz)) ++ xs))]) else none
            | none => none)
          | _, _ => none)
      | _, _ => none
    | _, _, _, _ => none
  | .call ⟨.builtin .copy, args, argTypes⟩ => match argTypes[0]?, args[0]?, args[1]? with
    | some t, some x, some y => match τ t with
      | some ⟨.slice esz eb _, _, _, _⟩ => (match evalO F x, srcCells H esz (evalO F y) with
        | .sl sz h o m, some (n, xs) => (match row H h with
          | some cs => if sz = esz ∧ o + m * sz ≤ cs.length ∧ xs.all solid = true then some (.int .i64 (Nat.min n m), [(h, some (putCells cs o (xs.take (Nat.min n m * sz))))]) else none
          | none => none)
        | _, _ => none)
      | _ => none
    | _, _, _ => none
  | .call ⟨.builtin .clear, args, argTypes⟩ => match argTypes[0]?, args[0]? with
    | some t, some x => match τ t, evalO F x with
      | some ⟨.slice esz _ ez, _, _, _⟩, .sl sz h o m => (match row H h with
        | some cs => if sz = esz ∧ o + m * sz ≤ cs.length ∧ ez.all solid = true then some (.tup [], [(h, some (putCells cs o (zerosL m ez)))]) else none
        | none => none)
      | _, _ => none
    | _, _ => none
  | _ => none

/-- It makes a row. -/
def makes : Op → Bool
  | .alloc _ | .box _ _ | .buildSlice _ _ _ | .makeSlice _ _ _ | .call ⟨.builtin .append, _, _⟩ => true
  | _ => false

/-- The rows with one more, not made yet. -/
def more (op : Op) (H : Hp) : Hp := if makes op then H ++ [none] else H

/-- The same where the next number is taken. -/
def effN (τ : TT) (F : Fr) (H : Hp) (op : Op) : Option (LV × Hp) :=
  match effOp τ F (more op H) H.length op with
  | some (x, ws) => some (x, applyWs (more op H) ws)
  | none => none

section
variable {w : World} {ι ι' : Pl} {per : Nat → Prop}

theorem VR.one {x : LV} {v : Value} (hv : VR w per ι x v) (hs : solid x = true) : v.oneCell' = true := by
  cases hv <;> first | rfl | exact fnV_one | (simp [solid] at hs)

end

/-- A block laid anew. -/
def setBlk (w : World) (b : Nat) (o : Obj) : World := { w with heap := w.heap.setIfInBounds b o }

theorem lt_of_get {w : World} {b : Nat} {o : Obj} (h : w.heap[b]? = some o) : b < w.heap.size := by
  rcases Nat.lt_or_ge b w.heap.size with h' | h'
  · exact h'
  · simp [Array.getElem?_eq_none h'] at h

theorem setCell_blk {w : World} {b o : Nat} {c : Array Value} {e : TypeId} {fz : Nat × Nat} {v : Value} (h : w.heap[b]? = some (.cells c e fz)) :
    w.setCell ⟨b, o, none⟩ v = setBlk w b (.cells (c.setIfInBounds o v) e fz) := by
  have hb := lt_of_get h
  unfold World.setCell setBlk
  congr 1
  apply Array.ext_getElem?
  intro i
  simp only [Array.getElem?_modify, Array.getElem?_setIfInBounds]
  by_cases hi : b = i
  · subst hi
    rw [if_pos rfl, if_pos rfl, if_pos hb, h]
    rfl
  · simp [hi]

theorem cell_of_blk {w : World} {b o : Nat} {c : Array Value} {e : TypeId} {fz : Nat × Nat} (h : w.heap[b]? = some (.cells c e fz)) : w.cell? ⟨b, o, none⟩ = c[o]? := by
  simp [World.cell?, h]

theorem setBlk_get {w : World} {b k : Nat} {o : Obj} : (setBlk w b o).heap[k]? = if b = k then (if b < w.heap.size then some o else none) else w.heap[k]? := by
  unfold setBlk
  simp only [Array.getElem?_setIfInBounds]

theorem setBlk_size {w : World} {b : Nat} {o : Obj} : (setBlk w b o).heap.size = w.heap.size := by simp [setBlk]

theorem setBlk_setBlk {w : World} {b : Nat} {o o' : Obj} : setBlk (setBlk w b o) b o' = setBlk w b o' := by
  unfold setBlk
  simp

theorem setBlk_same {w : World} {b : Nat} {o : Obj} (h : w.heap[b]? = some o) : setBlk w b o = w := by
  have hb := lt_of_get h
  unfold setBlk
  have : w.heap.setIfInBounds b o = w.heap := by
    apply Array.ext_getElem?
    intro i
    simp only [Array.getElem?_setIfInBounds]
    by_cases hi : b = i
    · subst hi
      rw [if_pos rfl, if_pos hb, h]
    · simp [hi]
  rw [this]

/-- Cells stored one behind the other. -/
theorem run_storeCells {P : Program} {b o : Nat} {e : TypeId × Nat × Nat} (vs : List Value) : ∀ (i : Nat) (w : World) (c : Array Value), Live w b c e → o + i + vs.length ≤ c.size →
    (∀ v ∈ vs, v.oneCell' = true) → ∃ c' : Array Value, (storeCells ⟨b, o, none⟩ vs i).run P w = .ok () (setBlk w b (.cells c' e.1 e.2)) ∧ c'.size = c.size ∧
      ∀ k, c'.getD k undef = if o + i ≤ k ∧ k < o + i + vs.length then vs.getD (k - (o + i)) undef else c.getD k undef := by
  induction vs with
  | nil =>
    intro i w c h _ _
    refine ⟨c, ?_, rfl, fun k => ?_⟩
    · rw [setBlk_same h.1]; simp [storeCells]
    · rw [if_neg (by simp only [List.length_nil]; omega)]
  | cons v r ih =>
    intro i w c h hl hv
    simp only [List.length_cons] at hl
    have hcell : w.cell? ⟨b, o + i, none⟩ = some (c[o + i]'(by omega)) := by
      have : o + i < c.size := by omega
      rw [cell_of_blk h.1]; simp [this]
    have hb := lt_of_get h.1
    have hfz : w.frozen? ⟨b, o + i, none⟩ = false := by
      have h9 := h.2 (o + i) (by omega)
      simp only [World.frozen?, h.1]
      cases hd : (decide (e.2.1 ≤ o + i) && decide (o + i < e.2.2)) with
      | false => rfl
      | true => simp at hd; exact absurd hd h9
    have h2 : Live (setBlk w b (.cells (c.setIfInBounds (o + i) v) e.1 e.2)) b (c.setIfInBounds (o + i) v) e := ⟨by
      rw [setBlk_get]; simp [hb], by simpa using h.2⟩
    obtain ⟨c', hrun, hs, hg⟩ := ih (i + 1) _ _ h2 (by simp; omega) (fun u hu => hv u (List.mem_cons_of_mem _ hu))
    refine ⟨c', ?_, by rw [hs]; simp, fun k => ?_⟩
    · simp only [storeCells, Sem.run_bind, add_plain, run_store P w _ v .plain (hv v (List.mem_cons_self ..)), hcell, hfz, Bool.false_eq_true, if_false, Result.andThen_ok]
      rw [setCell_blk h.1, hrun, setBlk_setBlk]
    · rw [hg k]
      simp only [List.length_cons]
      by_cases h1 : k = o + i
      · subst h1
        rw [if_neg (by omega), if_pos (by omega)]
        have hlt : o + i < c.size := by omega
        simp [hlt]
      · by_cases h3 : o + (i + 1) ≤ k ∧ k < o + (i + 1) + r.length
        · rw [if_pos h3, if_pos (by omega)]
          have : k - (o + i) = (k - (o + (i + 1))) + 1 := by omega
          rw [this, List.getD_cons_succ]
        · rw [if_neg h3, if_neg (by omega)]
          have : (c.setIfInBounds (o + i) v).getD k undef = c.getD k undef := by
            simp only [Array.getD_eq_getD_getElem?, Array.getElem?_setIfInBounds]
            rw [if_neg (by omega)]
          exact this

theorem run_loadCells {P : Program} {w : World} {b o : Nat} (vs : Nat → Value) (n : Nat) : ∀ (i : Nat) (acc : Array Value), (∀ j, i ≤ j → j < i + n → w.cell? ⟨b, o + j, none⟩ = some (vs j)) →
    (loadCellsFrom ⟨b, o, none⟩ i n acc).run P w = .ok (acc ++ ((List.range' i n).map vs).toArray) w := by
  induction n with
  | zero => intro i acc _; simp [loadCellsFrom]
  | succ n ih =>
    intro i acc h
    simp only [loadCellsFrom, Sem.run_bind, add_plain, run_load, h i (Nat.le_refl _) (by omega), Result.andThen_ok]
    rw [ih (i + 1) _ (fun j h1 h2 => h j (by omega) (by omega))]
    simp [List.range'_succ]

end Go.Lite

/- Lite, part F: the state while memory is made and written. -/
namespace Go.Lite
open Go Go.RowKit
set_option linter.unusedVariables false

structure ST (cx : Ctx) (N : Dim) (ι : Pl) (per : Nat → Prop) (F : Fr) (H : Hp) (a : Act) (w : World) : Prop where
  rep : Rep cx.kp w ι per H
  p1 : ∀ b, per b → cx.per0 b ∨ ¬ cx.kp b
  p2 : ∀ b, cx.per0 b → per b
  fr : FR w ι per F a
  size : a.tmps.size = N.n
  defers : DF cx N.rd N.y a.defers w
  below : Kept cx.kp cx.w0 w
  bs : ∀ b, cx.kp b → b < w.heap.size
  grow : cx.ι0.length = N.m ∧ ∀ h, h < N.m → ι[h]? = cx.ι0[h]?

theorem SR.of {cx : Ctx} {N : Dim} {ι : Pl} {per : Nat → Prop} {F : Fr} {H : Hp} {a : Act} {w : World} (h : ST cx N ι per F H a w) : SR cx N F H a w :=
  ⟨ι, per, h.rep, h.p1, h.p2, h.fr, h.size, h.defers, h.below, h.bs, h.grow⟩

theorem SR.st {cx : Ctx} {N : Dim} {F : Fr} {H : Hp} {a : Act} {w : World} (h : SR cx N F H a w) : ∃ ι per, ST cx N ι per F H a w := by
  obtain ⟨ι, per, h1, h2, h3, h4, h5, h6, h7, h8, h9⟩ := h
  exact ⟨ι, per, h1, h2, h3, h4, h5, h6, h7, h8, h9⟩

section
variable {cx : Ctx} {N : Dim} {ι : Pl} {per : Nat → Prop} {F : Fr} {H : Hp} {a : Act} {w : World}

theorem Step.alloc (hp : ∀ b, per b → b < w.heap.size) (o : Obj) : Step per w (w.alloc o) := by
  refine ⟨fun b hb => Below.heap_alloc _ _ _ (hp b hb), fun b n hr => ?_⟩
  obtain ⟨c, e, fz, h1, h2⟩ := hr
  exact ⟨c, e, fz, by rw [Below.heap_alloc _ _ _ (lt_of_get h1)]; exact h1, h2⟩

theorem Step.blk {b : Nat} {c c' : Array Value} {e : TypeId} {fz : Nat × Nat} (h : w.heap[b]? = some (.cells c e fz)) (hb : ¬ per b) (hs : c'.size = c.size) :
    Step per w (setBlk w b (.cells c' e fz)) := by
  have hlt := lt_of_get h
  refine ⟨fun k hk => ?_, fun k n hr => ?_⟩
  · rw [setBlk_get, if_neg]
    intro e; subst e; exact hb hk
  · obtain ⟨d, e2, fz2, h1, h2⟩ := hr
    by_cases hk : b = k
    · subst hk
      rw [h] at h1
      simp only [Option.some.injEq, Obj.cells.injEq] at h1
      obtain ⟨rfl, rfl, rfl⟩ := h1
      exact ⟨c', e, fz, by rw [setBlk_get]; simp [hlt], by omega⟩
    · exact ⟨d, e2, fz2, by rw [setBlk_get, if_neg hk]; exact h1, h2⟩

theorem Step.heap {w' : World} (h : w'.heap = w.heap) : Step per w w' :=
  ⟨fun b _ => by rw [h], fun b n hr => by unfold Room at *; rw [h]; exact hr⟩

theorem FR.step {w' : World} {ι' : Pl} (hs : Step per w w') (hi : ∀ (h : Nat) (b : Nat × Nat), ι[h]? = some (some b) → ι'[h]? = some (some b)) (h : FR w ι per F a) : FR w' ι' per F a :=
  fun t => (h t).step hs (fun _ h => h) hi

theorem ST.ilen (hst : ST cx N ι per F H a w) : N.m ≤ ι.length ∨ ∀ h, ι.length ≤ h → h < N.m → False := by
  by_cases hx : N.m ≤ ι.length
  · exact .inl hx
  · refine .inl ?_
    rcases Nat.lt_or_ge ι.length N.m with h' | h'
    · have := hst.grow.2 ι.length h'
      rw [List.getElem?_eq_none (Nat.le_refl _)] at this
      have h3 : ι.length < cx.ι0.length := by rw [hst.grow.1]; exact h'
      rw [List.getElem?_eq_getElem h3] at this
      cases this
    · exact h'

theorem ST.mle (hst : ST cx N ι per F H a w) : N.m ≤ ι.length := by
  rcases hst.ilen with h | h
  · exact h
  · rcases Nat.lt_or_ge ι.length N.m with h' | h'
    · exact (h ι.length (Nat.le_refl _) h').elim
    · exact h'

theorem ST.grow_push (hst : ST cx N ι per F H a w) (x : Pl) : cx.ι0.length = N.m ∧ ∀ h, h < N.m → (ι ++ x)[h]? = cx.ι0[h]? :=
  ⟨hst.grow.1, fun h hh => by rw [List.getElem?_append_left (Nat.lt_of_lt_of_le hh hst.mle)]; exact hst.grow.2 h hh⟩

theorem Kept.alloc (hk : ∀ b, cx.kp b → b < w.heap.size) (o : Obj) : Kept cx.kp w (w.alloc o) :=
  ⟨rfl, rfl, rfl, by simp, Step.alloc hk o, fun b o' hb _ => (Below.heap_alloc _ _ _ (lt_of_get hb)).trans hb, Nat.le_refl _⟩

theorem pl_push (x : Option (Nat × Nat)) : ∀ (h : Nat) (b : Nat × Nat), ι[h]? = some (some b) → (ι ++ [x])[h]? = some (some b) := by
  intro h b hb
  have : h < ι.length := by
    rcases Nat.lt_or_ge h ι.length with h' | h'
    · exact h'
    · simp [List.getElem?_eq_none h'] at hb
  rw [List.getElem?_append_left this]; exact hb

theorem row_some {h : Nat} {cs : List LV} (hr : row H h = some cs) : H[h]? = some (some cs) := by
  unfold row at hr
  split at hr
  · rename_i x hx; obtain rfl := Option.some.inj hr; exact hx
  · cases hr

theorem get_push {H : Hp} {r : Option (List LV)} {h : Nat} {cs : List LV} (hh : (H ++ [r])[h]? = some (some cs)) : H[h]? = some (some cs) ∨ (h = H.length ∧ r = some cs) := by
  rcases Nat.lt_trichotomy h H.length with h1 | h1 | h1
  · rw [List.getElem?_append_left h1] at hh; exact .inl hh
  · subst h1; simp at hh; exact .inr ⟨rfl, hh⟩
  · rw [List.getElem?_append_right (by omega)] at hh
    obtain ⟨m, hm⟩ : ∃ m, h - H.length = m + 1 := ⟨h - H.length - 1, by omega⟩
    rw [hm] at hh
    simp at hh

/-- Row a is not made yet. -/
def Vac (N : Dim) (ι : Pl) (H : Hp) (a : Nat) : Prop := N.m ≤ a ∧ H[a]? = some none ∧ ι[a]? = some none

/-- One more row, not made yet. -/
theorem ST.ext1 (hst : ST cx N ι per F H a w) : ST cx N (ι ++ [none]) per F (H ++ [none]) a w ∧ Vac N (ι ++ [none]) (H ++ [none]) H.length := by
  have hl := hst.rep.len
  refine ⟨⟨⟨by simp [hl], hst.rep.perlt, fun h ds hh => ?_, fun h h' ds ds' b o b' o' hh hh' hi hi' hbb => ?_⟩, hst.p1, hst.p2, hst.fr.step (Step.refl _ _) (pl_push _), hst.size, hst.defers, hst.below, hst.bs, hst.grow_push _⟩,
    by rw [← hl]; exact hst.mle, by simp, by rw [← hl]; simp⟩
  · rcases get_push hh with h1 | ⟨_, h1⟩
    · rcases hst.rep.live h ds h1 with ⟨h2, h3⟩ | ⟨b, o, c', e', h2, h3, h4, h5, h6, h7⟩
      · refine .inl ⟨?_, h3⟩
        have : h < ι.length := by
          rcases Nat.lt_or_ge h ι.length with h' | h'
          · exact h'
          · simp [List.getElem?_eq_none h'] at h2
        rw [List.getElem?_append_left this]; exact h2
      · exact .inr ⟨b, o, c', e', pl_push _ _ _ h2, h3, h4, h5, h6, fun i hi => (h7 i hi).step (Step.refl _ _) (fun _ h => h) (pl_push _)⟩
    · cases h1
  · have old : ∀ (k : Nat) (d : List LV) (x y : Nat), H[k]? = some (some d) → (ι ++ [none])[k]? = some (some (x, y)) → ι[k]? = some (some (x, y)) := by
      intro k d x y hk hx
      have hkl : k < ι.length := by
        rw [hl]
        rcases Nat.lt_or_ge k H.length with h' | h'
        · exact h'
        · simp [List.getElem?_eq_none h'] at hk
      rw [List.getElem?_append_left hkl] at hx
      exact hx
    rcases get_push hh with h1 | ⟨_, h1⟩
    · rcases get_push hh' with h2 | ⟨_, h2⟩
      · exact hst.rep.inj h h' ds ds' b o b' o' h1 h2 (old _ _ _ _ h1 hi) (old _ _ _ _ h2 hi') hbb
      · cases h2
    · cases h1

theorem vac_set {N : Dim} {n : Nat} (hv : Vac N ι H n) (x : Option (Nat × Nat)) : (∀ (h : Nat) (b : Nat × Nat), ι[h]? = some (some b) → (ι.set n x)[h]? = some (some b)) ∧ (ι.set n x)[n]? = some x := by
  refine ⟨fun h b hb => ?_, ?_⟩
  · rw [List.getElem?_set_ne]
    · exact hb
    · intro e; subst e; rw [hv.2.2] at hb; cases hb
  · have : n < ι.length := by
      rcases Nat.lt_or_ge n ι.length with h' | h'
      · exact h'
      · have := hv.2.2; simp [List.getElem?_eq_none h'] at this
    simp [this]

theorem get_set {H : Hp} {r : Option (List LV)} {k h : Nat} {cs : List LV} (hk : k < H.length) (hh : (H.set k r)[h]? = some (some cs)) : (h = k ∧ r = some cs) ∨ (h ≠ k ∧ H[h]? = some (some cs)) := by
  by_cases e : h = k
  · subst e; simp [hk] at hh; exact .inl ⟨rfl, hh⟩
  · rw [List.getElem?_set_ne (fun x => e x.symm)] at hh; exact .inr ⟨e, hh⟩

theorem lt_row {h : Nat} {cs : List LV} (hh : H[h]? = some (some cs)) : h < H.length := by
  rcases Nat.lt_or_ge h H.length with h' | h'
  · exact h'
  · simp [List.getElem?_eq_none h'] at hh

/-- A row written in place. -/
theorem ST.row (hst : ST cx N ι per F H a w) {h : Nat} {cs cs' : List LV} {b o : Nat} {c c' : Array Value} {e : TypeId × Nat × Nat} (hh : H[h]? = some (some cs)) (hi : ι[h]? = some (some (b, o)))
    (hc : Live w b c e) (hbb : ¬ cx.kp b) (hb : ¬ per b) (hs : c'.size = c.size) (hl : o + cs'.length ≤ c.size) (hv : ∀ i (hi : i < cs'.length), VR w per ι cs'[i] (c'.getD (o + i) undef)) :
    ST cx N ι per F (H.set h (some cs')) a (setBlk w b (.cells c' e.1 e.2)) := by
  have hstep := Step.blk (per := per) hc.1 hb hs
  have hlt := lt_row hh
  have hblt := lt_of_get hc.1
  have hBelow : Kept cx.kp w (setBlk w b (.cells c' e.1 e.2)) := ⟨rfl, rfl, rfl, by rw [setBlk_size]; exact Nat.le_refl _, Step.blk hc.1 hbb hs, fun k o' hk ho => by rw [setBlk_get, if_neg (fun e' => by subst e'; rw [hc.1] at hk; cases hk; cases ho)]; exact hk, Nat.le_refl _⟩
  refine ⟨⟨by simp [hst.rep.len], fun k hk => by rw [setBlk_size]; exact hst.rep.perlt k hk, fun k ds hk => ?_, fun k k' ds ds' x y x' y' hk hk' hx hx' hxx => ?_⟩, hst.p1, hst.p2,
    hst.fr.step hstep (fun _ _ h => h), hst.size, hst.defers.keep hBelow, hst.below.trans hBelow, fun b hb => by rw [setBlk_size]; exact hst.bs b hb, hst.grow⟩
  · rcases get_set hlt hk with ⟨rfl, h1⟩ | ⟨hne, h1⟩
    · simp only [Option.some.injEq] at h1
      subst h1
      refine .inr ⟨b, o, c', e, hi, hbb, hb, ⟨?_, by rw [hs]; exact hc.2⟩, by omega, fun i hi => (hv i hi).step hstep (fun _ h => h) (fun _ _ h => h)⟩
      rw [setBlk_get]; simp [hblt]
    · rcases hst.rep.live k ds h1 with ⟨h2, h3⟩ | ⟨b2, o2, c2, e2, h2, h3, h4, h5, h6, h7⟩
      · exact .inl ⟨h2, h3⟩
      · refine .inr ⟨b2, o2, c2, e2, h2, h3, h4, h5.get ?_, h6, fun i hi => (h7 i hi).step hstep (fun _ h => h) (fun _ _ h => h)⟩
        rw [setBlk_get, if_neg]
        · intro e3
          exact hne (hst.rep.inj k h ds cs b2 o2 b o h1 hh h2 hi e3.symm)
  · have old : ∀ (k : Nat) (d : List LV), (H.set h (some cs'))[k]? = some (some d) → ∃ d', H[k]? = some (some d') := by
      intro k d hk
      rcases get_set hlt hk with ⟨rfl, _⟩ | ⟨_, h1⟩
      · exact ⟨cs, hh⟩
      · exact ⟨d, h1⟩
    obtain ⟨d1, h1⟩ := old k ds hk
    obtain ⟨d2, h2⟩ := old k' ds' hk'
    exact hst.rep.inj k k' d1 d2 x y x' y' h1 h2 hx hx' hxx

/-- A row is made at number n; perhaps another, of number k, is void from now on. -/
theorem ST.place (hst : ST cx N ι per F H a w) {w' : World} {n : Nat} (hv : Vac N ι H n) {k : Option Nat} {cs' : List LV} {x : Option (Nat × Nat)}
    (hstep : Step per w w') (hBelow : Kept cx.kp w w')
    (hnew : (x = none ∧ cs' = []) ∨ ∃ b o c' e, x = some (b, o) ∧ ¬ cx.kp b ∧ ¬ per b ∧ Live w' b c' e ∧ o + cs'.length ≤ c'.size ∧
      (∀ i (hi : i < cs'.length), VR w' per ι cs'[i] (c'.getD (o + i) undef)) ∧ ∀ (j : Nat) (ds : List LV) (p q : Nat), k ≠ some j → H[j]? = some (some ds) → ι[j]? = some (some (p, q)) → p ≠ b)
    (hoth : ∀ (j : Nat) (ds : List LV) (p q : Nat), k ≠ some j → H[j]? = some (some ds) → ι[j]? = some (some (p, q)) → w'.heap[p]? = w.heap[p]?) :
    ST cx N (ι.set n x) per F ((match k with | some k => H.set k none | none => H).set n (some cs')) a w' := by
  obtain ⟨hι, hself⟩ := vac_set hv x
  have hl := hst.rep.len
  have hnl : n < H.length := by
    rcases Nat.lt_or_ge n H.length with h' | h'
    · exact h'
    · have := hv.2.1; simp [List.getElem?_eq_none h'] at this
  obtain ⟨H1, hH1⟩ : ∃ H1, H1 = (match k with | some k => H.set k none | none => H) := ⟨_, rfl⟩
  have hH1l : H1.length = H.length := by subst hH1; cases k <;> simp
  have old1 : ∀ (j : Nat) (ds : List LV), H1[j]? = some (some ds) → k ≠ some j ∧ H[j]? = some (some ds) := by
    intro j ds hj
    subst hH1
    cases k with
    | none => exact ⟨by simp, hj⟩
    | some k =>
      simp only at hj
      rw [List.getElem?_set] at hj
      split at hj
      · split at hj
        · simp at hj
        · cases hj
      · rename_i hne
        exact ⟨fun e => hne (Option.some.inj e), hj⟩
  rw [← hH1]
  have old : ∀ (j : Nat) (ds : List LV), (H1.set n (some cs'))[j]? = some (some ds) → (j = n ∧ ds = cs') ∨ (j ≠ n ∧ k ≠ some j ∧ H[j]? = some (some ds)) := by
    intro j ds hj
    rw [List.getElem?_set] at hj
    split at hj
    · rename_i e
      subst e
      rw [if_pos (by rw [hH1l]; exact hnl)] at hj
      exact .inl ⟨rfl, (Option.some.inj (Option.some.inj hj)).symm⟩
    · rename_i hne
      obtain ⟨h1, h2⟩ := old1 j ds hj
      exact .inr ⟨fun e => hne e.symm, h1, h2⟩
  have oldι : ∀ (j : Nat) (y : Option (Nat × Nat)), j ≠ n → (ι.set n x)[j]? = some y → ι[j]? = some y := by
    intro j y hne hy
    rwa [List.getElem?_set_ne (fun e => hne e.symm)] at hy
  refine ⟨⟨by simp [hl, hH1l], fun j hj => Nat.lt_of_lt_of_le (hst.rep.perlt j hj) hBelow.size, fun j ds hj => ?_, fun j j' ds ds' p q p' q' hj hj' hx hx' hxx => ?_⟩, hst.p1, hst.p2,
    hst.fr.step hstep hι, hst.size, hst.defers.keep hBelow, hst.below.trans hBelow, fun b hb => Nat.lt_of_lt_of_le (hst.bs b hb) hBelow.size, hst.grow.1, fun h hh => ?_⟩
  · rcases old j ds hj with ⟨rfl, rfl⟩ | ⟨hne, hk, h1⟩
    · rcases hnew with ⟨rfl, rfl⟩ | ⟨b, o, c', e, rfl, g1, g2, g3, g4, g5, _⟩
      · exact .inl ⟨hself, rfl⟩
      · exact .inr ⟨b, o, c', e, hself, g1, g2, g3, g4, fun i hi => (g5 i hi).step (Step.refl _ _) (fun _ h => h) hι⟩
    · rcases hst.rep.live j ds h1 with ⟨h2, h3⟩ | ⟨b2, o2, c2, e2, h2, h3, h4, h5, h6, h7⟩
      · refine .inl ⟨?_, h3⟩
        rw [List.getElem?_set_ne (fun e => hne e.symm)]; exact h2
      · refine .inr ⟨b2, o2, c2, e2, hι _ _ h2, h3, h4, h5.get (hoth j ds b2 o2 hk h1 h2), h6, fun i hi => (h7 i hi).step hstep (fun _ h => h) hι⟩
  · rcases old j ds hj with ⟨rfl, rfl⟩ | ⟨hne, hk, h1⟩ <;> rcases old j' ds' hj' with ⟨rfl, rfl⟩ | ⟨hne', hk', h1'⟩
    · rfl
    · rw [hself] at hx
      rcases hnew with ⟨rfl, rfl⟩ | ⟨b, o, c', e, rfl, g1, g2, g3, g4, g5, g6⟩
      · cases hx
      · simp only [Option.some.injEq, Prod.mk.injEq] at hx
        exact absurd (by rw [← hxx]; exact hx.1.symm) (g6 j' ds' p' q' hk' h1' (oldι _ _ hne' hx'))
    · rw [hself] at hx'
      rcases hnew with ⟨rfl, rfl⟩ | ⟨b, o, c', e, rfl, g1, g2, g3, g4, g5, g6⟩
      · cases hx'
      · simp only [Option.some.injEq, Prod.mk.injEq] at hx'
        exact absurd (by rw [hxx]; exact hx'.1.symm) (g6 j ds p q hk h1 (oldι _ _ hne hx))
    · exact hst.rep.inj j j' ds ds' p q p' q' h1 h1' (oldι _ _ hne hx) (oldι _ _ hne' hx') hxx
  · rw [List.getElem?_set_ne]
    · exact hst.grow.2 h hh
    · intro e; have := hv.1; omega

/-- A new row. -/
theorem ST.alloc (hst : ST cx N ι per F H a w) {n : Nat} (hv : Vac N ι H n) {c : Array Value} {e : TypeId} {cs : List LV} (hl : cs.length ≤ c.size) (hvr : ∀ i (hi : i < cs.length), VR w per ι cs[i] (c.getD i undef)) :
    ST cx N (ι.set n (some (w.heap.size, 0))) per F (H.set n (some cs)) a (w.alloc (.cells c e)) := by
  have hs := Step.alloc (w := w) hst.rep.perlt (.cells c e)
  have hnew : (w.alloc (.cells c e)).heap[w.heap.size]? = some (.cells c e (0, 0)) := by
    show (w.heap.push _)[w.heap.size]? = _
    rw [Array.getElem?_push_size]
  have blk : ∀ (j : Nat) (ds : List LV) (p q : Nat), H[j]? = some (some ds) → ι[j]? = some (some (p, q)) → p < w.heap.size := by
    intro j ds p q hj hp
    rcases hst.rep.live j ds hj with ⟨h2, _⟩ | ⟨b, o, c', e', h2, _, _, h5, _⟩
    · rw [h2] at hp; cases hp
    · rw [h2] at hp
      simp only [Option.some.injEq, Prod.mk.injEq] at hp
      have := lt_of_get h5.1
      omega
  exact hst.place (k := none) hv hs (Kept.alloc hst.bs _) (.inr ⟨w.heap.size, 0, c, (e, 0, 0), rfl, fun hp => absurd (hst.bs _ hp) (Nat.lt_irrefl _), fun hp => absurd (hst.rep.perlt _ hp) (Nat.lt_irrefl _), .of hnew, by omega,
    fun i hi => by rw [Nat.zero_add]; exact (hvr i hi).step hs (fun _ h => h) (fun _ _ h => h), fun j ds p q _ hj hp => by have := blk j ds p q hj hp; omega⟩)
    (fun j ds p q _ hj hp => Below.heap_alloc _ _ _ (blk j ds p q hj hp))

theorem ST.same {w' : World} (hst : ST cx N ι per F H a w) (h : w'.heap = w.heap) (ho : w'.os = w.os) (ht : w'.tape = w.tape) (hp : w'.output = w.output) (hdr : w.drawn ≤ w'.drawn) : ST cx N ι per F H a w' := by
  have hs : Step per w w' := Step.heap h
  have hBelow : Kept cx.kp w w' := ⟨ho, ht, hp, by rw [h]; exact Nat.le_refl _, Step.heap h, fun b o hb _ => by rw [h]; exact hb, hdr⟩
  refine ⟨⟨hst.rep.len, fun b hb => by rw [h]; exact hst.rep.perlt b hb, fun k ds hk => ?_, hst.rep.inj⟩, hst.p1, hst.p2, hst.fr.step hs (fun _ _ h => h), hst.size, hst.defers.keep hBelow,
    hst.below.trans hBelow, by rw [h]; exact hst.bs, hst.grow⟩
  rcases hst.rep.live k ds hk with h1 | ⟨b, o, c, e, h1, h2, h3, h4, h5, h6⟩
  · exact .inl h1
  · exact .inr ⟨b, o, c, e, h1, h2, h3, h4.get (by rw [h]), h5, fun i hi => (h6 i hi).step hs (fun _ h => h) (fun _ _ h => h)⟩

/-- What lies in cells lies as it lay. -/
def SameCells (w w' : World) : Prop := ∀ (b : Nat) (c : Array Value) (e : TypeId) (fz : Nat × Nat), w.heap[b]? = some (.cells c e fz) → w'.heap[b]? = some (.cells c e fz)

theorem SameCells.trans {a b c : World} (h : SameCells a b) (k : SameCells b c) : SameCells a c := fun x cs e fz hx => k x cs e fz (h x cs e fz hx)

theorem SameCells.cell {w' : World} (h : SameCells w w') {p : Addr} {v : Value} (hv : w.cell? p = some v) : w'.cell? p = some v := by
  unfold World.cell? at hv ⊢
  split at hv
  · rename_i c e fz hb; rw [h _ _ _ _ hb]; exact hv
  · cases hv

theorem SameCells.room {w' : World} (h : SameCells w w') {b n : Nat} (hr : Room w b n) : Room w' b n := by
  obtain ⟨c, e, fz, h1, h2⟩ := hr
  exact ⟨c, e, fz, h _ _ _ _ h1, h2⟩

theorem VR.nc {w' : World} (hc : SameCells w w') {ι : Pl} {x : LV} {v : Value} (h : VR w per ι x v) : VR w' per ι x v := by
  induction h with
  | dead v => exact .dead v
  | und => exact .und
  | bool b => exact .bool b
  | int k n => exact .int k n
  | str s => exact .str s
  | nilp => exact .nilp
  | ptr h => exact .ptr h
  | pp vs hpb h1 hv ih => exact .pp vs hpb (fun i h => hc.cell (h1 i h)) ih
  | nils => exact .nils
  | sl h1 h2 h3 => exact .sl h1 h2 (hc.room h3)
  | slz => exact .slz
  | psz => exact .psz
  | ps vs hpb hn hl h1 hv ih => exact .ps vs hpb hn hl (fun i h => hc.cell (h1 i h)) ih
  | nilf => exact .nilf
  | fn hn hv ih => exact .fn hn ih
  | yld l => exact .yld l
  | agg hn hv ih => exact .agg hn ih
  | tup hn hv ih => exact .tup hn ih

theorem Rep.nc {kp : Nat → Prop} {w' : World} (hc : SameCells w w') (hs : w.heap.size ≤ w'.heap.size) (h : Rep kp w ι per H) : Rep kp w' ι per H :=
  ⟨h.len, fun b hb => Nat.lt_of_lt_of_le (h.perlt b hb) hs, fun k cs hk => by
    rcases h.live k cs hk with h1 | ⟨b, o, c, e, h1, h2, h3, h4, h5, h6⟩
    · exact .inl h1
    · exact .inr ⟨b, o, c, e, h1, h2, h3, ⟨hc _ _ _ _ h4.1, h4.2⟩, h5, fun i hi => (h6 i hi).nc hc⟩, h.inj⟩

/-- What is no cells turns. -/
theorem ST.nc {w' : World} (hst : ST cx N ι per F H a w) (hc : SameCells w w') (hs : w.heap.size ≤ w'.heap.size) {a' : Act} (ha : a'.tmps = a.tmps) (hd : DF cx N.rd N.y a'.defers w') (hk : Kept cx.kp cx.w0 w') : ST cx N ι per F H a' w' :=
  ⟨hst.rep.nc hc hs, hst.p1, hst.p2, fun t => by rw [ha]; exact (hst.fr t).nc hc, by rw [ha]; exact hst.size, hd, hk, fun b hb => Nat.lt_of_lt_of_le (hst.bs b hb) hs, hst.grow⟩

theorem SameCells.putObj {l : Nat} {o : Obj} (h : w.heap[l]? = some o) (ho : isCells o = false) (o' : Obj) : SameCells w (w.putObj l o') := fun b c e fz hb => by
  rw [World.putObj_heap_other (fun e => by subst e; rw [h] at hb; cases hb; cases ho)]; exact hb

theorem SameCells.alloc (w : World) (o : Obj) : SameCells w (w.alloc o) := fun b c e fz hb => (Below.heap_alloc _ _ _ (lt_of_get hb)).trans hb

/-- A block that was not there when the walk began, no cells, turns. -/
theorem Kept.put {kp : Nat → Prop} {w0 w : World} (hk : Kept kp w0 w) {l : Nat} {o : Obj} (h : w.heap[l]? = some o) (ho : isCells o = false) (hl : w0.heap.size ≤ l) (hkl : ¬ kp l) (o' : Obj) : Kept kp w0 (w.putObj l o') :=
  ⟨hk.os, hk.tape, hk.output, by simpa using hk.size, ⟨fun b hb => by rw [World.putObj_heap_other (fun e => hkl (by subst e; exact hb))]; exact hk.step.same b hb, fun b n hr => (SameCells.putObj h ho o').room (hk.step.room b n hr)⟩, fun b o2 hb ho2 => by
    rw [World.putObj_heap_other (fun e => by subst e; have := lt_of_get hb; omega)]; exact hk.oth b o2 hb ho2, hk.drawn⟩

end
end Go.Lite
set_option linter.unusedVariables false
set_option linter.unusedSimpArgs false

/- Lite, part G: the operations that read, make and write memory do what loadOp and effOp say. -/
namespace Go.Lite
open Go Go.RowKit
set_option linter.unusedVariables false

/-- What was there is there. -/
def Ext (w w' : World) : Prop := ∀ b, b < w.heap.size → w'.heap[b]? = w.heap[b]?

theorem Ext.refl (w : World) : Ext w w := fun _ _ => rfl
theorem Ext.cell {w w' : World} (h : Ext w w') {p : Addr} {v : Value} (hc : w.cell? p = some v) : w'.cell? p = some v := by
  have hb : p.block < w.heap.size := by
    unfold World.cell? at hc
    split at hc
    · rename_i hx; exact lt_of_get hx
    · cases hc
  rw [← hc]; exact World.cell?_of_block (h p.block hb)

section
variable {P : Program} {cx : Ctx} {N : Dim} {ι : Pl} {per : Nat → Prop} {F : Fr} {H : Hp} {a : Act} {w : World}

theorem Rep.block {kp : Nat → Prop} (hr : Rep kp w ι per H) {h : Nat} {cs : List LV} {b o : Nat} (hh : H[h]? = some (some cs)) (hi : ι[h]? = some (some (b, o))) :
    ∃ c e, ¬ kp b ∧ ¬ per b ∧ Live w b c e ∧ o + cs.length ≤ c.size ∧ ∀ i (hi : i < cs.length), VR w per ι cs[i] (c.getD (o + i) undef) := by
  rcases hr.live h cs hh with ⟨h1, _⟩ | ⟨b', o', c, e, h1, h2, h3, h4, h5, h6⟩
  · rw [hi] at h1; cases h1
  · rw [hi] at h1
    simp only [Option.some.injEq, Prod.mk.injEq] at h1
    obtain ⟨rfl, rfl⟩ := h1
    exact ⟨c, e, h2, h3, h4, h5, h6⟩

theorem load_sound (hst : ST cx N ι per F H a w) {o : Oper} {x : LV} (h : loadOp (ttOf P) F H o.op = some x) :
    ∃ u, (∀ w', Ext w w' → (execOp a.eval o).run P w' = .ok (.value u) w') ∧ VR w per ι x u := by
  obtain ⟨dst, op, ty, pos, after, guard⟩ := o
  cases op with
  | load t y =>
    simp only [loadOp] at h
    have hc := hst.fr.eval y
    generalize hcv : a.eval y = v at hc
    have key : ∀ (ti : TI) (cs : List LV) (b o : Nat) (vs : Nat → Value) (off : Nat), tiOf P t = some ti → v = .pointer (some ⟨b, o + off, none⟩) →
        (∀ i, i < cs.length → w.cell? ⟨b, o + i, none⟩ = some (vs i)) → (∀ i (hi : i < cs.length), VR w per ι cs[i] (vs i)) → lpart ti.agg ti.size cs off = some x →
        ∃ u, (∀ w', Ext w w' → (execOp a.eval ⟨dst, .load t y, ty, pos, after, guard⟩).run P w' = .ok (.value u) w') ∧ VR w per ι x u := by
      intro ti cs b o vs off hti hv hcell hvr hp
      obtain ⟨i, d, z, hi, hd, hz, hzero, hsize, hzs, hagg, htd⟩ := ti_spec hti
      unfold lpart at hp
      rw [hagg] at hp
      split at hp
      · rename_i hA
        split at hp
        · rename_i hle
          obtain rfl := Option.some.inj hp
          refine ⟨.agg (((List.range i.size).map fun j => vs (off + j)).toArray), fun w' hw' => ?_, .agg (by simp; omega) fun j hj => ?_⟩
          · have hl := run_loadCells (P := P) (w := w') (b := b) (o := o + off) (fun j => vs (off + j)) i.size 0 #[] (fun j _ h2 => by
              have := hcell (off + j) (by omega)
              rw [← Nat.add_assoc] at this
              exact hw'.cell this)
            simp only [execOp, hcv, hv, Instr.loadAt, Instr.sureAddr, Sem.run_bind, Sem.run_pure, Result.andThen_ok, loadVar, run_isAgg hd, hA, if_true, run_sizeOf hi, loadCells, hl]
            simp [List.range_eq_range']
          · have hj2 : off + j < cs.length := by simp at hj; omega
            have hj3 : j < i.size := by simp at hj; omega
            rw [List.getElem_take, List.getElem_drop]
            simp [hj3]
            exact hvr _ hj2
        · cases hp
      · rename_i hA
        obtain ⟨hlt, rfl⟩ := List.getElem?_eq_some_iff.1 hp
        refine ⟨vs off, fun w' hw' => ?_, hvr off hlt⟩
        have := hw'.cell (hcell off hlt)
        simp only [execOp, hcv, hv, Instr.loadAt, Instr.sureAddr, Sem.run_bind, Sem.run_pure, Result.andThen_ok, loadVar, run_isAgg hd, hA, if_false, Bool.false_eq_true, run_load, this]
    split at h
    · rename_i ti hh oo hti e
      rw [e] at hc
      split at h
      · rename_i cs hrow
        obtain ⟨b, o, hi, rfl⟩ := hc.ptr_inv
        obtain ⟨c, e2, h1, h2, h3, h4, h5⟩ := hst.rep.block (row_some hrow) hi
        refine key ti cs b o (fun i => c.getD (o + i) undef) oo hti rfl (fun i hi => ?_) h5 h
        rw [cell_of_blk h3.1]
        have : o + i < c.size := by omega
        simp [this]
      · cases h
    · rename_i ti cs hti e
      rw [e] at hc
      obtain ⟨b, o, vs, hp, hcc, hvv, rfl⟩ := hc.pp_inv
      exact key ti cs b o vs 0 hti rfl hcc (fun i hi => (hvv i hi).step (Step.refl _ _) (fun _ h => h) (fun _ _ h => by simp at h)) h
    · cases h
  | convert s d y =>
    simp only [loadOp] at h
    have hc := hst.fr.eval y
    generalize hcv : a.eval y = v at hc
    split at h
    · rename_i hk
      have hk' : nilOf P s = 3 := Nat.eq_of_beq_eq_true hk
      obtain ⟨e, hs, he⟩ : ∃ e, P.underlying s = some (.slice e) ∧ P.underlying e = some (.int .u8) := by
        unfold nilOf at hk'
        split at hk' <;> first | cases hk' | skip
        rename_i e hu
        split at hk'
        · rename_i he; exact ⟨e, hu, he⟩
        · cases hk'
      split at h
      · rename_i hd
        have hd' : P.underlying d = some .string := str_spec hd
        split at h
        · rename_i ns hb
          obtain rfl := Option.some.inj h
          have fin : ∀ (b o len cap : Nat), v = .slice (some ⟨b, o, none⟩) len cap → ns.length = len → (∀ i, i < len → w.cell? ⟨b, o + i, none⟩ = some (.int .u8 (ns.getD i 0))) →
              ∃ u, (∀ w', Ext w w' → (execOp a.eval ⟨dst, .convert s d y, ty, pos, after, guard⟩).run P w' = .ok (.value u) w') ∧ VR w per ι (.str (strOfNums ns)) u := by
            intro b o len cap hv hl hcell
            refine ⟨_, fun w' hw' => ?_, .str _⟩
            have := run_convert_bytes_arg (P := P) w' s e hs he b o len cap ns hl (fun i hi => hw'.cell (hcell i hi)) d hd'
            simp only [execOp, hcv, hv, Sem.run_bind, this, Result.andThen_ok, Sem.run_pure]
          have nil : ∀ (q : Option Addr) (cap : Nat), v = .slice q 0 cap → ns = [] → ∃ u, (∀ w', Ext w w' → (execOp a.eval ⟨dst, .convert s d y, ty, pos, after, guard⟩).run P w' = .ok (.value u) w') ∧ VR w per ι (.str (strOfNums ns)) u := by
            intro q cap hv hn
            subst hn
            refine ⟨_, fun w' hw' => ?_, .str _⟩
            cases q with
            | none =>
              have := run_convert_bytes_nil (P := P) (w := w') s e hs he 0 cap d hd'
              simp only [execOp, hcv, hv, Sem.run_bind, this, Result.andThen_ok, Sem.run_pure]
              rfl
            | some q =>
              have h1 := run_bytesToString (P := P) w' q 0 cap [] (by simp [loadCells, loadCellsFrom])
              have h2 := run_convert_bytes_string (P := P) w' s d e (some q) 0 cap hs he hd'
              rw [h1] at h2
              simp only [execOp, hcv, hv, Sem.run_bind, h2, Result.andThen_ok, Sem.run_pure]
              rfl
          generalize hx : evalO F y = x at hc hb
          cases x with
          | nils => cases hc; simp only [bytesAt, Option.some.injEq] at hb; exact nil none 0 rfl hb.symm
          | ps sz n cs =>
            simp only [bytesAt] at hb
            split at hb
            · rename_i h1
              subst h1
              obtain ⟨g1, g2⟩ := u8s_len hb
              rcases hc.ps_inv with ⟨b, o, cap, vs, hp, hn, hl, hcc, hvv, rfl⟩ | ⟨rfl, rfl, q, cap, rfl⟩
              · have hcn : cs.length = n := by omega
                refine fin b o n cap rfl (by omega) fun i hi => ?_
                rw [hcc i (by omega)]
                have := hvv i (by omega)
                rw [g2 i (by omega) (by omega)] at this
                generalize vs i = u at this
                cases this
                simp [List.getD, show i < ns.length by omega]
              · simp only [u8s, Option.some.injEq] at hb; exact nil _ _ rfl hb.symm
            · cases hb
          | sl sz q o n =>
            simp only [bytesAt] at hb
            split at hb
            · rename_i h1
              subst h1
              split at hb
              · rename_i cs hrow
                split at hb
                · rename_i hle
                  obtain ⟨g1, g2⟩ := u8s_len hb
                  have hlen : ((cs.drop o).take n).length = n := by simp; omega
                  rcases hc.sl_inv with ⟨b, oo, cap, hi0, hl2, hr, rfl⟩ | ⟨rfl, q2, rfl⟩
                  · obtain ⟨c, e2, k1, k2, k3, k4, k5⟩ := hst.rep.block (row_some hrow) hi0
                    refine fin b (oo + o) n cap rfl (by omega) fun i hi => ?_
                    rw [cell_of_blk k3.1]
                    have hic : oo + o + i < c.size := by omega
                    have := k5 (o + i) (by omega)
                    have g3 := g2 i (by omega) (by omega)
                    rw [List.getElem_take, List.getElem_drop] at g3
                    rw [g3, ← Nat.add_assoc] at this
                    have g4 : c.getD (oo + o + i) undef = c[oo + o + i] := by simp [hic]
                    rw [g4] at this
                    generalize hu : c[oo + o + i] = u at this
                    cases this
                    simp [hic, hu, List.getD, show i < ns.length by omega]
                  · rw [List.take_zero] at hb
                    simp only [u8s, Option.some.injEq] at hb
                    exact nil _ _ rfl hb.symm
                · cases hb
              · cases hb
            · cases hb
          | _ => cases hb
        · cases h
      · cases h
    · cases h
  | slice t y lo hi mx =>
    cases mx with
    | some m => cases h
    | none =>
      simp only [loadOp] at h
      have hc := hst.fr.eval y
      generalize hcv : a.eval y = v at hc
      have hlo := VO.map hst.fr lo
      have hhi := VO.map hst.fr hi
      split at h
      · rename_i m esz g _ _ _ hh oo ht e
        rw [e] at hc
        split at h
        · rename_i cs l r hrow hb
          split at h
          · rename_i hle
            obtain rfl := Option.some.inj h
            obtain ⟨et, j, d, hu, hj, hd, hsz, hag, hpos⟩ := arr_spec ht
            obtain ⟨b, o, hi', rfl⟩ := hc.ptr_inv
            obtain ⟨c, e2, h1, h2, h3, h4, h5⟩ := hst.rep.block (row_some hrow) hi'
            obtain ⟨hrun, k1, k2⟩ := bnds_sound (P := P) (w := w) (isSl := false) (Nat.le_refl m) hlo hhi hb
            have hne : ¬ m = l := by omega
            refine ⟨.slice (some ⟨b, o + (oo + l * esz), none⟩) (r - l) (m - l), fun w' _ => ?_, .sl hi' (by omega) ⟨c, e2.1, e2.2, h3.1, ?_⟩⟩
            · simp [execOp, hcv, Instr.sliceAt, Instr.sureAddr, run_underlying hu, hrun, run_sizeOf hj, hne, hsz, add_plain, Nat.add_assoc]
            · have : l * esz + (m - l) * esz = m * esz := by rw [← Nat.add_mul]; congr 1; omega
              omega
          · cases h
        · cases h
      · rename_i m esz g _ _ _ cs ht e
        rw [e] at hc
        split at h
        · rename_i l r hb
          split at h
          · rename_i hle
            obtain rfl := Option.some.inj h
            obtain ⟨et, j, d, hu, hj, hd, hsz, hag, hpos⟩ := arr_spec ht
            obtain ⟨b, o, vs, hp, hcc, hvv, rfl⟩ := hc.pp_inv
            obtain ⟨hrun, k1, k2⟩ := bnds_sound (P := P) (w := w) (isSl := false) (Nat.le_refl m) hlo hhi hb
            have hne : ¬ m = l := by omega
            have hlen : ((cs.drop (l * esz)).take ((r - l) * esz)).length = (r - l) * esz := by
              have : l * esz + (r - l) * esz = r * esz := by rw [← Nat.add_mul]; congr 1; omega
              have h3 : r * esz ≤ m * esz := Nat.mul_le_mul_right _ k2
              simp; omega
            refine ⟨.slice (some ⟨b, o + l * esz, none⟩) (r - l) (m - l), fun w' _ => ?_, .ps (fun i => vs (l * esz + i)) hp hlen (by omega) (fun i hi => ?_) fun i hi => ?_⟩
            · simp [execOp, hcv, Instr.sliceAt, Instr.sureAddr, run_underlying hu, hrun, run_sizeOf hj, hne, hsz, add_plain]
            · have : l * esz + i < cs.length := by simp at hi; omega
              rw [← hcc _ this, Nat.add_assoc]
            · have : l * esz + i < cs.length := by simp at hi; omega
              rw [List.getElem_take, List.getElem_drop]
              exact hvv _ this
          · cases h
        · cases h
      · cases h
  | _ => cases h

theorem take_range_map (f : Nat → Value) (n : Nat) {k : Nat} (h : k ≤ n) : ((List.range n).map f).take k = (List.range' 0 k).map f := by
  rw [← List.map_take, List.take_range, Nat.min_eq_left h, List.range_eq_range']

/-- A source of append or copy. -/
theorem src_sound (hst : ST cx N ι per F H a w) {esz : Nat} {x : LV} {v : Value} (hx : VR w per ι x v) {n : Nat} {xs : List LV} (h : srcCells H esz x = some (n, xs)) :
    ∃ vs : List Value, VL w ι per xs vs ∧ xs.length = n * esz ∧ (∀ w', (Builtin.lenOf v).run P w' = .ok n w') ∧
      ∀ w' k, Ext w w' → k ≤ n → (Builtin.firstCells esz k v).run P w' = .ok (vs.take (k * esz)).toArray w' := by
  cases x with
  | nils =>
    simp only [srcCells, Option.some.injEq, Prod.mk.injEq] at h
    obtain ⟨rfl, rfl⟩ := h
    cases hx
    exact ⟨[], .nil, by simp, fun w' => by simp [Builtin.lenOf], fun w' k _ hk => by simp [Builtin.firstCells]⟩
  | str s =>
    simp only [srcCells] at h
    split at h
    · rename_i he
      simp only [Option.some.injEq, Prod.mk.injEq] at h
      obtain ⟨rfl, rfl⟩ := h
      cases hx
      refine ⟨s.data.toList.map fun b => .int .u8 b.toNat, ⟨by simp, fun i hi => ?_⟩, by subst he; simp, fun w' => by simp [Builtin.lenOf], fun w' k _ hk => ?_⟩
      · have hi' : i < s.data.size := by simpa using hi
        simp only [List.getElem_map, List.getD_eq_getElem?_getD, List.getElem?_map, Array.getElem?_toList, Array.getElem?_eq_getElem hi', Option.map_some, Option.getD_some]
        exact .int _ _
      · subst he
        simp only [Builtin.firstCells, Sem.run_pure, Nat.mul_one, Result.ok.injEq, and_true]
        apply Array.ext'
        simp [ByteArray.data_extract]
    · cases h
  | ps sz m cs =>
    simp only [srcCells] at h
    split at h
    · rename_i he
      simp only [Option.some.injEq, Prod.mk.injEq] at h
      obtain ⟨rfl, rfl⟩ := h
      subst he
      rcases hx.ps_inv with ⟨b, o, cap, vs, hp, hn, hl, hc, hv, rfl⟩ | ⟨rfl, rfl, aa, cap, rfl⟩
      · refine ⟨(List.range cs.length).map vs, ⟨by simp, fun i hi => ?_⟩, hn, fun w' => by simp [Builtin.lenOf], fun w' k hw' hk => ?_⟩
        · simp [hi]
          exact (hv i hi).step (Step.refl _ _) (fun _ h => h) (fun _ _ h => by simp at h)
        · have hkl : k * sz ≤ cs.length := by rw [hn]; exact Nat.mul_le_mul_right _ hk
          have := run_loadCells (P := P) (w := w') (b := b) (o := o) vs (k * sz) 0 #[] (fun j _ h2 => hw'.cell (hc j (by omega)))
          simp only [Builtin.firstCells, loadCells, this]
          rw [take_range_map _ _ hkl]
          simp
      · refine ⟨[], .nil, by simp, fun w' => by simp [Builtin.lenOf], fun w' k hw' hk => ?_⟩
        have : k = 0 := by omega
        subst this
        cases aa <;> simp [Builtin.firstCells, loadCells, loadCellsFrom]
    · cases h
  | sl sz h' o m =>
    simp only [srcCells] at h
    split at h
    · rename_i he
      subst he
      split at h
      · rename_i cs hrow
        split at h
        · rename_i hle
          simp only [Option.some.injEq, Prod.mk.injEq] at h
          obtain ⟨rfl, rfl⟩ := h
          rcases hx.sl_inv with ⟨b, o', cap, hi, hl, hr, rfl⟩ | ⟨rfl, aa, rfl⟩
          · obtain ⟨c, e2, h1, h2, h3, h4, h5⟩ := hst.rep.block (row_some hrow) hi
            have hlen : ((cs.drop o).take (m * sz)).length = m * sz := by simp; omega
            refine ⟨(List.range (m * sz)).map fun j => c.getD (o' + o + j) undef, ⟨by rw [hlen]; simp, fun i hi => ?_⟩, hlen, fun w' => by simp [Builtin.lenOf], fun w' k hw' hk => ?_⟩
            · have hi' : i < m * sz := by rw [hlen] at hi; exact hi
              rw [List.getElem_take, List.getElem_drop]
              have := h5 (o + i) (by omega)
              rw [← Nat.add_assoc] at this
              simpa [hi'] using this
            · have hkl : k * sz ≤ m * sz := Nat.mul_le_mul_right _ hk
              have := run_loadCells (P := P) (w := w') (b := b) (o := o' + o) (fun j => c.getD (o' + o + j) undef) (k * sz) 0 #[] (fun j _ h2 => hw'.cell (by
                rw [cell_of_blk h3.1]
                have : o' + o + j < c.size := by omega
                simp [this]))
              simp only [Builtin.firstCells, loadCells, this]
              rw [take_range_map _ _ hkl]
              simp
          · refine ⟨[], by simpa using VL.nil, by simp, fun w' => by simp [Builtin.lenOf], fun w' k hw' hk => ?_⟩
            have : k = 0 := by omega
            subst this
            cases aa <;> simp [Builtin.firstCells, loadCells, loadCellsFrom]
        · cases h
      · cases h
    · cases h
  | _ => cases h

theorem zerosL_length (n : Nat) (zs : List LV) : (zerosL n zs).length = n * zs.length := by
  unfold zerosL
  split
  · simp
  · simp [List.length_flatten]

theorem flatten_get? {n : Nat} : ∀ (i : Nat) (zs : List LV), i < n * zs.length → (List.replicate n zs).flatten[i]? = zs[i % zs.length]? := by
  induction n with
  | zero => intro i zs h; simp at h
  | succ n ih =>
    intro i zs h
    simp only [List.replicate_succ, List.flatten_cons]
    by_cases hi : i < zs.length
    · rw [List.getElem?_append_left hi, Nat.mod_eq_of_lt hi]
    · have hle : zs.length ≤ i := by omega
      rw [List.getElem?_append_right hle, ih (i - zs.length) zs (by rw [Nat.succ_mul] at h; omega), ← Nat.mod_eq_sub_mod hle]

theorem zerosL_get? {n i : Nat} {zs : List LV} (hi : i < n * zs.length) : (zerosL n zs)[i]? = zs[i % zs.length]? := by
  rcases zs with _ | ⟨z, _ | ⟨y, r⟩⟩
  · simp at hi
  · simp only [List.length_singleton, Nat.mul_one] at hi
    simp [zerosL, hi, Nat.mod_one]
  · exact flatten_get? i _ hi

theorem zerosL_get {n : Nat} {z : Value} {i : Nat} (w : World) (ι : Pl) (per : Nat → Prop) (h : i < (zerosL n (z.cells.toList.map scalarLV)).length) :
    VR w per ι (zerosL n (z.cells.toList.map scalarLV))[i] (z.cells[i % z.cells.size]!) := by
  have hi : i < n * z.cells.size := by rw [zerosL_length] at h; simpa using h
  have hpos : 0 < z.cells.size := by
    rcases Nat.eq_zero_or_pos z.cells.size with h | h
    · rw [h] at hi; simp at hi
    · exact h
  have hmod : i % z.cells.size < z.cells.size := Nat.mod_lt _ hpos
  have h1 := zerosL_get? (n := n) (i := i) (zs := z.cells.toList.map scalarLV) (by simpa using hi)
  rw [List.getElem?_eq_getElem h] at h1
  simp only [List.length_map, Array.length_toList, List.getElem?_map, Array.getElem?_toList, Array.getElem?_eq_getElem hmod, Option.map_some, Option.some.injEq] at h1
  rw [h1, getElem!_pos z.cells _ hmod]
  exact .scalar _

end
end Go.Lite

/- Lite, part H: the operations that make and write memory do what effOp says. -/
namespace Go.Lite
open Go Go.RowKit
set_option linter.unusedVariables false

/-- An operation has been carried out: the value, the state behind it; of the rows' places only that of number n may have turned. -/
def Does (P : Program) (cx : Ctx) (N : Dim) (ι : Pl) (per : Nat → Prop) (n : Nat) (F : Fr) (H' : Hp) (a : Act) (x : LV) (s : Sem Next) (w : World) : Prop :=
  ∃ u w' ι', (s.run P w = .ok (.value u) w' ∨ (s.run P w = .ok .skip w' ∧ u = undef)) ∧ ST cx N ι' per F H' a w' ∧ VR w' per ι' x u ∧ (∀ (h : Nat) (b : Nat × Nat), ι[h]? = some (some b) → ι'[h]? = some (some b)) ∧ ∀ h, h ≠ n → ι'[h]? = ι[h]?

section
variable {P : Program} {cx : Ctx} {N : Dim} {ι : Pl} {per : Nat → Prop} {F : Fr} {H : Hp} {a : Act} {w : World} {x : LV} {n : Nat} {ws : List (Nat × Option (List LV))}

theorem set_oth (n : Nat) (x : Option (Nat × Nat)) : ∀ h, h ≠ n → (ι.set n x)[h]? = ι[h]? := fun h hh => List.getElem?_set_ne (fun e => hh e.symm)

theorem eff_alloc (hst : ST cx N ι per F H a w) {t : TypeId} {dst ty pos after guard} (hv : Vac N ι H n) (h : effOp (ttOf P) F H n (.alloc t) = some (x, ws)) :
    Does P cx N ι per n F (applyWs H ws) a x (execOp a.eval ⟨dst, .alloc t, ty, pos, after, guard⟩) w := by
  simp only [effOp] at h
  split at h
  · rename_i ti hti
    simp only [Option.some.injEq, Prod.mk.injEq] at h
    obtain ⟨rfl, rfl⟩ := h
    obtain ⟨i, d, z, hi, hd, hz, hzero, hsize, hzs, hagg, htd⟩ := ti_spec hti
    refine ⟨.pointer (some ⟨w.heap.size, 0, none⟩), w.alloc (.cells z.cells t), _, .inl ?_, hst.alloc (cs := ti.zero) hv (by rw [hzero]; simp) (fun i hi => ?_), .ptr (o := 0) (off := 0) (vac_set hv _).2, (vac_set hv _).1, set_oth _ _⟩
    · simp [execOp, Instr.alloc, run_zeroValue hi hz, newVar, newRow]
    · have := VL.scalars (w := w) (ι := ι) (per := per) z.cells.toList
      have hi' : i < (z.cells.toList.map scalarLV).length := by rw [← hzero]; exact hi
      have h2 := this.2 i hi'
      simp only [hzero]
      simpa using h2
  · cases h

theorem eff_box (hst : ST cx N ι per F H a w) {t : TypeId} {y : Operand} {dst ty pos after guard} (hv : Vac N ι H n) (h : effOp (ttOf P) F H n (.box t y) = some (x, ws)) :
    Does P cx N ι per n F (applyWs H ws) a x (execOp a.eval ⟨dst, .box t y, ty, pos, after, guard⟩) w := by
  simp only [effOp] at h
  split at h
  · rename_i cs hcs
    simp only [Option.some.injEq, Prod.mk.injEq] at h
    obtain ⟨rfl, rfl⟩ := h
    have hc := (hst.fr.eval y).cells hcs
    refine ⟨.pointer (some ⟨w.heap.size, 0, none⟩), w.alloc (.cells (a.eval y).cells t), _, .inl ?_, hst.alloc (cs := cs) hv (by have := hc.1; simp at this; omega) (fun i hi => ?_), .ptr (o := 0) (off := 0) (vac_set hv _).2, (vac_set hv _).1, set_oth _ _⟩
    · simp [execOp, Instr.box, newVar, newRow]
    · have := hc.2 i hi
      simpa using this
  · cases h

theorem eff_buildSlice (hst : ST cx N ι per F H a w) {t : TypeId} {len : Nat} {parts} {dst ty pos after guard} (hv : Vac N ι H n) (h : effOp (ttOf P) F H n (.buildSlice t len parts) = some (x, ws)) :
    Does P cx N ι per n F (applyWs H ws) a x (execOp a.eval ⟨dst, .buildSlice t len parts, ty, pos, after, guard⟩) w := by
  simp only [effOp] at h
  split at h
  · rename_i esz eb ez sz ag z ht
    split at h
    · rename_i hle
      split at h
      · rename_i cs hcs
        simp only [Option.some.injEq, Prod.mk.injEq] at h
        obtain ⟨rfl, rfl⟩ := h
        obtain ⟨et, j, ze, hu, hj, hsz, hby, hze, hez, hzs, hpos⟩ := slice_spec ht
        have hparts : ∀ (i : Nat) (p : Nat × LV), (parts.toList.map fun p => (p.1, evalO F p.2))[i]? = some p → ∃ v, (parts.toList.map fun p => (p.1, a.eval p.2))[i]? = some (p.1, v) ∧ VR w per ι p.2 v := by
          intro i p hp
          simp only [List.getElem?_map, Option.map_eq_some_iff] at hp ⊢
          obtain ⟨q, hq, rfl⟩ := hp
          exact ⟨a.eval q.2, ⟨q, hq, rfl⟩, hst.fr.eval q.2⟩
        have hz0 : VL w ι per (zerosL len ez) ((Array.range (len * j.size)).map (ze.cells[· % ze.cells.size]!)).toList := by
          subst hez
          refine ⟨by rw [zerosL_length]; simp [hzs, hsz], fun i hi => ?_⟩
          have h1 := zerosL_get (n := len) (z := ze) w ι per hi
          have hi2 : i < len * j.size := by rw [zerosL_length] at hi; simpa [hzs, hsz] using hi
          simpa [hi2] using h1
        obtain ⟨out, ho, hl⟩ := lfill_sound (w := w) (ι := ι) (per := per) (fun i => some (i * esz, esz)) (fun i => some (i * j.size, j.size)) (by intro i; rw [hsz]) _ _ (by simp) hparts _ _ hz0 cs hcs
        have hpm : (parts.map fun (x : Nat × Operand) => (x.1, a.eval x.2)).toList = parts.toList.map fun p => (p.1, a.eval p.2) := by simp
        have hcl : cs.length = len * esz := by
          have : ∀ (place : Nat → Option (Nat × Nat)) (ps : List (Nat × LV)) (c r : List LV), lfill place c ps = some r → r.length = c.length := by
            intro place ps
            induction ps with
            | nil => intro c r h; obtain rfl := Option.some.inj h; rfl
            | cons p ps ih =>
              intro c r h
              obtain ⟨i, v⟩ := p
              simp only [lfill] at h
              split at h
              · split at h
                · cases h
                · rename_i hn
                  have := ih _ _ h
                  rw [this]
                  simp only [not_or] at hn
                  simp [putCells]; omega
              · cases h
          rw [this _ _ _ _ hcs, zerosL_length, hez]
          simp [hzs]
        have hos : out.size = len * esz := by have := hl.1; simp at this; omega
        refine ⟨.slice (some ⟨w.heap.size, 0, none⟩) len len, w.alloc (.cells out et), _, .inl ?_, hst.alloc (cs := cs) hv (by omega) (fun i hi => ?_), ?_, (vac_set hv _).1, set_oth _ _⟩
        · simp only [execOp, Instr.buildSlice, Sem.run_bind, run_underlying hu, Result.andThen_ok, run_sizeOf hj]
          rw [if_neg (by rw [hsz]; omega)]
          by_cases h0 : len * j.size = 0
          · rw [if_pos h0]
            have he : (Array.range (len * j.size)).map (fun x => (#[] : Array Value)[x % (#[] : Array Value).size]!) = (Array.range (len * j.size)).map (fun x => ze.cells[x % ze.cells.size]!) := by
              have hr : Array.range (len * j.size) = #[] := by rw [h0]; exact Array.eq_empty_of_size_eq_zero (by simp)
              rw [hr]; simp
            simp only [Sem.run_bind, Sem.run_pure, Result.andThen_ok, hpm]
            rw [he, ho]
            simp [newRow]
          · rw [if_neg h0]
            simp only [Sem.run_bind, run_zeroValue hj hze, Result.andThen_ok, Sem.run_pure, hpm]
            rw [ho]
            simp [newRow]
        · have := hl.2 i hi
          simpa using this
        · have hroom : Room (w.alloc (.cells out et)) w.heap.size (0 + 0 + len * esz) := ⟨out, et, (0, 0), by show (w.heap.push _)[w.heap.size]? = _; rw [Array.getElem?_push_size], by omega⟩
          have := VR.sl (w := w.alloc (.cells out et)) (per := per) (sz := esz) (off := 0) (len := len) (cap := len) (vac_set hv (some (w.heap.size, 0))).2 (Nat.le_refl _) hroom
          exact this
      · cases h
    · cases h
  · cases h

theorem eff_makeSlice (hst : ST cx N ι per F H a w) {t : TypeId} {l c : Operand} {dst ty pos after guard} (hv : Vac N ι H n) (h : effOp (ttOf P) F H n (.makeSlice t l c) = some (x, ws)) :
    Does P cx N ι per n F (applyWs H ws) a x (execOp a.eval ⟨dst, .makeSlice t l c, ty, pos, after, guard⟩) w := by
  simp only [effOp] at h
  split at h
  · rename_i esz eb ez _ _ _ k n k' m ht el ec
    split at h
    · rename_i hb
      simp only [Option.some.injEq, Prod.mk.injEq] at h
      obtain ⟨rfl, rfl⟩ := h
      obtain ⟨et, j, ze, hu, hj, hsz, hby, hze, hez, hzs, hpos⟩ := slice_spec ht
      have hl := hst.fr.eval l
      rw [el] at hl
      have hc := hst.fr.eval c
      rw [ec] at hc
      generalize hlv : a.eval l = lv at hl
      generalize hcv : a.eval c = cv at hc
      cases hl
      cases hc
      have w1 : IntKind.i64.wrap n = n := by
        simp [IntKind.wrap, IntKind.bits, IntKind.signed]; omega
      have w2 : IntKind.i64.wrap m = m := by
        simp [IntKind.wrap, IntKind.bits, IntKind.signed]; omega
      have hm0 : 0 ≤ m := by omega
      have t1 : (decide (m < 0) || decide ((j.bytes : Int) * m > 2 ^ 48)) = false := by
        rw [hby]; simp; omega
      have hcs : ((Array.range (m.toNat * j.size)).map (ze.cells[· % ze.cells.size]!)).size = m.toNat * esz := by simp [hsz]
      have hnm : n.toNat ≤ m.toNat := by omega
      refine ⟨.slice (some ⟨w.heap.size, 0, none⟩) n.toNat m.toNat, w.alloc (.cells ((Array.range (m.toNat * j.size)).map (ze.cells[· % ze.cells.size]!)) et), _, .inl ?_,
        hst.alloc (cs := zerosL n.toNat ez) hv ?_ (fun i hi => ?_), ?_, (vac_set hv _).1, set_oth _ _⟩
      · simp only [execOp, hlv, hcv, Instr.makeSlice, Sem.run_bind, run_underlying hu, Result.andThen_ok, asInt, asIntOf, Sem.run_pure, run_typeInfo hj, w1, w2, t1]
        have t2 : (decide (n < 0) || decide (n > m)) = false := by simp; omega
        simp only [Bool.false_or, t2, Bool.false_eq_true, if_false, Sem.run_bind, run_askRoom, Result.andThen_ok, run_sizeOf hj]
        by_cases h0 : m.toNat * j.size = 0
        · rw [if_pos h0]
          have hr : Array.range (m.toNat * j.size) = #[] := by rw [h0]; exact Array.eq_empty_of_size_eq_zero (by simp)
          simp only [Sem.run_bind, Sem.run_pure, Result.andThen_ok, hr, newRow]
          simp
        · rw [if_neg h0]
          simp only [Sem.run_bind, run_zeroValue hj hze, Result.andThen_ok, Sem.run_pure]
          simp [newRow]
      · rw [zerosL_length, hcs, hez]
        simp only [List.length_map, Array.length_toList, hzs]
        exact Nat.mul_le_mul_right _ hnm
      · subst hez
        have h1 := zerosL_get (n := n.toNat) (z := ze) w ι per hi
        have hi1 : i < n.toNat * esz := by rw [zerosL_length] at hi; simpa [hzs] using hi
        have hi2 : i < m.toNat * j.size := by rw [hsz]; exact Nat.lt_of_lt_of_le hi1 (Nat.mul_le_mul_right _ hnm)
        simpa [hi2] using h1
      · have hroom : Room (w.alloc (.cells ((Array.range (m.toNat * j.size)).map (ze.cells[· % ze.cells.size]!)) et)) w.heap.size (0 + 0 + m.toNat * esz) :=
          ⟨_, et, (0, 0), by show (w.heap.push _)[w.heap.size]? = _; rw [Array.getElem?_push_size], by rw [hcs]; omega⟩
        exact VR.sl (per := per) (sz := esz) (off := 0) (vac_set hv (some (w.heap.size, 0))).2 hnm hroom
    · cases h
  · cases h

theorem putC_length {cs ds : List LV} {o : Nat} (h : o + ds.length ≤ cs.length) : (putC cs o ds).length = cs.length := by
  unfold putC
  split
  · simp
  · simp [putCells]; omega

theorem putC_get {cs ds : List LV} {o : Nat} (h : o + ds.length ≤ cs.length) (i : Nat) : (putC cs o ds)[i]? = if o ≤ i ∧ i < o + ds.length then ds[i - o]? else cs[i]? := by
  unfold putC
  split
  · rename_i d
    simp only [List.length_singleton] at h ⊢
    rw [List.getElem?_set]
    by_cases e : o = i
    · subst e
      simp; omega
    · rw [if_neg e, if_neg (by omega)]
  · unfold putCells
    by_cases h1 : i < o
    · rw [if_neg (by omega), List.append_assoc, List.getElem?_append_left (by simp; omega), List.getElem?_take, if_pos h1]
    · by_cases h2 : i < o + ds.length
      · rw [if_pos (by omega), List.getElem?_append_left (by simp; omega), List.getElem?_append_right (by simp; omega)]
        congr 1
        simp; omega
      · rw [if_neg (by omega), List.getElem?_append_right (by simp; omega), List.getElem?_drop]
        congr 1
        simp; omega

theorem eff_store (hst : ST cx N ι per F H a w) {t : TypeId} {y z : Operand} {dst ty pos after guard} (h : effOp (ttOf P) F H n (.store t y z) = some (x, ws)) :
    Does P cx N ι per n F (applyWs H ws) a x (execOp a.eval ⟨dst, .store t y z, ty, pos, after, guard⟩) w := by
  simp only [effOp] at h
  split at h
  · rename_i ti hh oo ds hti ey hds
    split at h
    · rename_i cs hrow
      split at h
      · rename_i hb
        simp only [Option.some.injEq, Prod.mk.injEq] at h
        obtain ⟨rfl, rfl⟩ := h
        obtain ⟨i, d, zz, hi, hd, hz, hzero, hsize, hzs, hagg, htd⟩ := ti_spec hti
        have hy := hst.fr.eval y
        rw [ey] at hy
        obtain ⟨b, o, hib, hyv⟩ := hy.ptr_inv
        have hcells := (hst.fr.eval z).cells hds
        obtain ⟨c, e2, h1, h2, h3, h4, h5⟩ := hst.rep.block (row_some hrow) hib
        have hvl : (a.eval z).cells.toList.length = ds.length := hcells.1.symm
        have hone : ∀ v ∈ (a.eval z).cells.toList, v.oneCell' = true := by
          intro v hv
          obtain ⟨k, hk, rfl⟩ := List.getElem_of_mem hv
          have hk2 : k < ds.length := by rw [← hvl]; exact hk
          have h6 := hcells.2 k hk2
          rw [List.getD_eq_getElem?_getD, List.getElem?_eq_getElem hk] at h6
          exact h6.one (List.all_eq_true.1 hb.2.2 _ (List.getElem_mem hk2))
        obtain ⟨c', hrun, hcs, hcg⟩ := run_storeCells (P := P) (b := b) (o := o + oo) (e := e2) (a.eval z).cells.toList 0 w c h3 (by rw [hvl]; omega) hone
        refine ⟨undef, setBlk w b (.cells c' e2.1 e2.2), ι, .inr ⟨?_, rfl⟩, hst.row (row_some hrow) hib h3 h1 h2 hcs (by rw [putC_length hb.2.1]; exact h4) (fun k hk => ?_), .und, fun _ _ h => h, fun _ _ => rfl⟩
        · simp only [execOp, Instr.storeAt, hyv, Instr.sureAddr, Sem.run_bind, Sem.run_pure, Result.andThen_ok, storeVar, run_sizeOf hi]
          rw [if_neg (by have := hb.1; simp at hvl; omega)]
          rw [hrun]
          simp
        · have hk2 : k < cs.length := by rw [putC_length hb.2.1] at hk; exact hk
          have hg := putC_get hb.2.1 k
          rw [List.getElem?_eq_getElem hk] at hg
          rw [hcg (o + k), hvl]
          by_cases hin : oo ≤ k ∧ k < oo + ds.length
          · rw [if_pos hin] at hg
            rw [if_pos (by omega)]
            have hk3 : k - oo < ds.length := by omega
            rw [List.getElem?_eq_getElem hk3] at hg
            rw [Option.some.inj hg]
            have := hcells.2 (k - oo) hk3
            have e1 : o + k - (o + oo + 0) = k - oo := by omega
            rw [e1]; exact this
          · rw [if_neg hin, List.getElem?_eq_getElem hk2] at hg
            rw [if_neg (by omega)]
            rw [Option.some.inj hg]
            exact h5 k hk2
      · cases h
    · cases h
  · cases h

end
end Go.Lite
set_option linter.unusedVariables false
set_option linter.unusedSimpArgs false

/- Lite, part I: append and copy; every operation that makes or writes memory. -/
namespace Go.Lite
open Go Go.RowKit
set_option linter.unusedVariables false

section
variable {P : Program} {cx : Ctx} {N : Dim} {ι : Pl} {per : Nat → Prop} {F : Fr} {H : Hp} {a : Act} {w : World} {x : LV} {nn : Nat} {ws : List (Nat × Option (List LV))}

theorem Kept.heap {w' : World} (h : w'.heap = w.heap) (ho : w'.os = w.os) (ht : w'.tape = w.tape) (hp : w'.output = w.output) (hdr : w.drawn ≤ w'.drawn) : Kept cx.kp w w' :=
  ⟨ho, ht, hp, by rw [h]; exact Nat.le_refl _, Step.heap h, fun b o hb _ => by rw [h]; exact hb, hdr⟩

theorem zeroCells_size (z : Array Value) (n : Nat) : (Builtin.zeroCells z n).size = n * z.size := by simp [Builtin.zeroCells]

/-- append within the capacity. -/
theorem run_append_fits {t u e : TypeId} {j : TypeInfo} {d : TypeDesc} {args : Array Value} {argTypes : Array TypeId} {ty : TypeId} {m cap n : Nat} {ad : Option Addr} {v : Value} {vs : List Value} {w' : World}
    (ht : argTypes[0]? = some t) (hu : argTypes[1]? = some u) (hs : args[0]? = some (.slice ad m cap)) (hx : args[1]? = some v) (hut : P.underlying t = some (.slice e)) (hj : P.info? e = some j)
    (huu : P.underlying u = some d) (hd : ∀ k, d ≠ .int k) (hlen : (Builtin.lenOf v).run P w = .ok n w) (hcells : (Builtin.firstCells j.size n v).run P w = .ok vs.toArray w) (hfit : m + n ≤ cap)
    (hst : ∀ q, ad = some q → (storeCells (q.add (m * j.size)) vs).run P w = .ok () w') (hnone : ad = none → w' = w) :
    (Builtin.append_ argTypes ty args).run P w = .ok (.slice ad (m + n) cap) w' := by
  have hz : ((do pure ((← underlying u) matches .int _) : Sem Bool)).run P w = .ok false w := by
    simp only [Sem.run_bind, run_underlying huu, Result.andThen_ok, Sem.run_pure]
  unfold Builtin.append_
  simp only [ht, hs, hx, hu, Sem.run_bind, run_underlying hut, Result.andThen_ok, run_sizeOf hj]
  simp only [Sem.run_bind] at hz
  rw [run_underlying huu]
  simp only [Result.andThen_ok, Sem.run_pure]
  simp only [Bool.false_eq_true, if_false, Sem.run_bind, hlen, Result.andThen_ok, if_pos hfit, Bool.not_false, if_true, hcells]
  cases ad with
  | none => rw [hnone rfl]; simp
  | some q => simp only [Sem.run_bind, hst q rfl, Result.andThen_ok, Sem.run_pure]

/-- append that makes a new array. -/
theorem run_append_grows {t u e : TypeId} {j : TypeInfo} {d : TypeDesc} {z : Value} {args : Array Value} {argTypes : Array TypeId} {ty : TypeId} {m cap n : Nat} {ad : Option Addr} {v : Value} {vs old : List Value}
    (ht : argTypes[0]? = some t) (hu : argTypes[1]? = some u) (hs : args[0]? = some (.slice ad m cap)) (hx : args[1]? = some v) (hut : P.underlying t = some (.slice e)) (hj : P.info? e = some j) (hz : j.zero = some z)
    (hzs : z.cells.size = j.size) (huu : P.underlying u = some d) (hd : ∀ k, d ≠ .int k) (hlen : (Builtin.lenOf v).run P w = .ok n w) (hcells : ∀ w', Ext w w' → (Builtin.firstCells j.size n v).run P w' = .ok vs.toArray w')
    (hold : ∀ w', Ext w w' → (Builtin.firstCells j.size m (.slice ad m cap)).run P w' = .ok old.toArray w') (hfit : ¬ m + n ≤ cap) (hcap : (m + n) * j.bytes ≤ 140737488355328) (hbig : m + n ≤ 9223372036854775807) (hol : old.length = m * j.size)
    (hvl : vs.length = n * j.size) :
    ∃ (w1 : World) (nc : Nat) (c : Array Value), w1.heap = w.heap ∧ w1.os = w.os ∧ w1.tape = w.tape ∧ w1.output = w.output ∧ w.drawn ≤ w1.drawn ∧ m + n ≤ nc ∧ c.size = nc * j.size ∧ (∀ i, i < old.length + vs.length → c.getD i undef = (old ++ vs).getD i undef) ∧
      (Builtin.append_ argTypes ty args).run P w = .ok (.slice (some ⟨w.heap.size, 0, none⟩) (m + n) nc) (w1.alloc (.cells c e)) := by
  have hnf : (Question.appendCap (m + n) cap e).forced = false := rfl
  let nc := (Question.appendCap (m + n) cap e).cut (w.tape w.drawn (.appendCap (m + n) cap e))
  have hnc : m + n ≤ nc := by show _ ≤ m + n + _; omega
  let w1 : World := { w with drawn := w.drawn + 1 }
  refine ⟨w1, nc, old.toArray ++ vs.toArray ++ Builtin.zeroCells z.cells (nc - (m + n)), rfl, rfl, rfl, rfl, Nat.le_succ _, hnc, ?_, fun i hi => ?_, ?_⟩
  · simp only [Array.size_append, List.size_toArray, zeroCells_size, hzs, hol, hvl]
    rw [← Nat.add_mul, ← Nat.add_mul]
    congr 1; omega
  · simp only [Array.getD_eq_getD_getElem?, List.getD_eq_getElem?_getD]
    rw [Array.getElem?_append_left (by simp; omega)]
    congr 1
    simp
  · have hzz : (match d with | .int k => true | _ => false) = false := by
      cases d <;> first | rfl | exact absurd rfl (hd _)
    have hcap2 : ¬ (Builtin.nextslicecap (m + n) cap * j.bytes > 2 ^ 48) := by
      have := nextslicecap_le (need := m + n) (old := cap) (by omega)
      have h2 : Builtin.nextslicecap (m + n) cap * j.bytes ≤ 2 * (m + n) * j.bytes := Nat.mul_le_mul_right _ this
      rw [Nat.mul_assoc] at h2
      omega
    have hmax : ¬ (((m + n : Nat) : Int) > IntKind.i64.max ∧ (false = true ∨ j.bytes = 0)) := by
      have : IntKind.i64.max = 9223372036854775807 := rfl
      rw [this]; omega
    unfold Builtin.append_
    simp only [ht, hs, hx, hu, Sem.run_bind, run_underlying hut, Result.andThen_ok, run_sizeOf hj]
    rw [run_underlying huu]
    simp only [Result.andThen_ok, Sem.run_pure, Bool.false_eq_true, if_false, Sem.run_bind, hlen, if_neg hfit, run_typeInfo hj]
    simp only [Bool.false_eq_true, false_or] at hmax
    rw [if_neg (by simpa using hmax)]
    have hext : Ext w w1 := fun _ _ => rfl
    simp only [Sem.run_bind, run_typeInfo hj, Result.andThen_ok, if_neg hcap2, run_choose, hnf, Bool.false_eq_true, if_false, run_askRoom]
    rw [show ({ w with drawn := w.drawn + 1 } : World) = w1 from rfl, hold w1 hext]
    simp only [Result.andThen_ok, Bool.not_false, if_true, hcells w1 hext, run_zeroValue hj hz, newRow, Sem.run_bind, run_newObj, Sem.run_pure]
    rfl

theorem eff_append (hst : ST cx N ι per F H a w) (hv : Vac N ι H nn) {args argTypes} {dst ty pos after guard} (h : effOp (ttOf P) F H nn (.call ⟨.builtin .append, args, argTypes⟩) = some (x, ws)) :
    Does P cx N ι per nn F (applyWs H ws) a x (execOp a.eval ⟨dst, .call ⟨.builtin .append, args, argTypes⟩, ty, pos, after, guard⟩) w := by
  simp only [effOp] at h
  split at h
  · rename_i t u y z ht hu hy hz
    split at h
    · rename_i esz eb ez _ _ _ ud _ _ _ htt htu
      obtain ⟨et, j, ze, hut, hj, hsz, hby, hze, hez, hzs, hpos⟩ := slice_spec htt
      obtain ⟨iu, du, zu, hiu, hdu, _, _, _, _, _, htd⟩ := ti_spec htu
      have hd : (∀ k, ud ≠ .int k) → ∀ k, du ≠ .int k := by
        intro hne k e
        subst e
        simp only [tdOf, Option.some.injEq] at htd
        exact hne k htd.symm
      have hargs1 : (args.map a.eval)[0]? = some (a.eval y) := by simp [hy]
      have hargs2 : (args.map a.eval)[1]? = some (a.eval z) := by simp [hz]
      have hexec : ∀ r w', (Builtin.append_ argTypes ty (args.map a.eval)).run P w = .ok r w' →
          (execOp a.eval ⟨dst, .call ⟨.builtin .append, args, argTypes⟩, ty, pos, after, guard⟩).run P w = .ok (.value r) w' := by
        intro r w' hr
        simp only [execOp, resolve, invoke, builtin, Sem.run_bind, Sem.run_pure, Result.andThen_ok, hr]
      have hyv := hst.fr.eval y
      have hzv := hst.fr.eval z
      split at h
      · cases h
      · rename_i hnint
        have hd' := hd (fun k e => hnint k e)
        split at h
        · rename_i n xs hsrc ey
          rw [ey] at hyv
          obtain ⟨vs, hvl, hxl, hlen, hfc⟩ := src_sound (P := P) hst hzv hsrc
          have hvsl : vs.length = n * esz := by rw [← hvl.1]; exact hxl
          generalize hyy : a.eval y = yv at hyv hargs1
          cases hyv
          split at h
          · rename_i hcap
            simp only [Option.some.injEq, Prod.mk.injEq] at h
            obtain ⟨rfl, rfl⟩ := h
            by_cases hn0 : n = 0
            · subst hn0
              have hx0 : xs = [] := List.eq_nil_of_length_eq_zero (by simpa using hxl)
              have hv0 : vs = [] := List.eq_nil_of_length_eq_zero (by simpa using hvsl)
              subst hx0 hv0
              have hrun := run_append_fits (P := P) (w := w) (ty := ty) (w' := w) (m := 0) (cap := 0) (n := 0) (vs := []) ht hu hargs1 hargs2 hut hj hdu hd' (hlen w) (by have := hfc w 0 (Ext.refl w) (Nat.le_refl _); rw [hsz]; simpa using this)
                (Nat.le_refl _) (fun q e => by cases e) (fun _ => rfl)
              refine ⟨_, _, _, .inl (hexec _ _ hrun), hst.place (k := none) (x := none) hv (Step.refl _ _) (Kept.refl _ _) (.inl ⟨rfl, rfl⟩) (fun _ _ _ _ _ _ _ => rfl), .slz, (vac_set hv _).1, set_oth _ _⟩
            · obtain ⟨w1, nc, c, e1, e2, e3, e4, e5, hnc, hcs, hcg, hrun⟩ := run_append_grows (P := P) (w := w) (ty := ty) (m := 0) (cap := 0) (ad := none) (vs := vs) (old := []) ht hu hargs1 hargs2 hut hj hze (by rw [hzs, hsz]) hdu hd' (hlen w)
                (fun w' hw' => by rw [hsz]; have := hfc w' n hw' (Nat.le_refl _); rw [← hvsl, List.take_length] at this; exact this) (fun w' _ => by simp [Builtin.firstCells]) (by omega) (by rw [hby]; simpa using hcap.1) (by omega) (by simp) (by rw [hsz]; exact hvsl)
              have hst1 := hst.same e1 e2 e3 e4 e5
              have hcsz : xs.length ≤ c.size := by rw [hcs, hsz, hxl]; exact Nat.mul_le_mul_right _ (by omega)
              have hal := hst1.alloc (c := c) (e := et) (cs := xs) hv hcsz (fun i hi => by
                have h1 := hvl.2 i hi
                rw [hcg i (by rw [← hvl.1]; simp; exact hi)]
                exact h1.step (Step.heap e1) (fun _ h => h) (fun _ _ h => h))
              refine ⟨_, _, _, .inl (hexec _ _ hrun), hal, ?_, (vac_set hv _).1, set_oth _ _⟩
              have hroom : Room (w1.alloc (.cells c et)) w1.heap.size (0 + 0 + nc * esz) := ⟨c, et, (0, 0), by show (w1.heap.push _)[w1.heap.size]? = _; rw [Array.getElem?_push_size], by rw [hcs, hsz]; omega⟩
              have := VR.sl (w := w1.alloc (.cells c et)) (per := per) (sz := esz) (off := 0) (len := n) (cap := nc) (vac_set hv (some (w1.heap.size, 0))).2 (by omega) hroom
              rw [Nat.zero_add, ← e1]
              exact this
          · cases h
        · rename_i n xs sz hh oo m hsrc ey
          rw [ey] at hyv
          obtain ⟨vs, hvl, hxl, hlen, hfc⟩ := src_sound (P := P) hst hzv hsrc
          have hvsl : vs.length = n * esz := by rw [← hvl.1]; exact hxl
          split at h
          · rename_i cs hrow
            split at h
            · rename_i hb
              simp only [Option.some.injEq, Prod.mk.injEq] at h
              obtain ⟨rfl, rfl⟩ := h
              obtain ⟨rfl, hle, hcap, hbig, hsol⟩ := hb
              have hH := row_some hrow
              have hlt := lt_row hH
              have hιl : hh < ι.length := by rw [hst.rep.len]; exact hlt
              generalize hyy : a.eval y = yv at hyv hargs1
              have hsrcy : srcCells H sz (.sl sz hh oo m) = some (m, (cs.drop oo).take (m * sz)) := by simp [srcCells, hrow, hle]
              obtain ⟨vo, hvo, hol, hleno, hfo⟩ := src_sound (P := P) hst hyv hsrcy
              have hvol : vo.length = m * sz := by rw [← hvo.1]; exact hol
              have hall := hvo.append hvl
              have hol2 : (((cs.drop oo).take (m * sz)) ++ xs).length = (m + n) * sz := by rw [List.length_append, hol, hxl, Nat.add_mul]
              -- a new array
              have grows : ∀ ad cap, yv = .slice ad m cap → ¬ m + n ≤ cap → Does P cx N ι per nn F ((H.set hh none).set nn (some (((cs.drop oo).take (m * sz)) ++ xs))) a (.sl sz nn 0 (m + n))
                  (execOp a.eval ⟨dst, .call ⟨.builtin .append, args, argTypes⟩, ty, pos, after, guard⟩) w := by
                intro ad cap hyv2 hnf
                subst hyv2
                obtain ⟨w1, nc, c, e1, e2, e3, e4, e5, hnc, hcs, hcg, hrun⟩ := run_append_grows (P := P) (w := w) (ty := ty) (m := m) (cap := cap) (ad := ad) (vs := vs) (old := vo) ht hu hargs1 hargs2 hut hj hze (by rw [hzs, hsz]) hdu hd' (hlen w)
                  (fun w' hw' => by rw [hsz]; have := hfc w' n hw' (Nat.le_refl _); rw [← hvsl, List.take_length] at this; exact this) (fun w' hw' => by rw [hsz]; have := hfo w' m hw' (Nat.le_refl _); rw [← hvol, List.take_length] at this; exact this)
                  hnf (by rw [hby]; exact hcap) (by omega) (by rw [hsz]; exact hvol) (by rw [hsz]; exact hvsl)
                have hst1 := hst.same e1 e2 e3 e4 e5
                have hstep : Step per w (w1.alloc (.cells c et)) := (Step.heap e1).trans (Step.alloc hst1.rep.perlt _)
                have hbel : Kept cx.kp w (w1.alloc (.cells c et)) := (Kept.heap e1 e2 e3 e4 e5).trans (Kept.alloc hst1.bs _)
                have hnew : (w1.alloc (.cells c et)).heap[w.heap.size]? = some (.cells c et (0, 0)) := by
                  rw [← e1]; show (w1.heap.push _)[w1.heap.size]? = _; rw [Array.getElem?_push_size]
                have hcsz : (m + n) * sz ≤ c.size := by rw [hcs, hsz]; exact Nat.mul_le_mul_right _ (by omega)
                refine ⟨_, _, _, .inl (hexec _ _ hrun), hst.place (k := some hh) (x := some (w.heap.size, 0)) hv hstep hbel (.inr ⟨w.heap.size, 0, c, (et, 0, 0), rfl, fun hp => absurd (hst.bs _ hp) (by omega), fun hp => absurd (hst.rep.perlt _ hp) (by omega), .of hnew, by rw [hol2, Nat.zero_add]; exact hcsz, fun i hi => ?_, fun k ds p q hk hkH hkι => ?_⟩) (fun k ds p q hk hkH hkι => ?_), ?_, (vac_set hv _).1, set_oth _ _⟩
                · have h1 := hall.2 i hi
                  rw [Nat.zero_add, hcg i (by rw [← hvo.1, ← hvl.1]; simpa using hi)]
                  exact h1.step hstep (fun _ h => h) (fun _ _ h => h)
                · obtain ⟨c3, e3, h1, h2, h3, h4, h5⟩ := hst.rep.block hkH hkι
                  have := lt_of_get h3.1
                  omega
                · obtain ⟨c3, e3, h1, h2, h3, h4, h5⟩ := hst.rep.block hkH hkι
                  have := lt_of_get h3.1
                  rw [Below.heap_alloc _ _ _ (by rw [e1]; exact this), e1]
                · have hroom : Room (w1.alloc (.cells c et)) w.heap.size (0 + 0 + nc * sz) := ⟨c, et, (0, 0), hnew, by rw [hcs, hsz]; omega⟩
                  exact VR.sl (per := per) (sz := sz) (off := 0) (vac_set hv (some (w.heap.size, 0))).2 hnc hroom
              rcases hyv.sl_inv with ⟨b, o, cap, hib, hml, hr, hyv2⟩ | ⟨hm0, aa, hyv2⟩
              · by_cases hfit : m + n ≤ cap
                · obtain ⟨c, e2, h1, h2, h3, h4, h5⟩ := hst.rep.block hH hib
                  obtain ⟨c3, e3, fz3, hr1, hr2⟩ := hr
                  rw [h3.1] at hr1
                  simp only [Option.some.injEq, Obj.cells.injEq] at hr1
                  obtain ⟨rfl, rfl, _⟩ := hr1
                  have hmn : m * sz + n * sz ≤ cap * sz := by rw [← Nat.add_mul]; exact Nat.mul_le_mul_right _ hfit
                  have hone : ∀ v ∈ vs, v.oneCell' = true := by
                    intro v hv
                    obtain ⟨k, hk, rfl⟩ := List.getElem_of_mem hv
                    have hk2 : k < xs.length := by rw [hvl.1]; exact hk
                    have h6 := hvl.2 k hk2
                    rw [List.getD_eq_getElem?_getD, List.getElem?_eq_getElem hk] at h6
                    exact h6.one (List.all_eq_true.1 hsol _ (List.getElem_mem hk2))
                  obtain ⟨c', hrun, hcs, hcg⟩ := run_storeCells (P := P) (b := b) (o := o + oo + m * sz) (e := e2) vs 0 w c h3 (by rw [hvsl]; omega) hone
                  subst hyv2
                  have hrun2 := run_append_fits (P := P) (w := w) (ty := ty) (w' := setBlk w b (.cells c' e2.1 e2.2)) ht hu hargs1 hargs2 hut hj hdu hd' (hlen w)
                    (by rw [hsz]; have := hfc w n (Ext.refl w) (Nat.le_refl _); rw [← hvsl, List.take_length] at this; exact this) hfit (fun q hq => by cases hq; rw [hsz, add_plain]; exact hrun) (fun e => by cases e)
                  have hstep := Step.blk (per := per) h3.1 h2 hcs
                  have hblt := lt_of_get h3.1
                  have hbel : Kept cx.kp w (setBlk w b (.cells c' e2.1 e2.2)) := ⟨rfl, rfl, rfl, by rw [setBlk_size]; exact Nat.le_refl _, Step.blk h3.1 h1 hcs, fun k o' hk ho => by rw [setBlk_get, if_neg (fun e' => by subst e'; rw [h3.1] at hk; cases hk; cases ho)]; exact hk, Nat.le_refl _⟩
                  have hnew : Live (setBlk w b (.cells c' e2.1 e2.2)) b c' e2 := ⟨by rw [setBlk_get]; simp [hblt], by rw [hcs]; exact h3.2⟩
                  have hfin : o + oo + (m + n) * sz ≤ c'.size := by rw [hcs, Nat.add_mul]; omega
                  refine ⟨_, _, _, .inl (hexec _ _ hrun2), hst.place (k := some hh) (x := some (b, o + oo)) hv hstep hbel (.inr ⟨b, o + oo, c', e2, rfl, h1, h2, hnew, by rw [hol2]; exact hfin, fun i hi => ?_, fun k ds p q hk hkH hkι => fun e => hk (congrArg some (hst.rep.inj k hh ds cs p q b o hkH hH hkι hib e).symm)⟩) (fun k ds p q hk hkH hkι => ?_), ?_, (vac_set hv _).1, set_oth _ _⟩
                  · rw [hcg (o + oo + i)]
                    by_cases him : i < m * sz
                    · rw [if_neg (by omega), List.getElem_append_left (by rw [hol]; exact him), List.getElem_take, List.getElem_drop]
                      have := h5 (oo + i) (by omega)
                      rw [← Nat.add_assoc] at this
                      exact this.step hstep (fun _ h => h) (fun _ _ h => h)
                    · have hix : i - m * sz < xs.length := by rw [List.length_append, hol] at hi; omega
                      rw [if_pos (by rw [← hvl.1]; omega), List.getElem_append_right (by rw [hol]; omega)]
                      have h6 := hvl.2 (i - m * sz) hix
                      have e5 : o + oo + i - (o + oo + m * sz + 0) = i - m * sz := by omega
                      rw [e5]
                      simp only [hol]
                      exact h6.step hstep (fun _ h => h) (fun _ _ h => h)
                  · rw [setBlk_get, if_neg]
                    intro e
                    exact hk (congrArg some (hst.rep.inj k hh ds cs p q b o hkH hH hkι hib e.symm).symm)
                  · have hroom : Room (setBlk w b (.cells c' e2.1 e2.2)) b (o + oo + 0 + cap * sz) := ⟨c', e2.1, e2.2, hnew.1, by rw [hcs]; omega⟩
                    exact VR.sl (per := per) (sz := sz) (off := 0) (vac_set hv (some (b, o + oo))).2 hfit hroom
                · exact grows _ _ hyv2 hfit
              · subst hm0
                by_cases hn0 : n = 0
                · subst hn0
                  have hx0 : xs = [] := List.eq_nil_of_length_eq_zero (by simpa using hxl)
                  have hv0 : vs = [] := List.eq_nil_of_length_eq_zero (by simpa using hvsl)
                  subst hx0 hv0 hyv2
                  have hrun2 := run_append_fits (P := P) (w := w) (ty := ty) (w' := w) (vs := []) ht hu hargs1 hargs2 hut hj hdu hd' (hlen w)
                    (by have := hfc w 0 (Ext.refl w) (Nat.le_refl _); rw [hsz]; simpa using this) (Nat.le_refl _) (fun q hq => by simp [storeCells]) (fun _ => rfl)
                  refine ⟨_, _, _, .inl (hexec _ _ hrun2), hst.place (k := some hh) (x := none) hv (Step.refl _ _) (Kept.refl _ _) (.inl ⟨rfl, by simp⟩) (fun _ _ _ _ _ _ _ => rfl), .slz, (vac_set hv _).1, set_oth _ _⟩
                · exact grows _ _ hyv2 (by omega)
            · cases h
          · cases h
        · cases h
    · cases h
  · cases h

theorem putCells_length {cs ds : List LV} {o : Nat} (h : o + ds.length ≤ cs.length) : (putCells cs o ds).length = cs.length := by
  simp [putCells]; omega

theorem putCells_get {cs ds : List LV} {o : Nat} (h : o + ds.length ≤ cs.length) (i : Nat) : (putCells cs o ds)[i]? = if o ≤ i ∧ i < o + ds.length then ds[i - o]? else cs[i]? := by
  unfold putCells
  by_cases h1 : i < o
  · rw [if_neg (by omega), List.append_assoc, List.getElem?_append_left (by simp; omega), List.getElem?_take, if_pos h1]
  · by_cases h2 : i < o + ds.length
    · rw [if_pos (by omega), List.getElem?_append_left (by simp; omega), List.getElem?_append_right (by simp; omega)]
      congr 1
      simp; omega
    · rw [if_neg (by omega), List.getElem?_append_right (by simp; omega), List.getElem?_drop]
      congr 1
      simp; omega

theorem eff_copy (hst : ST cx N ι per F H a w) {args argTypes} {dst ty pos after guard} (h : effOp (ttOf P) F H nn (.call ⟨.builtin .copy, args, argTypes⟩) = some (x, ws)) :
    Does P cx N ι per nn F (applyWs H ws) a x (execOp a.eval ⟨dst, .call ⟨.builtin .copy, args, argTypes⟩, ty, pos, after, guard⟩) w := by
  simp only [effOp] at h
  split at h
  · rename_i t y z ht hy hz
    split at h
    · rename_i esz eb ez _ _ _ htt
      obtain ⟨et, j, ze, hut, hj, hsz, hby, hze, hez, hzs, hpos⟩ := slice_spec htt
      have hargs1 : (args.map a.eval)[0]? = some (a.eval y) := by simp [hy]
      have hargs2 : (args.map a.eval)[1]? = some (a.eval z) := by simp [hz]
      have hyv := hst.fr.eval y
      have hzv := hst.fr.eval z
      split at h
      · rename_i sz hh oo m n xs ey hsrc
        rw [ey] at hyv
        split at h
        · rename_i cs hrow
          split at h
          · rename_i hb
            simp only [Option.some.injEq, Prod.mk.injEq] at h
            obtain ⟨rfl, rfl⟩ := h
            obtain ⟨rfl, hle, hsol⟩ := hb
            obtain ⟨vs, hvl, hxl, hlen, hfc⟩ := src_sound (P := P) hst hzv hsrc
            have hvsl : vs.length = n * sz := by rw [← hvl.1]; exact hxl
            have hH := row_some hrow
            have hkn : Nat.min n m ≤ n := Nat.min_le_left n m
            have hkm : Nat.min n m ≤ m := Nat.min_le_right n m
            have hkn2 : Nat.min n m * sz ≤ n * sz := Nat.mul_le_mul_right _ hkn
            have hkm2 : Nat.min n m * sz ≤ m * sz := Nat.mul_le_mul_right _ hkm
            have hxtl : (xs.take (Nat.min n m * sz)).length = Nat.min n m * sz := by simp; omega
            have hvtl : (vs.take (Nat.min n m * sz)).length = Nat.min n m * sz := by simp; omega
            generalize hyy : a.eval y = yv at hyv hargs1
            have hfirst := hfc w (Nat.min n m) (Ext.refl w) hkn
            have hbound : oo + (xs.take (Nat.min n m * sz)).length ≤ cs.length := by rw [hxtl]; omega
            rcases hyv.sl_inv with ⟨b, o, cap, hib, hml, hr, hyv2⟩ | ⟨hm0, aa, hyv2⟩
            · obtain ⟨c, e2, h1, h2, h3, h4, h5⟩ := hst.rep.block hH hib
              have hone : ∀ v ∈ vs.take (Nat.min n m * sz), v.oneCell' = true := by
                intro v hv
                obtain ⟨k, hk, rfl⟩ := List.getElem_of_mem (List.mem_of_mem_take hv)
                have hk2 : k < xs.length := by rw [hvl.1]; exact hk
                have h6 := hvl.2 k hk2
                rw [List.getD_eq_getElem?_getD, List.getElem?_eq_getElem hk] at h6
                exact h6.one (List.all_eq_true.1 hsol _ (List.getElem_mem hk2))
              obtain ⟨c', hrun, hcs, hcg⟩ := run_storeCells (P := P) (b := b) (o := o + oo) (e := e2) (vs.take (Nat.min n m * sz)) 0 w c h3 (by rw [hvtl]; omega) hone
              have hrow2 := hst.row (cs' := putCells cs oo (xs.take (Nat.min n m * sz))) hH hib h3 h1 h2 hcs (by rw [putCells_length hbound]; exact h4) (fun k hk => by
                have hk2 : k < cs.length := by rw [putCells_length hbound] at hk; exact hk
                have hg := putCells_get hbound k
                rw [List.getElem?_eq_getElem hk] at hg
                rw [hcg (o + k), hvtl]
                rw [hxtl] at hg
                by_cases hin : oo ≤ k ∧ k < oo + Nat.min n m * sz
                · rw [if_pos hin] at hg
                  rw [if_pos (by omega)]
                  have hk3 : k - oo < (xs.take (Nat.min n m * sz)).length := by rw [hxtl]; omega
                  rw [List.getElem?_eq_getElem hk3] at hg
                  rw [Option.some.inj hg]
                  have := (hvl.take (Nat.min n m * sz)).2 (k - oo) hk3
                  have e1 : o + k - (o + oo + 0) = k - oo := by omega
                  rw [e1]; exact this
                · rw [if_neg hin, List.getElem?_eq_getElem hk2] at hg
                  rw [if_neg (by omega)]
                  rw [Option.some.inj hg]
                  exact h5 k hk2)
              subst hyv2
              refine ⟨.int .i64 (Nat.min n m), _, ι, .inl ?_, hrow2, .int _ _, fun _ _ h => h, fun _ _ => rfl⟩
              simp only [execOp, resolve, invoke, builtin, Builtin.copy_, ht, hargs1, hargs2, Sem.run_bind, Sem.run_pure, Result.andThen_ok, run_underlying hut, hlen w, run_sizeOf hj, hsz, hfirst, hrun, goInt]
            · subst hm0 hyv2
              have hmin : Nat.min n 0 = 0 := Nat.min_eq_right (Nat.zero_le _)
              rw [hmin] at hfirst
              simp only [Nat.zero_mul, List.take_zero] at hfirst
              have hput : putCells cs oo (xs.take (Nat.min n 0 * sz)) = cs := by simp [putCells, hmin]
              have hHH : H.set hh (some (putCells cs oo (xs.take (Nat.min n 0 * sz)))) = H := by
                rw [hput]
                apply List.ext_getElem?
                intro k
                rw [List.getElem?_set]
                split
                · rename_i e; subst e; rw [if_pos (lt_row hH)]; exact hH.symm
                · rfl
              simp only [applyWs]
              rw [hHH]
              refine ⟨.int .i64 (Nat.min n 0), w, ι, .inl ?_, hst, .int _ _, fun _ _ h => h, fun _ _ => rfl⟩
              cases aa <;> simp [execOp, resolve, invoke, builtin, Builtin.copy_, ht, hargs1, hargs2, run_underlying hut, hlen w, run_sizeOf hj, hsz, hfirst, hmin, goInt, storeCells]
          · cases h
        · cases h
      · cases h
    · cases h
  · cases h

theorem zerosL_solid {n : Nat} {zs : List LV} (h : zs.all solid = true) : (zerosL n zs).all solid = true := by
  rw [List.all_eq_true] at h ⊢
  intro x hx
  obtain ⟨i, hi, rfl⟩ := List.getElem_of_mem hx
  have hi2 : i < n * zs.length := by rw [zerosL_length] at hi; exact hi
  have h1 := zerosL_get? hi2
  rw [List.getElem?_eq_getElem hi] at h1
  have hm : i % zs.length < zs.length := Nat.mod_lt _ (by rcases Nat.eq_zero_or_pos zs.length with h | h
                                                          · rw [h] at hi2; simp at hi2
                                                          · exact h)
  rw [List.getElem?_eq_getElem hm] at h1
  rw [Option.some.inj h1]
  exact h _ (List.getElem_mem hm)

theorem eff_clear (hst : ST cx N ι per F H a w) {args argTypes} {dst ty pos after guard} (h : effOp (ttOf P) F H nn (.call ⟨.builtin .clear, args, argTypes⟩) = some (x, ws)) :
    Does P cx N ι per nn F (applyWs H ws) a x (execOp a.eval ⟨dst, .call ⟨.builtin .clear, args, argTypes⟩, ty, pos, after, guard⟩) w := by
  simp only [effOp] at h
  split at h
  · rename_i t y ht hy
    split at h
    · rename_i esz eb ez _ _ _ sz hh oo m htt ey
      obtain ⟨et, j, ze, hut, hj, hsz, hby, hze, hez, hzs, hpos⟩ := slice_spec htt
      have hargs1 : (args.map a.eval)[0]? = some (a.eval y) := by simp [hy]
      have hyv := hst.fr.eval y
      rw [ey] at hyv
      split at h
      · rename_i cs hrow
        split at h
        · rename_i hb
          simp only [Option.some.injEq, Prod.mk.injEq] at h
          obtain ⟨rfl, rfl⟩ := h
          obtain ⟨rfl, hle, hsol⟩ := hb
          have hH := row_some hrow
          have ezl : ez.length = sz := by rw [hez]; simp [hzs]
          have hxl : (zerosL m ez).length = m * sz := by rw [zerosL_length, ezl]
          obtain ⟨vs, hvs⟩ : ∃ vs, vs = (Builtin.zeroCells ze.cells m).toList := ⟨_, rfl⟩
          have hvsl : vs.length = m * sz := by rw [hvs]; simp [zeroCells_size, hzs]
          have hvl : VL w ι per (zerosL m ez) vs := by
            refine ⟨by rw [hxl, hvsl], fun i hi => ?_⟩
            subst hez
            have h1 := zerosL_get (n := m) (z := ze) w ι per hi
            have hi2 : i < m * ze.cells.size := by rw [hxl] at hi; rw [hzs]; exact hi
            have e1 : vs.getD i undef = ze.cells[i % ze.cells.size]! := by
              rw [hvs]; simp [Builtin.zeroCells, hi2]
            rw [e1]; exact h1
          generalize hyy : a.eval y = yv at hyv hargs1
          have hbound : oo + (zerosL m ez).length ≤ cs.length := by rw [hxl]; omega
          rcases hyv.sl_inv with ⟨b, o, cap, hib, hml, hr, hyv2⟩ | ⟨hm0, aa, hyv2⟩
          · obtain ⟨c, e2, h1, h2, h3, h4, h5⟩ := hst.rep.block hH hib
            have hsol2 := zerosL_solid (n := m) hsol
            have hone : ∀ v ∈ vs, v.oneCell' = true := by
              intro v hv
              obtain ⟨k, hk, rfl⟩ := List.getElem_of_mem hv
              have hk2 : k < (zerosL m ez).length := by rw [hvl.1]; exact hk
              have h6 := hvl.2 k hk2
              rw [List.getD_eq_getElem?_getD, List.getElem?_eq_getElem hk] at h6
              exact h6.one (List.all_eq_true.1 hsol2 _ (List.getElem_mem hk2))
            obtain ⟨c', hrun, hcs, hcg⟩ := run_storeCells (P := P) (b := b) (o := o + oo) (e := e2) vs 0 w c h3 (by rw [hvsl]; omega) hone
            have hrow2 := hst.row (cs' := putCells cs oo (zerosL m ez)) hH hib h3 h1 h2 hcs (by rw [putCells_length hbound]; exact h4) (fun k hk => by
              have hk2 : k < cs.length := by rw [putCells_length hbound] at hk; exact hk
              have hg := putCells_get hbound k
              rw [List.getElem?_eq_getElem hk] at hg
              rw [hcg (o + k), hvsl]
              rw [hxl] at hg
              by_cases hin : oo ≤ k ∧ k < oo + m * sz
              · rw [if_pos hin] at hg
                rw [if_pos (by omega)]
                have hk3 : k - oo < (zerosL m ez).length := by rw [hxl]; omega
                rw [List.getElem?_eq_getElem hk3] at hg
                rw [Option.some.inj hg]
                have := hvl.2 (k - oo) hk3
                have e1 : o + k - (o + oo + 0) = k - oo := by omega
                rw [e1]; exact this
              · rw [if_neg hin, List.getElem?_eq_getElem hk2] at hg
                rw [if_neg (by omega)]
                rw [Option.some.inj hg]
                exact h5 k hk2)
            subst hyv2
            refine ⟨.tuple #[], _, ι, .inl ?_, hrow2, .tup (cs := []) (vs := []) rfl (fun i hi => by simp at hi), fun _ _ h => h, fun _ _ => rfl⟩
            rcases Nat.eq_zero_or_pos m with hm0 | hm0
            · subst hm0
              have hv0 : vs = [] := List.eq_nil_of_length_eq_zero (by rw [hvsl]; simp)
              rw [hv0] at hrun
              simp only [storeCells, Sem.run_pure, Result.ok.injEq, true_and] at hrun
              simp only [execOp, resolve, invoke, builtin, Builtin.clear_, ht, hargs1, Sem.run_bind, Sem.run_pure, Result.andThen_ok, run_underlying hut, Result.ok.injEq, true_and]
              exact hrun
            · obtain ⟨m', rfl⟩ : ∃ m', m = m' + 1 := ⟨m - 1, by omega⟩
              simp only [execOp, resolve, invoke, builtin, Builtin.clear_, ht, hargs1, Sem.run_bind, Sem.run_pure, Result.andThen_ok, run_underlying hut, run_zeroValue hj hze, ← hvs, hrun]
          · subst hm0 hyv2
            have hput : putCells cs oo (zerosL 0 ez) = cs := by
              have : zerosL 0 ez = [] := List.eq_nil_of_length_eq_zero (by rw [hxl]; simp)
              rw [this]; simp [putCells]
            have hHH : H.set hh (some (putCells cs oo (zerosL 0 ez))) = H := by
              rw [hput]
              apply List.ext_getElem?
              intro k
              rw [List.getElem?_set]
              split
              · rename_i e; subst e; rw [if_pos (lt_row hH)]; exact hH.symm
              · rfl
            simp only [applyWs]
            rw [hHH]
            refine ⟨.tuple #[], w, ι, .inl ?_, hst, .tup (cs := []) (vs := []) rfl (fun i hi => by simp at hi), fun _ _ h => h, fun _ _ => rfl⟩
            cases aa <;> simp [execOp, resolve, invoke, builtin, Builtin.clear_, ht, hargs1, run_underlying hut]
        · cases h
      · cases h
    · cases h
  · cases h

theorem eff_sound (hst : ST cx N ι per F H a w) {o : Oper} (hv : makes o.op = true → Vac N ι H nn) (h : effOp (ttOf P) F H nn o.op = some (x, ws)) : Does P cx N ι per nn F (applyWs H ws) a x (execOp a.eval o) w := by
  obtain ⟨dst, op, ty, pos, after, guard⟩ := o
  cases op with
  | alloc t => exact eff_alloc hst (hv rfl) h
  | box t y => exact eff_box hst (hv rfl) h
  | buildSlice t len parts => exact eff_buildSlice hst (hv rfl) h
  | store t y z => exact eff_store hst h
  | makeSlice t l c => exact eff_makeSlice hst (hv rfl) h
  | call c =>
    obtain ⟨callee, args, argTypes⟩ := c
    cases callee with
    | builtin b =>
      cases b with
      | append => exact eff_append hst (hv rfl) h
      | copy => exact eff_copy hst h
      | clear => exact eff_clear hst h
      | _ => cases h
    | _ => cases h
  | _ => cases h

/-- The same where the next number is taken. -/
theorem effN_sound (hst : ST cx N ι per F H a w) {o : Oper} {H' : Hp} (h : effN (ttOf P) F H o.op = some (x, H')) : ∃ ι1, Does P cx N ι1 per H.length F H' a x (execOp a.eval o) w := by
  unfold effN at h
  cases he : effOp (ttOf P) F (more o.op H) H.length o.op with
  | none => rw [he] at h; cases h
  | some r =>
    obtain ⟨y, ws⟩ := r
    rw [he] at h
    simp only [Option.some.injEq, Prod.mk.injEq] at h
    obtain ⟨rfl, rfl⟩ := h
    unfold more at he ⊢
    split
    · rename_i hm
      rw [if_pos hm] at he
      exact ⟨_, eff_sound hst.ext1.1 (fun _ => hst.ext1.2) he⟩
    · rename_i hm
      rw [if_neg hm] at he
      exact ⟨_, eff_sound hst (fun e => absurd e hm) he⟩

end
end Go.Lite

/- Lite, part J: contracts of functions, calls, regions. -/
namespace Go.Lite
open Go Go.RowKit
set_option linter.unusedVariables false

/-- The function can be entered. -/
def callable (P : Program) (f : Nat) : Bool :=
  match P.funcs[f]? with
  | some fn => !(fn.name == "runtime.NumGoroutine") && !fn.body.isNone
  | none => false

/-- What a call hands back, and the rows behind it: those that came in keep their numbers. -/
def LEnd (R : LV → Hp → Prop) (kp per : Nat → Prop) (ι : Pl) (w : World) (e : Ending) (w' : World) : Prop :=
  ∃ v res H' ι' per', e = .returned v ∧ R res H' ∧ Kept kp w w' ∧ Rep kp w' ι' per' H' ∧ VR w' per' ι' res v ∧
    (∀ b, per' b → per b ∨ ¬ kp b) ∧ (∀ b, per b → per' b) ∧ ∀ h, h < ι.length → ι'[h]? = ι[h]?

/-- A function's contract: the arguments may hold the rows of H. -/
def LC (P : Program) (f : Nat) (args : List LV) (H : Hp) (R : LV → Hp → Prop) : Prop :=
  callable P f = true ∧ ∀ (kp per : Nat → Prop) (ι : Pl) (w : World) (vs : List Value), Rep kp w ι per H → (∀ b, kp b → b < w.heap.size) → (∀ b, per b → kp b) → VL w ι per args vs →
    Calls P f vs.toArray w (LEnd R kp per ι w)

/-- A contract where the function may ask for rounds of a loop of its caller's. -/
def LCY (P : Program) (f : Nat) (y : Option YY) (args : List LV) (H : Hp) (R : LV → Hp → Prop) : Prop :=
  callable P f = true ∧ ∀ (kp per : Nat → Prop) (ι : Pl) (w : World) (vs : List Value), Rep kp w ι per H → (∀ b, kp b → b < w.heap.size) → (∀ b, per b → kp b) → (∀ z, y = some z → YRec kp per ι w z) → VL w ι per args vs →
    Calls P f vs.toArray w (LEnd R kp per ι w)

theorem LCY.lc {P : Program} {f : Nat} {args : List LV} {H : Hp} {R : LV → Hp → Prop} (h : LCY P f none args H R) : LC P f args H R :=
  ⟨h.1, fun kp per ι w vs h1 h2 h3 h4 => h.2 kp per ι w vs h1 h2 h3 (fun z hz => by cases hz) h4⟩

theorem LC.mono {P : Program} {f : Nat} {args : List LV} {H : Hp} {R R' : LV → Hp → Prop} (h : LC P f args H R) (hr : ∀ x H, R x H → R' x H) : LC P f args H R' :=
  ⟨h.1, fun kp per ι w vs h1 h2 h3 h4 => (h.2 kp per ι w vs h1 h2 h3 h4).mono fun e w' ⟨v, res, H', ι', per', g1, g2, g3⟩ => ⟨v, res, H', ι', per', g1, hr _ _ g2, g3⟩⟩

def frameOf : Nat → List LV → Fr
  | _, [] => []
  | k, x :: r => (k, x) :: frameOf (k + 1) r

theorem fget_frameOf (l : List LV) : ∀ (k t : Nat), fget (frameOf k l) t = if k ≤ t then (l[t - k]?).getD .dead else .dead := by
  induction l with
  | nil => intro k t; simp [frameOf, fget]
  | cons x r ih =>
    intro k t
    simp only [frameOf, fget_cons]
    by_cases h : k = t
    · subst h; simp
    · rw [if_neg h, ih]
      by_cases h2 : k + 1 ≤ t
      · rw [if_pos h2, if_pos (by omega)]
        have : t - k = (t - (k + 1)) + 1 := by omega
        rw [this, List.getElem?_cons_succ]
      · rw [if_neg h2, if_neg (by omega)]

def lresL (τ : TT) (F : Fr) (H : Hp) : List ResultVar → Option (List LV)
  | [] => some []
  | .tmp t :: r => (lresL τ F H r).map (fget F t :: ·)
  | .cell a t :: r => match τ t, fget F a with
    | some ti, .ptr h o => (match row H h with
      | some cs => (match lpart ti.agg ti.size cs o, lresL τ F H r with | some x, some l => some (x :: l) | _, _ => none)
      | none => none)
    | _, _ => none

def lres (τ : TT) (fn : Func) (F : Fr) (H : Hp) : Option LV :=
  match lresL τ F H fn.results.toList with
  | some [x] => some x
  | some l => some (.tup l)
  | none => none

def retQ (P : Program) (fn : Func) (R : LV → Hp → Prop) : LPost
  | .normal, F, H | .ret, F, H => ∃ x, lres (ttOf P) fn F H = some x ∧ R x H
  | _, _, _ => False

section
variable {P : Program} {cx : Ctx} {N : Dim} {ι : Pl} {per : Nat → Prop} {F F' : Fr} {H H' : Hp} {a : Act} {w : World} {x : LV}

theorem loadVar_sound (hst : ST cx N ι per F H a w) {t : TypeId} {ti : TI} {h o : Nat} {cs : List LV} {v : Value} (hti : tiOf P t = some ti) (hv : VR w per ι (.ptr h o) v) (hrow : row H h = some cs)
    (hp : lpart ti.agg ti.size cs o = some x) : ∃ u, (do loadVar t (← asAddr v) : Sem Value).run P w = .ok u w ∧ VR w per ι x u := by
  have hst2 : ST cx ⟨a.tmps.size + 1, N.m, N.rd, N.y⟩ ι per (fset F a.tmps.size (.ptr h o)) H ⟨a.tmps.push v, a.defers⟩ w := by
    refine ⟨hst.rep, hst.p1, hst.p2, fun t => ?_, by simp, hst.defers, hst.below, hst.bs, hst.grow⟩
    rw [fget_fset]
    by_cases ht : a.tmps.size = t
    · subst ht; simp; exact hv
    · rw [if_neg ht]
      have := hst.fr t
      have e : (a.tmps.push v).getD t undef = a.tmps.getD t undef := by
        simp only [Array.getD_eq_getD_getElem?, Array.getElem?_push]
        rw [if_neg (fun e => ht e.symm)]
      simp only [e]; exact this
  obtain ⟨u, hu, hr⟩ := load_sound (P := P) (x := x) hst2 (o := ⟨none, .load t (.tmp a.tmps.size), 0, "", #[], none⟩) (by simp [loadOp, ttOf, hti, evalO, fget_fset, hrow, hp])
  refine ⟨u, ?_, hr⟩
  have h1 := hu w (Ext.refl w)
  obtain ⟨b, oo, _, rfl⟩ := hv.ptr_inv
  simp only [execOp, Act.eval, Instr.loadAt, Sem.run_bind, Sem.run_pure] at h1
  simp only [Array.getD_eq_getD_getElem?, Array.getElem?_push_size, Option.getD_some, Instr.sureAddr, Sem.run_pure, Result.andThen_ok] at h1
  simp only [Sem.run_bind, asAddr, Sem.run_pure, Result.andThen_ok]
  cases hr2 : (loadVar t ⟨b, oo + o, none⟩).run P w with
  | ok y w1 => rw [hr2] at h1; simp only [Result.andThen_ok, Result.ok.injEq, Next.value.injEq] at h1; obtain ⟨rfl, rfl⟩ := h1; rfl
  | halt y w1 => rw [hr2] at h1; simp only [Result.andThen_halt, reduceCtorEq] at h1

theorem lresL_sound (hst : ST cx N ι per F H a w) (l : List ResultVar) : ∀ (xs : List LV) (acc : Array Value), lresL (ttOf P) F H l = some xs →
    ∃ us : List Value, (l.foldlM (fun (bs : Array Value) (r : ResultVar) => bs.push <$> (match r with | .tmp t => pure (a.tmps.getD t undef) | .cell c t => do loadVar t (← asAddr (a.tmps.getD c undef)) : Sem Value)) acc).run P w = .ok (acc ++ us.toArray) w ∧ VL w ι per xs us := by
  induction l with
  | nil => intro xs acc h; obtain rfl := Option.some.inj h; exact ⟨[], by simp, .nil⟩
  | cons r l ih =>
    intro xs acc h
    cases r with
    | tmp t =>
      simp only [lresL, Option.map_eq_some_iff] at h
      obtain ⟨ys, hys, rfl⟩ := h
      obtain ⟨us, hus, hl⟩ := ih ys (acc.push (a.tmps.getD t undef)) hys
      refine ⟨a.tmps.getD t undef :: us, ?_, (VL.one (hst.fr t)).append hl⟩
      simp only [List.foldlM_cons, Sem.run_bind, Sem.run_map, Sem.run_pure, Result.andThen_ok, hus]
      simp
    | cell c t =>
      simp only [lresL] at h
      split at h
      · rename_i ti hh oo hti e
        split at h
        · rename_i cs hrow
          split at h
          · rename_i y ys hy hys
            obtain rfl := Option.some.inj h
            have hv := hst.fr c
            rw [e] at hv
            obtain ⟨u, hu, hr⟩ := loadVar_sound (P := P) hst hti hv hrow hy
            obtain ⟨us, hus, hl⟩ := ih ys (acc.push u) hys
            refine ⟨u :: us, ?_, (VL.one hr).append hl⟩
            simp only [List.foldlM_cons, Sem.run_bind, Sem.run_map] at hu ⊢
            rw [hu]
            simp only [Result.andThen_ok, hus]
            simp
          · cases h
        · cases h
      · cases h

theorem lres_sound (hst : ST cx N ι per F H a w) {fn : Func} (h : lres (ttOf P) fn F H = some x) : ∃ u, (results fn a.tmps).run P w = .ok u w ∧ VR w per ι x u := by
  unfold lres at h
  have key : ∀ xs, lresL (ttOf P) F H fn.results.toList = some xs → ∃ us : List Value, (fn.results.mapM fun | .tmp t => pure (a.tmps.getD t undef) | .cell c t => do loadVar t (← asAddr (a.tmps.getD c undef)) : Sem (Array Value)).run P w = .ok us.toArray w ∧ VL w ι per xs us := by
    intro xs hxs
    obtain ⟨us, hus, hl⟩ := lresL_sound (P := P) hst fn.results.toList xs #[] hxs
    refine ⟨us, ?_, hl⟩
    rw [Array.mapM_eq_foldlM, ← Array.foldlM_toList]
    simpa using hus
  split at h
  · rename_i y hy
    obtain rfl := Option.some.inj h
    obtain ⟨us, hus, hl⟩ := key _ hy
    have h1 : us.length = 1 := by have := hl.1; simpa using this.symm
    obtain ⟨u, rfl⟩ := List.length_eq_one_iff.1 h1
    refine ⟨u, ?_, ?_⟩
    · simp only [results, Sem.run_bind]
      erw [hus]
      simp
    · have := hl.2 0 (by simp)
      simpa using this
  · rename_i l hn hl
    obtain rfl := Option.some.inj h
    obtain ⟨us, hus, hvl⟩ := key _ hl
    refine ⟨.tuple us.toArray, ?_, .tup hvl.1 hvl.2⟩
    have hne : ¬ us.length = 1 := by
      intro h1
      rw [← hvl.1] at h1
      obtain ⟨y, rfl⟩ := List.length_eq_one_iff.1 h1
      exact hn y rfl
    simp only [results, Sem.run_bind]
    erw [hus]
    simp [hne]
  · cases h

end

/-- The marks are come to, one after the other. -/
theorem leaves_marks {P : Program} {fn : Func} {R : Ending → World → Prop} {tmps : Array Value} : ∀ (Ds : List Nat) (w : World), Ds.Nodup → (∀ D ∈ Ds, w.heap[D]? = some (.deferred (some []))) →
    (∀ w', w'.os = w.os → w'.tape = w.tape → w'.output = w.output → w'.drawn = w.drawn → w'.heap.size = w.heap.size → (∀ b, b ∉ Ds → w'.heap[b]? = w.heap[b]?) → ∃ v, (results fn tmps).run P w' = .ok v w' ∧ R (.returned v) w') →
    LeavesInM Fence.wide 0 P fn tmps R (Ds.map fun D => { target := .collected D, args := #[] }) .returning w := by
  intro Ds
  induction Ds with
  | nil => intro w _ _ h; exact h w rfl rfl rfl rfl rfl (fun _ _ => rfl)
  | cons D Ds ih =>
    intro w hn hD h
    have hn' := List.nodup_cons.1 hn
    have h0 := hD D (List.mem_cons_self ..)
    rw [List.map_cons, LeavesInM]
    refine ⟨fun e => (by cases e), .inl ⟨D, _, rfl, run_takeDeferred h0, ih _ hn'.2 (fun E hE => ?_) fun w' h1 h2 h3 hdr h4 h5 => ?_⟩⟩
    · rw [World.putObj_heap_other (fun e => hn'.1 (by subst e; exact hE))]; exact hD E (List.mem_cons_of_mem _ hE)
    · refine h w' h1 h2 h3 hdr (by simpa using h4) fun b hb => ?_
      simp only [List.mem_cons, not_or] at hb
      rw [h5 b hb.2, World.putObj_heap_other hb.1]

/-- A contract out of a walk of the body. -/
theorem lcallsY_of_lwp {P : Program} {f : Nat} {fn : Func} {c : Code} {y : Option YY} {args : List LV} {H : Hp} {R : LV → Hp → Prop} (hf : P.funcs[f]? = some fn) (hb : fn.body = some c) (hc : callable P f = true)
    (h : Lwp P ⟨args.length + (fn.ntmps - args.length), H.length, false, y⟩ c (retQ P fn R) (frameOf 0 args) H) : LCY P f y args H R := by
  refine ⟨hc, fun kp per ι w vs hrep hkp hper hy hvl => ?_⟩
  refine (callsIn_wide (n := 0)).1 (callsIn_of_wp_marks hf hb trivial ?_)
  have hs : SR ⟨kp, per, w, ι, none⟩ ⟨args.length + (fn.ntmps - args.length), H.length, false, y⟩ (frameOf 0 args) H { tmps := vs.toArray ++ Array.replicate (fn.ntmps - vs.toArray.size) undef, defers := [] } w := by
    refine ⟨ι, per, hrep, fun b hb => .inl hb, fun b hb => hb, fun t => ?_, by simp [hvl.1], ⟨⟨[], rfl, List.nodup_nil, fun D hD => by simp at hD⟩, fun _ => rfl, fun _ => rfl, hy⟩, Kept.refl _ _, hkp, hrep.len, fun h _ => rfl⟩
    rw [fget_frameOf]
    simp only [Nat.zero_le, if_true, Nat.sub_zero]
    cases ht : args[t]? with
    | none => exact .dead _
    | some x =>
      obtain ⟨v, hv, hr⟩ := hvl.get ht
      have hlt : t < vs.length := by
        rcases Nat.lt_or_ge t vs.length with h' | h'
        · exact h'
        · simp [List.getElem?_eq_none h'] at hv
      have e : (vs.toArray ++ Array.replicate (fn.ntmps - vs.toArray.size) undef).getD t undef = v := by
        simp only [Array.getD_eq_getD_getElem?]
        rw [Array.getElem?_append_left (by simpa using hlt)]
        simp [hv]
      simp only [Option.getD_some]
      show VR w per ι x ((vs.toArray ++ Array.replicate (fn.ntmps - vs.toArray.size) undef).getD t undef)
      rw [e]
      exact hr
  refine wpIn_mono (h _ _ w hs) fun e a' w' ⟨F', H', q, s⟩ => ?_
  obtain ⟨ι', per', hst⟩ := s.st
  have fin : (∃ x, lres (ttOf P) fn F' H' = some x ∧ R x H') → LeavesInM Fence.wide 0 P fn a'.tmps (LEnd R kp per ι w) a'.defers .returning w' := by
    intro ⟨x, hx, hR⟩
    obtain ⟨⟨Ds, hd, hnd, hDs⟩, _, _, _⟩ := hst.defers
    rw [hd]
    refine leaves_marks Ds w' hnd (fun D hD => (hDs D hD).2.2) fun w2 h1 h2 h3 hdr h4 h5 => ?_
    have hsc : SameCells w' w2 := fun b c e fz hb => by
      rw [h5 b (fun hD => by rw [(hDs b hD).2.2] at hb; cases hb)]; exact hb
    have hk2 : Kept kp w w2 := ⟨h1.trans hst.below.os, h2.trans hst.below.tape, h3.trans hst.below.output, by rw [h4]; exact hst.below.size,
      ⟨fun b hb => by rw [h5 b (fun hD => (hDs b hD).2.1 hb)]; exact hst.below.step.same b hb, fun b n hr => hsc.room (hst.below.step.room b n hr)⟩,
      fun b o hb ho => by rw [h5 b (fun hD => by have := (hDs b hD).1; have := lt_of_get hb; simp only at *; omega)]; exact hst.below.oth b o hb ho, Nat.le_trans hst.below.drawn (Nat.le_of_eq hdr.symm)⟩
    have hst2 : ST ⟨kp, per, w, ι, none⟩ ⟨args.length + (fn.ntmps - args.length), H.length, false, y⟩ ι' per' F' H' { a' with defers := [] } w2 :=
      hst.nc hsc (by rw [h4]; exact Nat.le_refl _) rfl ⟨⟨[], rfl, List.nodup_nil, fun D hD => by simp at hD⟩, fun _ => rfl, fun _ => rfl, hst.defers.2.2.2⟩ hk2
    obtain ⟨u, hu, hr⟩ := lres_sound (P := P) hst2 hx
    exact ⟨u, hu, u, x, H', ι', per', rfl, hR, hst2.below, hst2.rep, hr, hst2.p1, hst2.p2, fun h hh => hst2.grow.2 h (by rw [← hst2.grow.1]; exact hh)⟩
  cases e with
  | normal => exact fin q
  | ret => exact fin q
  | _ => exact q.elim

theorem lcalls_of_lwp {P : Program} {f : Nat} {fn : Func} {c : Code} {args : List LV} {H : Hp} {R : LV → Hp → Prop} (hf : P.funcs[f]? = some fn) (hb : fn.body = some c) (hc : callable P f = true)
    (h : Lwp P ⟨args.length + (fn.ntmps - args.length), H.length, false, none⟩ c (retQ P fn R) (frameOf 0 args) H) : LC P f args H R := (lcallsY_of_lwp hf hb hc h).lc

end Go.Lite
set_option linter.unusedVariables false
set_option linter.unusedSimpArgs false

/- Lite, part K: calls out of a frame, and regions. -/
namespace Go.Lite
open Go Go.RowKit
set_option linter.unusedVariables false

mutual
/-- It speaks of no row of the call's own. -/
def hfree : LV → Bool
  | .ptr _ _ => false
  | .sl _ _ _ _ => false
  | .fn _ cs => hfreeL cs
  | .agg cs => hfreeL cs
  | .tup cs => hfreeL cs
  | _ => true
def hfreeL : List LV → Bool
  | [] => true
  | c :: r => hfree c && hfreeL r
end

mutual
/-- It holds nothing that lies outside the rows. -/
def psfree : LV → Bool
  | .ps _ _ _ => false
  | .pp _ => false
  | .fn _ cs => psfreeL cs
  | .agg cs => psfreeL cs
  | .tup cs => psfreeL cs
  | _ => true
def psfreeL : List LV → Bool
  | [] => true
  | c :: r => psfree c && psfreeL r
end

def psfreeH : Hp → Bool
  | [] => true
  | none :: r => psfreeH r
  | some cs :: r => psfreeL cs && psfreeH r

mutual
/-- Handles renamed. -/
def ren (g : Nat → Nat) : LV → LV
  | .ptr h o => .ptr (g h) o
  | .sl sz h o m => .sl sz (g h) o m
  | .fn f cs => .fn f (renL g cs)
  | .agg cs => .agg (renL g cs)
  | .tup cs => .tup (renL g cs)
  | .dead => .dead
  | .und => .und
  | .bool b => .bool b
  | .int k m => .int k m
  | .str s => .str s
  | .nilp => .nilp
  | .pp cs => .pp cs
  | .nils => .nils
  | .ps sz m cs => .ps sz m cs
  | .nilf => .nilf
  | .yld l => .yld l
def renL (g : Nat → Nat) : List LV → List LV
  | [] => []
  | c :: r => ren g c :: renL g r
end

theorem ren_und {g : Nat → Nat} (x : LV) : ren g x = .und ↔ x = .und := by cases x <;> simp [ren]

def snL (f : LV → LV) (l : List LV) : List LV := if hfreeL l then l else l.map f

/-- What a callee that only reads is shown: rows as plain values. -/
def snap (H : Hp) : Nat → LV → LV
  | 0, x => if hfree x then x else .dead
  | k + 1, x => match x with
    | .sl sz h o m => (match row H h with | some cs => if o + m * sz ≤ cs.length then .ps sz m (snL (snap H k) ((cs.drop o).take (m * sz))) else .dead | none => .dead)
    | .agg cs => .agg (snL (snap H k) cs)
    | .fn f cs => .fn f (snL (snap H k) cs)
    | .ptr h o => (match row H h with | some cs => .pp (snL (snap H k) (cs.drop o)) | none => .dead)
    | .tup _ => .dead
    | x => x

theorem hfreeL_get {cs : List LV} (h : hfreeL cs = true) : ∀ i (hi : i < cs.length), hfree cs[i] = true := by
  induction cs with
  | nil => intro i hi; simp at hi
  | cons c r ih =>
    simp only [hfreeL, Bool.and_eq_true] at h
    intro i hi
    cases i with
    | zero => exact h.1
    | succ i => exact ih h.2 i (by simpa using hi)

theorem psfreeL_get {cs : List LV} (h : psfreeL cs = true) : ∀ i (hi : i < cs.length), psfree cs[i] = true := by
  induction cs with
  | nil => intro i hi; simp at hi
  | cons c r ih =>
    simp only [psfreeL, Bool.and_eq_true] at h
    intro i hi
    cases i with
    | zero => exact h.1
    | succ i => exact ih h.2 i (by simpa using hi)

theorem renL_eq (g : Nat → Nat) (cs : List LV) : renL g cs = cs.map (ren g) := by
  induction cs with
  | nil => rfl
  | cons c r ih => simp [renL, ih]

theorem psfreeH_get {H : Hp} (h : psfreeH H = true) {k : Nat} {cs : List LV} (hk : H[k]? = some (some cs)) : psfreeL cs = true := by
  induction H generalizing k with
  | nil => simp at hk
  | cons p r ih =>
    cases p with
    | none =>
      cases k with
      | zero => simp at hk
      | succ k => exact ih (by simpa [psfreeH] using h) (by simpa using hk)
    | some ds =>
      simp only [psfreeH, Bool.and_eq_true] at h
      cases k with
      | zero => simp at hk; subst hk; exact h.1
      | succ k => exact ih h.2 (by simpa using hk)

section
variable {w : World} {ι ι' : Pl} {per per' : Nat → Prop}

theorem VR.hfree {x : LV} {v : Value} (hv : VR w per ι x v) : hfree x = true → VR w per ι' x v := by
  induction hv with
  | dead v => intro _; exact .dead v
  | und => intro _; exact .und
  | bool b => intro _; exact .bool b
  | int k n => intro _; exact .int k n
  | str s => intro _; exact .str s
  | nilp => intro _; exact .nilp
  | ptr hi => intro h; simp [Lite.hfree] at h
  | pp vs h1 h2 h3 _ => intro _; exact .pp vs h1 h2 h3
  | nils => intro _; exact .nils
  | sl h1 h2 h3 => intro h; simp [Lite.hfree] at h
  | slz => intro h; simp [Lite.hfree] at h
  | psz => intro _; exact .psz
  | ps vs h1 h2 h3 h4 h5 _ => intro _; exact .ps vs h1 h2 h3 h4 h5
  | nilf => intro _; exact .nilf
  | yld l => intro _; exact .yld l
  | fn hn hv ih => intro h; exact .fn hn fun i hi => ih i hi (hfreeL_get (by simpa [Lite.hfree] using h) i hi)
  | agg hn hv ih => intro h; exact .agg hn fun i hi => ih i hi (hfreeL_get (by simpa [Lite.hfree] using h) i hi)
  | tup hn hv ih => intro h; exact .tup hn fun i hi => ih i hi (hfreeL_get (by simpa [Lite.hfree] using h) i hi)

theorem VR.psfree {x : LV} {v : Value} (hv : VR w per ι x v) : psfree x = true → VR w per' ι x v := by
  induction hv with
  | dead v => intro _; exact .dead v
  | und => intro _; exact .und
  | bool b => intro _; exact .bool b
  | int k n => intro _; exact .int k n
  | str s => intro _; exact .str s
  | nilp => intro _; exact .nilp
  | ptr hi => intro h; exact .ptr hi
  | pp vs h1 h2 h3 _ => intro h; simp [Lite.psfree] at h
  | nils => intro _; exact .nils
  | sl h1 h2 h3 => intro h; exact .sl h1 h2 h3
  | slz => intro h; exact .slz
  | psz => intro _; exact .psz
  | ps vs h1 h2 h3 h4 h5 _ => intro h; simp [Lite.psfree] at h
  | nilf => intro _; exact .nilf
  | yld l => intro _; exact .yld l
  | fn hn hv ih => intro h; exact .fn hn fun i hi => ih i hi (psfreeL_get (by simpa [Lite.psfree] using h) i hi)
  | agg hn hv ih => intro h; exact .agg hn fun i hi => ih i hi (psfreeL_get (by simpa [Lite.psfree] using h) i hi)
  | tup hn hv ih => intro h; exact .tup hn fun i hi => ih i hi (psfreeL_get (by simpa [Lite.psfree] using h) i hi)

theorem VR.ren {g : Nat → Nat} {x : LV} {v : Value} (hv : VR w per ι x v) : (∀ (h : Nat) (b : Nat × Nat), ι[h]? = some (some b) → ι'[g h]? = some (some b)) → VR w per ι' (ren g x) v := by
  induction hv with
  | dead v => intro _; exact .dead v
  | und => intro _; exact .und
  | bool b => intro _; exact .bool b
  | int k n => intro _; exact .int k n
  | str s => intro _; exact .str s
  | nilp => intro _; exact .nilp
  | ptr hi => intro h; exact .ptr (h _ _ hi)
  | pp vs h1 h2 h3 _ => intro _; exact .pp vs h1 h2 h3
  | nils => intro _; exact .nils
  | sl h1 h2 h3 => intro h; exact .sl (h _ _ h1) h2 h3
  | slz => intro h; exact .slz
  | psz => intro _; exact .psz
  | ps vs h1 h2 h3 h4 h5 _ => intro _; exact .ps vs h1 h2 h3 h4 h5
  | nilf => intro _; exact .nilf
  | yld l => intro _; exact .yld l
  | fn hn hv ih => intro h; simp only [Lite.ren, renL_eq]; exact .fnC (by simpa using hn) (fun i hi => by rw [List.getElem_map]; exact ih i (by simpa using hi) h) (isUnd_map ren_und _)
  | agg hn hv ih => intro h; simp only [Lite.ren, renL_eq]; exact .agg (by simpa using hn) fun i hi => by rw [List.getElem_map]; exact ih i (by simpa using hi) h
  | tup hn hv ih => intro h; simp only [Lite.ren, renL_eq]; exact .tup (by simpa using hn) fun i hi => by rw [List.getElem_map]; exact ih i (by simpa using hi) h

theorem VR.unren {g : Nat → Nat} {y : LV} {v : Value} (hv : VR w per ι y v) : (∀ (h : Nat) (b : Nat × Nat), ι[g h]? = some (some b) → ι'[h]? = some (some b)) → ∀ {x : LV}, Lite.ren g x = y → VR w per ι' x v := by
  induction hv with
  | dead v => intro _ x hx; cases x <;> simp only [Lite.ren, reduceCtorEq] at hx; exact .dead v
  | und => intro _ x hx; cases x <;> simp only [Lite.ren, reduceCtorEq] at hx; exact .und
  | bool b => intro _ x hx; cases x <;> simp only [Lite.ren, reduceCtorEq] at hx; cases hx; exact .bool b
  | int k n => intro _ x hx; cases x <;> simp only [Lite.ren, reduceCtorEq] at hx; cases hx; exact .int k n
  | str s => intro _ x hx; cases x <;> simp only [Lite.ren, reduceCtorEq] at hx; cases hx; exact .str s
  | nilp => intro _ x hx; cases x <;> simp only [Lite.ren, reduceCtorEq] at hx; exact .nilp
  | ptr hi => intro h x hx; cases x <;> simp only [Lite.ren, reduceCtorEq] at hx; cases hx; exact .ptr (h _ _ hi)
  | pp vs h1 h2 h3 _ => intro _ x hx; cases x <;> simp only [Lite.ren, reduceCtorEq] at hx; cases hx; exact .pp vs h1 h2 h3
  | nils => intro _ x hx; cases x <;> simp only [Lite.ren, reduceCtorEq] at hx; exact .nils
  | sl h1 h2 h3 => intro h x hx; cases x <;> simp only [Lite.ren, reduceCtorEq] at hx; cases hx; exact .sl (h _ _ h1) h2 h3
  | slz => intro h x hx; cases x <;> simp only [Lite.ren, reduceCtorEq] at hx; cases hx; exact .slz
  | psz => intro _ x hx; cases x <;> simp only [Lite.ren, reduceCtorEq] at hx; cases hx; exact .psz
  | ps vs h1 h2 h3 h4 h5 _ => intro _ x hx; cases x <;> simp only [Lite.ren, reduceCtorEq] at hx; cases hx; exact .ps vs h1 h2 h3 h4 h5
  | nilf => intro _ x hx; cases x <;> simp only [Lite.ren, reduceCtorEq] at hx; exact .nilf
  | yld l => intro _ x hx; cases x <;> simp only [Lite.ren, reduceCtorEq] at hx; cases hx; exact .yld l
  | fn hn hv ih =>
    intro h x hx
    cases x <;> simp only [Lite.ren, renL_eq, reduceCtorEq, LV.fn.injEq] at hx
    obtain ⟨rfl, rfl⟩ := hx
    exact .fnC (by simpa using hn) (fun i hi => ih i (by simpa using hi) h (by simp)) (isUnd_map ren_und _).symm
  | agg hn hv ih =>
    intro h x hx
    cases x <;> simp only [Lite.ren, renL_eq, reduceCtorEq, LV.agg.injEq] at hx
    subst hx
    exact .agg (by simpa using hn) fun i hi => ih i (by simpa using hi) h (by simp)
  | tup hn hv ih =>
    intro h x hx
    cases x <;> simp only [Lite.ren, renL_eq, reduceCtorEq, LV.tup.injEq] at hx
    subst hx
    exact .tup (by simpa using hn) fun i hi => ih i (by simpa using hi) h (by simp)

end

section
variable {P : Program} {cx : Ctx} {N : Dim} {ι : Pl} {per : Nat → Prop} {F F' : Fr} {H H' : Hp} {a : Act} {w : World} {x : LV}

/-- Every block that is there is there to be read. -/
def allOf (w : World) : Nat → Prop := fun b => b < w.heap.size

theorem snap_und {H : Hp} (k : Nat) (x : LV) : snap H k x = .und ↔ x = .und := by
  cases k with
  | zero => simp only [snap]; split <;> rename_i h <;> cases x <;> simp_all [hfree]
  | succ k => cases x <;> simp only [snap, reduceCtorEq, iff_false, iff_self] <;> (repeat' split) <;> simp
theorem isUnd_snL {H : Hp} {k : Nat} (l : List LV) : isUnd (snL (snap H k) l) = isUnd l := by
  unfold snL
  split
  · rfl
  · exact isUnd_map (snap_und k) l

theorem snap_sound (hst : ST cx N ι per F H a w) : ∀ (k : Nat) (x : LV) (v : Value), VR w per ι x v → VR w (allOf w) [] (snap H k x) v := by
  have widen : ∀ {x : LV} {v : Value}, VR w per ι x v → hfree x = true → VR w (allOf w) [] x v := fun hv hf => (hv.step (Step.refl _ _) (fun b hb => hst.rep.perlt b hb) (ι' := ι) (fun _ _ h => h)).hfree hf
  intro k
  induction k with
  | zero =>
    intro x v hv
    simp only [snap]
    split
    · rename_i hf; exact widen hv hf
    · exact .dead v
  | succ k ih =>
    have ihL : ∀ (cs : List LV) (vs : List Value), VL w ι per cs vs → VL w [] (allOf w) (snL (snap H k) cs) vs := by
      intro cs vs hvl
      unfold snL
      split
      · rename_i hf
        exact ⟨hvl.1, fun i hi => widen (hvl.2 i hi) (hfreeL_get hf i hi)⟩
      · refine ⟨by simp [hvl.1], fun i hi => ?_⟩
        rw [List.getElem_map]
        exact ih _ _ (hvl.2 i (by simpa using hi))
    intro x v hv
    cases x with
    | sl sz h o m =>
      simp only [snap]
      split
      · rename_i cs hrow
        split
        · rename_i hle
          rcases hv.sl_inv with ⟨b, o', cap, hi, hl, hr, rfl⟩ | ⟨rfl, aa, rfl⟩
          · obtain ⟨c, e2, h1, h2, h3, h4, h5⟩ := hst.rep.block (row_some hrow) hi
            have hlen : ((cs.drop o).take (m * sz)).length = m * sz := by simp; omega
            have hvl : VL w ι per ((cs.drop o).take (m * sz)) ((List.range (m * sz)).map fun j => c.getD (o' + o + j) undef) := by
              refine ⟨by rw [hlen]; simp, fun i hi => ?_⟩
              have hi' : i < m * sz := by rw [hlen] at hi; exact hi
              rw [List.getElem_take, List.getElem_drop]
              have := h5 (o + i) (by omega)
              rw [← Nat.add_assoc] at this
              simpa [hi'] using this
            have h6 := ihL _ _ hvl
            refine .ps (b := b) (o := o' + o) (fun j => c.getD (o' + o + j) undef) (lt_of_get h3.1) (by rw [h6.1]; simp) hl (fun i hi => ?_) fun i hi => ?_
            · have hi' : i < m * sz := by rw [h6.1] at hi; simpa using hi
              rw [cell_of_blk h3.1]
              have : o' + o + i < c.size := by omega
              simp [this]
            · have hi' : i < m * sz := by rw [h6.1] at hi; simpa using hi
              have := h6.2 i hi
              simpa [hi'] using this
          · have h6 := ihL ((cs.drop o).take (0 * sz)) [] (by simpa using VL.nil)
            have h7 : snL (snap H k) ((cs.drop o).take (0 * sz)) = [] := List.eq_nil_of_length_eq_zero h6.1
            rw [h7]
            exact .psz
        · exact .dead v
      · exact .dead v
    | agg cs =>
      obtain ⟨vs, rfl, hvl⟩ := hv.agg_inv
      have h6 := ihL _ _ hvl
      exact .agg h6.1 h6.2
    | fn f cs =>
      cases hv with
      | fn hn hvv =>
        have h6 := ihL _ _ ⟨hn, hvv⟩
        exact .fnC h6.1 h6.2 (isUnd_snL _)
    | ptr h o =>
      simp only [snap]
      split
      · rename_i cs hrow
        obtain ⟨b, o', hi, rfl⟩ := hv.ptr_inv
        obtain ⟨c, e2, h1, h2, h3, h4, h5⟩ := hst.rep.block (row_some hrow) hi
        have hlen : (cs.drop o).length = cs.length - o := by simp
        have hvl : VL w ι per (cs.drop o) ((List.range (cs.length - o)).map fun j => c.getD (o' + o + j) undef) := by
          refine ⟨by rw [hlen]; simp, fun i hi => ?_⟩
          have hi' : i < cs.length - o := by rw [hlen] at hi; exact hi
          rw [List.getElem_drop]
          have := h5 (o + i) (by omega)
          rw [← Nat.add_assoc] at this
          simpa [hi'] using this
        have h6 := ihL _ _ hvl
        refine .pp (b := b) (o := o' + o) (fun j => c.getD (o' + o + j) undef) (lt_of_get h3.1) (fun i hi => ?_) fun i hi => ?_
        · have hi' : i < cs.length - o := by rw [h6.1] at hi; simpa using hi
          rw [cell_of_blk h3.1]
          have : o' + o + i < c.size := by omega
          simp [this]
        · have hi' : i < cs.length - o := by rw [h6.1] at hi; simpa using hi
          have := h6.2 i hi
          simpa [hi'] using this
      · exact .dead v
    | tup cs => exact .dead v
    | dead => exact .dead v
    | und => exact widen hv rfl
    | bool b => exact widen hv rfl
    | int k n => exact widen hv rfl
    | str s => exact widen hv rfl
    | nilp => exact widen hv rfl
    | yld l => exact widen hv rfl
    | pp cs => exact widen hv rfl
    | nils => exact widen hv rfl
    | ps sz m cs => exact widen hv rfl
    | nilf => exact widen hv rfl

/-- What is asked at a call. -/
def callK (P : Program) (f : Nat) (args : List LV) (H : Hp) (K : LV → Hp → Prop) : Prop :=
  callable P f = true ∧ ∀ (cx : Ctx) (N : Dim) (ι : Pl) (per : Nat → Prop) (F : Fr) (a : Act) (w : World) (vs : List Value), ST cx N ι per F H a w → VL w ι per args vs →
    Calls P f vs.toArray w fun e w' => ∃ v x H' ι' per', e = .returned v ∧ K x H' ∧ ST cx N ι' per' F H' a w' ∧ VR w' per' ι' x v ∧ Step per w w' ∧ (∀ b, per b → per' b) ∧ ∀ h, h < ι.length → ι'[h]? = ι[h]?

theorem callK.mono {P : Program} {f : Nat} {args : List LV} {H : Hp} {K K' : LV → Hp → Prop} (h : callK P f args H K) (hk : ∀ x H, K x H → K' x H) : callK P f args H K' :=
  ⟨h.1, fun cx N ι per F a w vs h1 h2 => (h.2 cx N ι per F a w vs h1 h2).mono fun e w' ⟨v, x, H', ι', per', g1, g2, g3⟩ => ⟨v, x, H', ι', per', g1, hk _ _ g2, g3⟩⟩

theorem call_sound (hst : ST cx N ι per F H a w) {f : Nat} {args : List LV} {vs : List Value} (hvl : VL w ι per args vs) {K : LV → Hp → Prop} (h : callK P f args H K) :
    callable P f = true ∧ Calls P f vs.toArray w fun e w' => ∃ v x H' ι' per', e = .returned v ∧ K x H' ∧ ST cx N ι' per' F H' a w' ∧ VR w' per' ι' x v :=
  ⟨h.1, (h.2 cx N ι per F a w vs hst hvl).mono fun e w' ⟨v, x, H', ι', per', g1, g2, g3, g4, _⟩ => ⟨v, x, H', ι', per', g1, g2, g3, g4⟩⟩

theorem Kept.below {w w' : World} (h : Kept (fun b => b < w.heap.size) w w') : Below w.heap.size w w' := ⟨h.os, h.tape, h.output, h.size, h.step.same⟩

theorem Rep.weaken {kp kp' : Nat → Prop} {w : World} (h : Rep kp w ι per H) (hk : ∀ b, kp' b → kp b) : Rep kp' w ι per H :=
  ⟨h.len, h.perlt, fun k cs hh => by
    rcases h.live k cs hh with h1 | ⟨b, o, c, e, h1, h2, h3⟩
    · exact .inl h1
    · exact .inr ⟨b, o, c, e, h1, fun hp => h2 (hk b hp), h3⟩, h.inj⟩

/-- The contract at all the rows of the caller's. -/
theorem callK.whole {f : Nat} {args : List LV} {K : LV → Hp → Prop} (h : LC P f args H K) : callK P f args H K := by
  refine ⟨h.1, fun cx N ι per F a w vs hst hvl => ?_⟩
  have hrep : Rep (fun b => cx.kp b ∨ per b) w ι per H := ⟨hst.rep.len, hst.rep.perlt, fun k cs hh => by
    rcases hst.rep.live k cs hh with h1 | ⟨b, o, c, e, h1, h2, h3, h4⟩
    · exact .inl h1
    · exact .inr ⟨b, o, c, e, h1, fun hp => hp.elim h2 h3, h3, h4⟩, hst.rep.inj⟩
  refine (h.2 _ per ι w vs hrep (fun b hb => hb.elim (hst.bs b) (hst.rep.perlt b)) (fun b hb => .inr hb) hvl).mono fun e w' ⟨v, res, H', ι', per', g1, g2, g3, g4, g5, g6, g7, g8⟩ => ?_
  have hk : Kept cx.kp w w' := g3.mono fun b hb => .inl hb
  have hs : Step per w w' := ⟨fun b hb => g3.step.same b (.inr hb), g3.step.room⟩
  refine ⟨v, res, H', ι', per', g1, g2, ⟨g4.weaken fun b hb => .inl hb, fun b hb => ?_, fun b hb => g7 b (hst.p2 b hb), fun t => ?_, hst.size, hst.defers.keep hk, hst.below.trans hk,
    fun b hb => Nat.lt_of_lt_of_le (hst.bs b hb) hk.size, hst.grow.1, fun h hh => ?_⟩, g5, hs, g7, g8⟩
  · rcases g6 b hb with h1 | h1
    · exact hst.p1 b h1
    · exact .inr fun hp => h1 (.inl hp)
  · refine (hst.fr t).step hs g7 fun h b hb => ?_
    have hl : h < ι.length := by
      rcases Nat.lt_or_ge h ι.length with h' | h'
      · exact h'
      · simp [List.getElem?_eq_none h'] at hb
    rw [g8 h hl]; exact hb
  · rw [g8 h (Nat.lt_of_lt_of_le hh hst.mle)]
    exact hst.grow.2 h hh

/-- The numbers of the caller's rows for those of the callee's: the first are handed over, the others are new. -/
def gOf (ρ : List Nat) (n : Nat) (j : Nat) : Nat := match ρ[j]? with
  | some h => h
  | none => n + (j - ρ.length)

def setRows : Hp → List Nat → Hp → Hp
  | H, [], _ => H
  | H, h :: r, x :: xs => setRows (H.set h x) r xs
  | H, h :: r, [] => setRows (H.set h none) r []

def renR (g : Nat → Nat) : Option (List LV) → Option (List LV)
  | none => none
  | some cs => some (renL g cs)

theorem setRows_length : ∀ (ρ : List Nat) (H X : Hp), (setRows H ρ X).length = H.length := by
  intro ρ
  induction ρ with
  | nil => intro H X; rfl
  | cons h r ih => intro H X; cases X <;> simp [setRows, ih]

theorem setRows_other : ∀ (ρ : List Nat) (H X : Hp) (k : Nat), k ∉ ρ → (setRows H ρ X)[k]? = H[k]? := by
  intro ρ
  induction ρ with
  | nil => intro H X k _; rfl
  | cons h r ih =>
    intro H X k hk
    simp only [List.mem_cons, not_or] at hk
    cases X <;> simp only [setRows] <;> rw [ih _ _ _ hk.2, List.getElem?_set_ne (fun e => hk.1 e.symm)]

theorem setRows_at : ∀ (ρ : List Nat) (H X : Hp) (j h : Nat), ρ.Nodup → ρ[j]? = some h → h < H.length → (setRows H ρ X)[h]? = some ((X[j]?).getD none) := by
  intro ρ
  induction ρ with
  | nil => intro H X j h _ hj; simp at hj
  | cons k r ih =>
    intro H X j h hn hj hl
    have hn' := List.nodup_cons.1 hn
    cases j with
    | zero =>
      simp only [List.getElem?_cons_zero, Option.some.injEq] at hj
      subst hj
      cases X with
      | nil => simp only [setRows]; rw [setRows_other _ _ _ _ hn'.1]; simp [hl]
      | cons x xs => simp only [setRows]; rw [setRows_other _ _ _ _ hn'.1]; simp [hl]
    | succ j =>
      simp only [List.getElem?_cons_succ] at hj
      cases X with
      | nil => simp only [setRows]; rw [ih _ _ j h hn'.2 hj (by simpa using hl)]; simp
      | cons x xs => simp only [setRows]; rw [ih _ _ j h hn'.2 hj (by simpa using hl)]; simp

/-- Rows are handed over: number j of the callee's is number ρ j of the caller's. -/
theorem callK.hand {f : Nat} {args0 : List LV} {H0 : Hp} {K : LV → Hp → Prop} (ρ : List Nat) (hn : ρ.Nodup) (hlt : ∀ h ∈ ρ, h < H.length) (hlen : H0.length = ρ.length)
    (hrows : ∀ (j h : Nat) (cs : List LV), ρ[j]? = some h → H0[j]? = some (some cs) → H[h]? = some (some (renL (gOf ρ H.length) cs)))
    (h : LC P f args0 H0 fun x H1 => K (ren (gOf ρ H.length) x) (setRows H ρ ((H1.take ρ.length).map (renR (gOf ρ H.length))) ++ (H1.drop ρ.length).map (renR (gOf ρ H.length)))) :
    callK P f (args0.map (ren (gOf ρ H.length))) H K := by
  refine ⟨h.1, fun cx N ι per F a w vs hst hvl => ?_⟩
  obtain ⟨g, hg⟩ : ∃ g, g = gOf ρ H.length := ⟨_, rfl⟩
  rw [← hg] at hrows h hvl
  have g_lt : ∀ (j h : Nat), ρ[j]? = some h → g j = h := fun j h hj => by rw [hg, gOf, hj]
  have g_ge : ∀ j, ρ.length ≤ j → g j = H.length + (j - ρ.length) := fun j hj => by rw [hg, gOf, List.getElem?_eq_none hj]
  let ιc : Pl := ρ.map fun h => (ι[h]?).getD none
  have hιc : ∀ (j h : Nat), ρ[j]? = some h → ιc[j]? = some ((ι[h]?).getD none) := fun j h hj => by simp [ιc, hj]
  have hιcl : ιc.length = ρ.length := by simp [ιc]
  have back : ∀ (j : Nat) (b : Nat × Nat), ι[g j]? = some (some b) → ιc[j]? = some (some b) := by
    intro j b hb
    rcases Nat.lt_or_ge j ρ.length with hj | hj
    · have e := List.getElem?_eq_getElem hj
      rw [g_lt j _ e] at hb
      rw [hιc j _ e, hb]; rfl
    · rw [g_ge j hj, List.getElem?_eq_none (by rw [hst.rep.len]; omega)] at hb
      cases hb
  have pl : ∀ (j : Nat) (b : Nat × Nat), ιc[j]? = some (some b) → ∃ h, ρ[j]? = some h ∧ ι[h]? = some (some b) := by
    intro j b hb
    rcases Nat.lt_or_ge j ρ.length with hj | hj
    · have e := List.getElem?_eq_getElem hj
      rw [hιc j _ e] at hb
      refine ⟨_, e, ?_⟩
      cases hx : ι[ρ[j]]? with
      | none => rw [hx] at hb; simp at hb
      | some y => rw [hx] at hb; simpa using hb
    · rw [List.getElem?_eq_none (by rw [hιcl]; exact hj)] at hb; cases hb
  let kp : Nat → Prop := fun b => b < w.heap.size ∧ ∀ (j o : Nat), ∀ cs, H0[j]? = some (some cs) → ιc[j]? ≠ some (some (b, o))
  have hrep : Rep kp w ιc per H0 := by
    refine ⟨by rw [hιcl, hlen], hst.rep.perlt, fun j cs hj => ?_, fun j j' cs cs' b o b' o' hj hj' hi hi' hbb => ?_⟩
    · have hjl : j < ρ.length := by rw [← hlen]; exact lt_row hj
      have e := List.getElem?_eq_getElem hjl
      rcases hst.rep.live _ _ (hrows j _ cs e hj) with ⟨h2, h3⟩ | ⟨b, o, c, e2, h2, h3, h4, h5, h6, h7⟩
      · refine .inl ⟨by rw [hιc j _ e, h2]; rfl, ?_⟩
        rw [renL_eq] at h3
        exact List.map_eq_nil_iff.1 h3
      · have hi : ιc[j]? = some (some (b, o)) := by rw [hιc j _ e, h2]; rfl
        refine .inr ⟨b, o, c, e2, hi, fun hk => hk.2 j o cs hj hi, h4, h5, by simpa [renL_eq] using h6, fun i hi => ?_⟩
        have := h7 i (by simpa [renL_eq] using hi)
        exact this.unren back (by simp [renL_eq])
    · obtain ⟨h1, e1, q1⟩ := pl _ _ hi
      obtain ⟨h2, e2, q2⟩ := pl _ _ hi'
      have := hst.rep.inj h1 h2 _ _ b o b' o' (hrows j h1 cs e1 hj) (hrows j' h2 cs' e2 hj') q1 q2 hbb
      subst this
      obtain ⟨l1, r1⟩ := List.getElem?_eq_some_iff.1 e1
      obtain ⟨l2, r2⟩ := List.getElem?_eq_some_iff.1 e2
      rcases Nat.lt_trichotomy j j' with hlt' | hlt' | hlt'
      · exact absurd (r1.trans r2.symm) (List.pairwise_iff_getElem.1 hn j j' l1 l2 hlt')
      · exact hlt'
      · exact absurd (r2.trans r1.symm) (List.pairwise_iff_getElem.1 hn j' j l2 l1 hlt')
  have perk : ∀ b, per b → kp b := fun b hb => ⟨hst.rep.perlt b hb, fun j o cs hj hi => by
    obtain ⟨h1, e1, q1⟩ := pl _ _ hi
    obtain ⟨c, e, _, k1, _⟩ := hst.rep.block (hrows j h1 cs e1 hj) q1
    exact k1 hb⟩
  have cxk : ∀ b, cx.kp b → kp b := fun b hb => ⟨hst.bs b hb, fun j o cs hj hi => by
    obtain ⟨h1, e1, q1⟩ := pl _ _ hi
    obtain ⟨c, e, k0, _⟩ := hst.rep.block (hrows j h1 cs e1 hj) q1
    exact k0 hb⟩
  have hargs : VL w ιc per args0 vs := ⟨by simpa using hvl.1, fun i hi => by
    have := hvl.2 i (by simpa using hi)
    exact this.unren back (by simp)⟩
  refine (h.2 kp per ιc w vs hrep (fun b hb => hb.1) perk hargs).mono fun e w' ⟨v, res, H1, ι1, per', q1, q2, q3, q4, q5, q6, q7, q8⟩ => ?_
  have hk : Kept cx.kp w w' := q3.mono cxk
  have hs : Step per w w' := ⟨fun b hb => q3.step.same b (perk b hb), q3.step.room⟩
  let ι2 : Pl := ι ++ ι1.drop ρ.length
  have oldι : ∀ (h : Nat) (x : Option (Nat × Nat)), ι[h]? = some x → ι2[h]? = some x := fun h x hx => by
    have hl : h < ι.length := by
      rcases Nat.lt_or_ge h ι.length with h' | h'
      · exact h'
      · simp [List.getElem?_eq_none h'] at hx
    simp only [ι2]; rw [List.getElem?_append_left hl]; exact hx
  have newι : ∀ j, ρ.length ≤ j → ι2[g j]? = ι1[j]? := fun j hj => by
    simp only [ι2]
    rw [g_ge j hj, ← hst.rep.len, List.getElem?_append_right (by omega), List.getElem?_drop]
    congr 1; omega
  have fwd : ∀ (j : Nat) (b : Nat × Nat), ι1[j]? = some (some b) → ι2[g j]? = some (some b) := by
    intro j b hb
    rcases Nat.lt_or_ge j ρ.length with hj | hj
    · rw [q8 j (by rw [hιcl]; exact hj)] at hb
      obtain ⟨h1, e1, r1⟩ := pl _ _ hb
      rw [g_lt j h1 e1]
      exact oldι _ _ r1
    · rw [newι j hj]; exact hb
  have hl1 : ρ.length ≤ H1.length := by
    rw [← q4.len]
    rcases Nat.lt_or_ge ι1.length ρ.length with h' | h'
    · have := q8 ι1.length (by rw [hιcl]; exact h')
      rw [List.getElem?_eq_none (Nat.le_refl _), List.getElem?_eq_getElem (by rw [hιcl]; exact h')] at this
      cases this
    · exact h'
  obtain ⟨H2, hH2⟩ : ∃ H2, H2 = setRows H ρ ((H1.take ρ.length).map (renR g)) ++ (H1.drop ρ.length).map (renR g) := ⟨_, rfl⟩
  replace q2 : K (ren g res) H2 := by rw [hH2]; exact q2
  have cases_row : ∀ (k : Nat) (ds : List LV), H2[k]? = some (some ds) →
      (k < H.length ∧ k ∉ ρ ∧ H[k]? = some (some ds)) ∨ ∃ j d, g j = k ∧ H1[j]? = some (some d) ∧ ds = renL g d := by
    intro k ds hk
    rw [hH2] at hk
    rcases Nat.lt_or_ge k H.length with hkl | hkl
    · rw [List.getElem?_append_left (by rw [setRows_length]; exact hkl)] at hk
      by_cases hm : k ∈ ρ
      · obtain ⟨j, hjl, hj⟩ := List.getElem_of_mem hm
        have e : ρ[j]? = some k := by rw [List.getElem?_eq_getElem hjl, hj]
        rw [setRows_at ρ H _ j k hn e hkl] at hk
        simp only [Option.some.injEq, List.getElem?_map, List.getElem?_take, hjl, if_true] at hk
        cases hx : H1[j]? with
        | none => rw [hx] at hk; cases hk
        | some y =>
          rw [hx] at hk
          cases y with
          | none => cases hk
          | some d => exact .inr ⟨j, d, g_lt j k e, hx, (Option.some.inj hk).symm⟩
      · rw [setRows_other _ _ _ _ hm] at hk
        exact .inl ⟨hkl, hm, hk⟩
    · rw [List.getElem?_append_right (by rw [setRows_length]; exact hkl), setRows_length, List.getElem?_map, List.getElem?_drop] at hk
      cases hx : H1[ρ.length + (k - H.length)]? with
      | none => rw [hx] at hk; cases hk
      | some y =>
        rw [hx] at hk
        cases y with
        | none => cases hk
        | some d => exact .inr ⟨_, d, by rw [g_ge _ (by omega)]; omega, hx, (Option.some.inj (Option.some.inj hk)).symm⟩
  have place : ∀ (j : Nat) (d : List LV) (b o : Nat), H1[j]? = some (some d) → ι2[g j]? = some (some (b, o)) → ι1[j]? = some (some (b, o)) := by
    intro j d b o hj hb
    rcases Nat.lt_or_ge j ρ.length with hjl | hjl
    · have e := List.getElem?_eq_getElem hjl
      rw [g_lt j _ e] at hb
      have : ι[ρ[j]]? = some (some (b, o)) := by
        have hl : ρ[j] < ι.length := by rw [hst.rep.len]; exact hlt _ (List.getElem_mem hjl)
        simp only [ι2] at hb
        rwa [List.getElem?_append_left hl] at hb
      rw [q8 j (by rw [hιcl]; exact hjl), hιc j _ e, this]; rfl
    · rw [newι j hjl] at hb; exact hb
  have other : ∀ (k : Nat) (ds : List LV) (b o : Nat), k ∉ ρ → H[k]? = some (some ds) → ι[k]? = some (some (b, o)) → kp b := by
    intro k ds b o hk hh hi
    obtain ⟨c, e, k0, k1, k2, _⟩ := hst.rep.block hh hi
    refine ⟨lt_of_get k2.1, fun j o' cs hj hij => ?_⟩
    obtain ⟨h1, e1, r1⟩ := pl _ _ hij
    have := hst.rep.inj k h1 _ _ b o b o' hh (hrows j h1 cs e1 hj) hi r1 rfl
    subst this
    exact hk (List.mem_of_getElem? e1)
  refine ⟨v, _, H2, ι2, per', q1, q2, ⟨⟨?_, q4.perlt, fun k ds hk => ?_, fun k k' ds ds' b o b' o' hk hk' hi hi' hbb => ?_⟩, fun b hb => ?_, fun b hb => q7 b (hst.p2 b hb), fun t => ?_, hst.size, hst.defers.keep hk, hst.below.trans hk,
    fun b hb => Nat.lt_of_lt_of_le (hst.bs b hb) hk.size, hst.grow_push _⟩, q5.ren fwd, hs, q7, fun h hh => List.getElem?_append_left hh⟩
  · rw [hH2]
    simp only [ι2, List.length_append, List.length_drop, List.length_map, setRows_length]
    rw [hst.rep.len, q4.len]
  · rcases cases_row k ds hk with ⟨hkl, hm, hh⟩ | ⟨j, d, rfl, hj, rfl⟩
    · rcases hst.rep.live k ds hh with ⟨h2, h3⟩ | ⟨b, o, c, e2, h2, h3, h4, h5, h6, h7⟩
      · exact .inl ⟨oldι _ _ h2, h3⟩
      · have hkb := other k ds b o hm hh h2
        refine .inr ⟨b, o, c, e2, oldι _ _ h2, h3, fun hp => ?_, h5.get (q3.step.same b hkb), h6, fun i hi => (h7 i hi).step hs q7 fun h x hx => oldι _ _ hx⟩
        rcases q6 b hp with h | h
        · exact h4 h
        · exact h hkb
    · rcases q4.live j d hj with ⟨h2, h3⟩ | ⟨b, o, c, e2, h2, h3, h4, h5, h6, h7⟩
      · subst h3
        refine .inl ⟨?_, rfl⟩
        rcases Nat.lt_or_ge j ρ.length with hjl | hjl
        · have e := List.getElem?_eq_getElem hjl
          rw [q8 j (by rw [hιcl]; exact hjl), hιc j _ e] at h2
          have hl : ρ[j] < ι.length := by rw [hst.rep.len]; exact hlt _ (List.getElem_mem hjl)
          rw [g_lt j _ e]
          simp only [ι2]
          rw [List.getElem?_append_left hl, List.getElem?_eq_getElem hl]
          rw [List.getElem?_eq_getElem hl] at h2
          simpa using h2
        · rw [newι j hjl]; exact h2
      · refine .inr ⟨b, o, c, e2, fwd _ _ h2, fun hp => h3 (cxk b hp), h4, h5, by simpa [renL_eq] using h6, fun i hi => ?_⟩
        have := h7 i (by simpa [renL_eq] using hi)
        simp only [renL_eq, List.getElem_map]
        exact this.ren fwd
  · rcases cases_row k ds hk with ⟨hkl, hm, hh⟩ | ⟨j, d, rfl, hj, rfl⟩ <;> rcases cases_row k' ds' hk' with ⟨hkl', hm', hh'⟩ | ⟨j', d', rfl, hj', rfl⟩
    · have o1 : ι[k]? = some (some (b, o)) := by
        simp only [ι2] at hi; rwa [List.getElem?_append_left (by rw [hst.rep.len]; exact hkl)] at hi
      have o2 : ι[k']? = some (some (b', o')) := by
        simp only [ι2] at hi'; rwa [List.getElem?_append_left (by rw [hst.rep.len]; exact hkl')] at hi'
      exact hst.rep.inj k k' ds ds' b o b' o' hh hh' o1 o2 hbb
    · have o1 : ι[k]? = some (some (b, o)) := by
        simp only [ι2] at hi; rwa [List.getElem?_append_left (by rw [hst.rep.len]; exact hkl)] at hi
      obtain ⟨c2, e2, k2, _⟩ := q4.block hj' (place _ _ _ _ hj' hi')
      subst hbb
      exact absurd (other k ds b o hm hh o1) k2
    · have o2 : ι[k']? = some (some (b', o')) := by
        simp only [ι2] at hi'; rwa [List.getElem?_append_left (by rw [hst.rep.len]; exact hkl')] at hi'
      obtain ⟨c2, e2, k2, _⟩ := q4.block hj (place _ _ _ _ hj hi)
      subst hbb
      exact absurd (other k' ds' b o' hm' hh' o2) k2
    · rw [q4.inj j j' d d' b o b' o' hj hj' (place _ _ _ _ hj hi) (place _ _ _ _ hj' hi') hbb]
  · rcases q6 b hb with h | h
    · exact hst.p1 b h
    · exact .inr fun hp => h (cxk b hp)
  · exact (hst.fr t).step hs q7 fun h x hx => oldι _ _ hx

/-- The arguments hold no rows. -/
theorem callK.bare {f : Nat} {args : List LV} {K : LV → Hp → Prop} (hf : hfreeL args = true) (h : LC P f args [] fun x H1 => K (ren (H.length + ·) x) (H ++ H1.map (renR (H.length + ·)))) : callK P f args H K := by
  have e1 : gOf [] H.length = (H.length + ·) := by funext j; simp [gOf]
  have e2 : args.map (ren (gOf [] H.length)) = args := by
    have key : ∀ (n : Nat) (g : Nat → Nat) (x : LV), SizeOf.sizeOf x < n → hfree x = true → ren g x = x := by
      intro n
      induction n with
      | zero => intro g x h; omega
      | succ n ih =>
        intro g x hs hx
        have keyL : ∀ (cs : List LV), SizeOf.sizeOf cs < n → hfreeL cs = true → renL g cs = cs := by
          intro cs hcs hf
          rw [renL_eq]
          have : ∀ c ∈ cs, ren g c = c := fun c hc => by
            obtain ⟨i, hi, rfl⟩ := List.getElem_of_mem hc
            have := List.sizeOf_lt_of_mem hc
            exact ih g _ (by omega) (hfreeL_get hf i hi)
          rw [List.map_congr_left this]; simp
        cases x <;> simp only [hfree, reduceCtorEq] at hx <;> simp only [ren]
        · rw [keyL _ (by simp at hs; omega) hx]
        · rw [keyL _ (by simp at hs; omega) hx]
        · rw [keyL _ (by simp at hs; omega) hx]
    have : ∀ c ∈ args, ren (gOf [] H.length) c = c := fun c hc => by
      obtain ⟨i, hi, rfl⟩ := List.getElem_of_mem hc
      exact key _ _ _ (Nat.lt_succ_self _) (hfreeL_get hf i hi)
    rw [List.map_congr_left this]; simp
  have := callK.hand (P := P) (H := H) (f := f) (args0 := args) (H0 := []) (K := K) [] List.nodup_nil (by simp) rfl (by simp) (by rw [e1]; simpa [setRows] using h)
  rwa [e2] at this

/-- What the callee reads of the caller's rows is shown to it as plain values. -/
theorem callK.snap {f : Nat} {args : List LV} {K : LV → Hp → Prop} (h : LC P f (args.map (snap H 3)) [] fun x H1 => psfree x = true ∧ psfreeH H1 = true ∧ K (ren (H.length + ·) x) (H ++ H1.map (renR (H.length + ·)))) : callK P f args H K := by
  refine ⟨h.1, fun cx N ι per F a w vs hst hvl => ?_⟩
  have hsn := snap_sound hst 3
  refine (h.2 (fun b => b < w.heap.size) (allOf w) [] w vs (Rep.nil _ _ _ fun b hb => hb) (fun b hb => hb) (fun b hb => hb) ⟨by simp [hvl.1], fun i hi => by rw [List.getElem_map]; exact hsn _ _ (hvl.2 i (by simpa using hi))⟩).mono
    fun e w' ⟨v, res, H1, ι1, per', q1, ⟨p1, p2, q2⟩, q3, q4, q5, q6, q7, q8⟩ => ?_
  have hk : Kept cx.kp w w' := q3.mono fun b hb => hst.bs b hb
  have hs : Step per w w' := ⟨fun b hb => q3.step.same b (hst.rep.perlt b hb), q3.step.room⟩
  have hιl : ι.length = H.length := hst.rep.len
  have oldι : ∀ (h : Nat) (x : Option (Nat × Nat)), ι[h]? = some x → (ι ++ ι1)[h]? = some x := fun h x hx => by
    have hl : h < ι.length := by
      rcases Nat.lt_or_ge h ι.length with h' | h'
      · exact h'
      · simp [List.getElem?_eq_none h'] at hx
    rw [List.getElem?_append_left hl]; exact hx
  have newι : ∀ j, (ι ++ ι1)[H.length + j]? = ι1[j]? := fun j => by
    rw [← hιl, List.getElem?_append_right (by omega)]; congr 1; omega
  have cases_row : ∀ (k : Nat) (ds : List LV), (H ++ H1.map (renR (H.length + ·)))[k]? = some (some ds) → (k < H.length ∧ H[k]? = some (some ds)) ∨ ∃ j d, k = H.length + j ∧ H1[j]? = some (some d) ∧ ds = renL (H.length + ·) d := by
    intro k ds hk
    rcases Nat.lt_or_ge k H.length with hkl | hkl
    · rw [List.getElem?_append_left hkl] at hk; exact .inl ⟨hkl, hk⟩
    · rw [List.getElem?_append_right hkl, List.getElem?_map] at hk
      cases hx : H1[k - H.length]? with
      | none => rw [hx] at hk; cases hk
      | some y =>
        rw [hx] at hk
        cases y with
        | none => cases hk
        | some d => exact .inr ⟨_, d, by omega, hx, (Option.some.inj (Option.some.inj hk)).symm⟩
  have fwd : ∀ (j : Nat) (b : Nat × Nat), ι1[j]? = some (some b) → (ι ++ ι1)[H.length + j]? = some (some b) := fun j b hb => by rw [newι]; exact hb
  have inold : ∀ (k : Nat) (b : Option (Nat × Nat)), k < H.length → (ι ++ ι1)[k]? = some b → ι[k]? = some b := fun k b hk hb => by
    rwa [List.getElem?_append_left (by rw [hιl]; exact hk)] at hb
  refine ⟨v, _, _, ι ++ ι1, per, q1, q2, ⟨⟨by simp [hιl, q4.len], fun b hb => Nat.lt_of_lt_of_le (hst.rep.perlt b hb) q3.size, fun k ds hk => ?_, fun k k' ds ds' b o b' o' hk hk' hi hi' hbb => ?_⟩, hst.p1, hst.p2, fun t => (hst.fr t).step hs (fun _ h => h) fun h x hx => oldι _ _ hx,
    hst.size, hst.defers.keep hk, hst.below.trans hk, fun b hb => Nat.lt_of_lt_of_le (hst.bs b hb) hk.size, hst.grow_push _⟩, (q5.psfree p1).ren fwd, hs, fun _ h => h, fun h hh => List.getElem?_append_left hh⟩
  · rcases cases_row k ds hk with ⟨hkl, hh⟩ | ⟨j, d, rfl, hj, rfl⟩
    · rcases hst.rep.live k ds hh with ⟨h2, h3⟩ | ⟨b, o, c, e2, h2, h3, h4, h5, h6, h7⟩
      · exact .inl ⟨oldι _ _ h2, h3⟩
      · exact .inr ⟨b, o, c, e2, oldι _ _ h2, h3, h4, h5.get (q3.step.same b (lt_of_get h5.1)), h6, fun i hi => (h7 i hi).step hs (fun _ h => h) fun h x hx => oldι _ _ hx⟩
    · rcases q4.live j d hj with ⟨h2, h3⟩ | ⟨b, o, c, e2, h2, h3, h4, h5, h6, h7⟩
      · subst h3
        exact .inl ⟨by rw [newι]; exact h2, rfl⟩
      · refine .inr ⟨b, o, c, e2, fwd _ _ h2, fun hp => h3 (hst.bs b hp), fun hp => h3 (hst.rep.perlt b hp), h5, by simpa [renL_eq] using h6, fun i hi => ?_⟩
        have h8 := h7 i (by simpa [renL_eq] using hi)
        simp only [renL_eq, List.getElem_map]
        exact (h8.psfree (psfreeL_get (psfreeH_get p2 hj) i (by simpa [renL_eq] using hi))).ren fwd
  · rcases cases_row k ds hk with ⟨hkl, hh⟩ | ⟨j, d, rfl, hj, rfl⟩ <;> rcases cases_row k' ds' hk' with ⟨hkl', hh'⟩ | ⟨j', d', rfl, hj', rfl⟩
    · exact hst.rep.inj k k' ds ds' b o b' o' hh hh' (inold _ _ hkl hi) (inold _ _ hkl' hi') hbb
    · obtain ⟨c1, e1, _, _, g3, _⟩ := hst.rep.block hh (inold _ _ hkl hi)
      rw [newι] at hi'
      obtain ⟨c2, e2, g1, _⟩ := q4.block hj' hi'
      subst hbb
      exact absurd (lt_of_get g3.1) g1
    · obtain ⟨c1, e1, _, _, g3, _⟩ := hst.rep.block hh' (inold _ _ hkl' hi')
      rw [newι] at hi
      obtain ⟨c2, e2, g1, _⟩ := q4.block hj hi
      subst hbb
      exact absurd (lt_of_get g3.1) g1
    · rw [newι] at hi hi'
      rw [q4.inj j j' d d' b o b' o' hj hj' hi hi' hbb]

end
end Go.Lite
