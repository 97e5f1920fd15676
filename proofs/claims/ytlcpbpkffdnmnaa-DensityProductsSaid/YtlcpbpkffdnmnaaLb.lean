/- Lite, parts G to L: soundness of the operations, contracts of functions, calls. -/
import Derived.Test.YtlcpbpkffdnmnaaLa
set_option linter.unusedVariables false
set_option linter.unusedSimpArgs false

/- Lite, part G: the operations that read, make and write memory do what loadOp and effOp say. -/
namespace Go.Lite
open Go Go.RowKit

/-- What was there is there. -/
def Ext (w w' : World) : Prop := ∀ b, b < w.heap.size → w'.heap[b]? = w.heap[b]?

theorem Ext.refl (w : World) : Ext w w := fun _ _ => rfl
theorem Ext.cell {w w' : World} (h : Ext w w') {p : Addr} {v : Value} (hc : w.cell? p = some v) : w'.cell? p = some v := by
  have hb : p.block < w.heap.size := by
    unfold World.cell? at hc
    split at hc
    · rename_i hx; exact lt_of_get hx
    · cases hc
  rw [← hc]; exact World.cell?_of_block (h p.block hb)

section
variable {P : Program} {base : Nat} {per0 : Nat → Prop} {w0 : World} {N : Nat} {ι : Pl} {per : Nat → Prop} {F : Fr} {H : Hp} {a : Act} {w : World}

theorem Rep.block (hr : Rep base w ι per H) {h : Nat} {cs : List LV} {b o : Nat} (hh : H[h]? = some (some cs)) (hi : ι[h]? = some (some (b, o))) :
    ∃ c e, base ≤ b ∧ ¬ per b ∧ w.heap[b]? = some (.cells c e (0, 0)) ∧ o + cs.length ≤ c.size ∧ ∀ i (hi : i < cs.length), VR w per ι cs[i] (c.getD (o + i) undef) := by
  rcases hr.live h cs hh with ⟨h1, _⟩ | ⟨b', o', c, e, h1, h2, h3, h4, h5, h6⟩
  · rw [hi] at h1; cases h1
  · rw [hi] at h1
    simp only [Option.some.injEq, Prod.mk.injEq] at h1
    obtain ⟨rfl, rfl⟩ := h1
    exact ⟨c, e, h2, h3, h4, h5, h6⟩

theorem load_sound (hst : ST base per0 w0 N ι per F H a w) {o : Oper} {x : LV} (h : loadOp P F H o.op = some x) :
    ∃ u, (∀ w', Ext w w' → (execOp a.eval o).run P w' = .ok (.value u) w') ∧ VR w per ι x u := by
  obtain ⟨dst, op, ty, pos, after, guard⟩ := o
  cases op with
  | load t y =>
    simp only [loadOp] at h
    have hc := hst.fr.eval y
    generalize hcv : a.eval y = v at hc
    have key : ∀ (ti : TI) (cs : List LV) (b o : Nat) (vs : Nat → Value) (off : Nat), tiOf P t = some ti → v = .pointer (some ⟨b, o + off, none⟩) →
        (∀ i, i < cs.length → w.cell? ⟨b, o + i, none⟩ = some (vs i)) → (∀ i (hi : i < cs.length), VR w per ι cs[i] (vs i)) → lpart ti.agg ti.size cs off = some x →
        ∃ u, (∀ w', Ext w w' → (execOp a.eval ⟨dst, .load t y, ty, pos, after, guard⟩).run P w' = .ok (.value u) w') ∧ VR w per ι x u := by
      intro ti cs b o vs off hti hv hcell hvr hp
      obtain ⟨i, d, z, hi, hd, hz, hzero, hsize, hzs, hagg, htd⟩ := ti_spec hti
      unfold lpart at hp
      rw [hagg] at hp
      split at hp
      · rename_i hA
        split at hp
        · rename_i hle
          obtain rfl := Option.some.inj hp
          refine ⟨.agg (((List.range i.size).map fun j => vs (off + j)).toArray), fun w' hw' => ?_, .agg (by simp; omega) fun j hj => ?_⟩
          · have hl := run_loadCells (P := P) (w := w') (b := b) (o := o + off) (fun j => vs (off + j)) i.size 0 #[] (fun j _ h2 => by
              have := hcell (off + j) (by omega)
              rw [← Nat.add_assoc] at this
              exact hw'.cell this)
            simp only [execOp, hcv, hv, Instr.loadAt, Instr.sureAddr, Sem.run_bind, Sem.run_pure, Result.andThen_ok, loadVar, run_isAgg hd, hA, if_true, run_sizeOf hi, loadCells, hl]
            simp [List.range_eq_range']
          · have hj2 : off + j < cs.length := by simp at hj; omega
            have hj3 : j < i.size := by simp at hj; omega
            rw [List.getElem_take, List.getElem_drop]
            simp [hj3]
            exact hvr _ hj2
        · cases hp
      · rename_i hA
        obtain ⟨hlt, rfl⟩ := List.getElem?_eq_some_iff.1 hp
        refine ⟨vs off, fun w' hw' => ?_, hvr off hlt⟩
        have := hw'.cell (hcell off hlt)
        simp only [execOp, hcv, hv, Instr.loadAt, Instr.sureAddr, Sem.run_bind, Sem.run_pure, Result.andThen_ok, loadVar, run_isAgg hd, hA, if_false, Bool.false_eq_true, run_load, this]
    split at h
    · rename_i ti hh oo hti e
      rw [e] at hc
      split at h
      · rename_i cs hrow
        obtain ⟨b, o, hi, rfl⟩ := hc.ptr_inv
        obtain ⟨c, e2, h1, h2, h3, h4, h5⟩ := hst.rep.block (row_some hrow) hi
        refine key ti cs b o (fun i => c.getD (o + i) undef) oo hti rfl (fun i hi => ?_) h5 h
        rw [cell_of_blk h3]
        have : o + i < c.size := by omega
        simp [this]
      · cases h
    · rename_i ti cs hti e
      rw [e] at hc
      obtain ⟨b, o, vs, hp, hcc, hvv, rfl⟩ := hc.pp_inv
      exact key ti cs b o vs 0 hti rfl hcc (fun i hi => (hvv i hi).step (Step.refl _ _) (fun _ h => h) (fun _ _ h => by simp at h)) h
    · cases h
  | _ => cases h

theorem take_range_map (f : Nat → Value) (n : Nat) {k : Nat} (h : k ≤ n) : ((List.range n).map f).take k = (List.range' 0 k).map f := by
  rw [← List.map_take, List.take_range, Nat.min_eq_left h, List.range_eq_range']

/-- A source of append or copy. -/
theorem src_sound (hst : ST base per0 w0 N ι per F H a w) {esz : Nat} {x : LV} {v : Value} (hx : VR w per ι x v) {n : Nat} {xs : List LV} (h : srcCells H esz x = some (n, xs)) :
    ∃ vs : List Value, VL w ι per xs vs ∧ xs.length = n * esz ∧ (∀ w', (Builtin.lenOf v).run P w' = .ok n w') ∧
      ∀ w' k, Ext w w' → k ≤ n → (Builtin.firstCells esz k v).run P w' = .ok (vs.take (k * esz)).toArray w' := by
  cases x with
  | nils =>
    simp only [srcCells, Option.some.injEq, Prod.mk.injEq] at h
    obtain ⟨rfl, rfl⟩ := h
    cases hx
    exact ⟨[], .nil, by simp, fun w' => by simp [Builtin.lenOf], fun w' k _ hk => by simp [Builtin.firstCells]⟩
  | str s =>
    simp only [srcCells] at h
    split at h
    · rename_i he
      simp only [Option.some.injEq, Prod.mk.injEq] at h
      obtain ⟨rfl, rfl⟩ := h
      cases hx
      refine ⟨s.data.toList.map fun b => .int .u8 b.toNat, ⟨by simp, fun i hi => ?_⟩, by subst he; simp, fun w' => by simp [Builtin.lenOf], fun w' k _ hk => ?_⟩
      · have hi' : i < s.data.size := by simpa using hi
        simp only [List.getElem_map, List.getD_eq_getElem?_getD, List.getElem?_map, Array.getElem?_toList, Array.getElem?_eq_getElem hi', Option.map_some, Option.getD_some]
        exact .int _ _
      · subst he
        simp only [Builtin.firstCells, Sem.run_pure, Nat.mul_one, Result.ok.injEq, and_true]
        apply Array.ext'
        simp [ByteArray.data_extract]
    · cases h
  | ps sz m cs =>
    simp only [srcCells] at h
    split at h
    · rename_i he
      simp only [Option.some.injEq, Prod.mk.injEq] at h
      obtain ⟨rfl, rfl⟩ := h
      subst he
      rcases hx.ps_inv with ⟨b, o, cap, vs, hp, hn, hl, hc, hv, rfl⟩ | ⟨rfl, rfl, aa, cap, rfl⟩
      · refine ⟨(List.range cs.length).map vs, ⟨by simp, fun i hi => ?_⟩, hn, fun w' => by simp [Builtin.lenOf], fun w' k hw' hk => ?_⟩
        · simp [hi]
          exact (hv i hi).step (Step.refl _ _) (fun _ h => h) (fun _ _ h => by simp at h)
        · have hkl : k * sz ≤ cs.length := by rw [hn]; exact Nat.mul_le_mul_right _ hk
          have := run_loadCells (P := P) (w := w') (b := b) (o := o) vs (k * sz) 0 #[] (fun j _ h2 => hw'.cell (hc j (by omega)))
          simp only [Builtin.firstCells, loadCells, this]
          rw [take_range_map _ _ hkl]
          simp
      · refine ⟨[], .nil, by simp, fun w' => by simp [Builtin.lenOf], fun w' k hw' hk => ?_⟩
        have : k = 0 := by omega
        subst this
        cases aa <;> simp [Builtin.firstCells, loadCells, loadCellsFrom]
    · cases h
  | sl sz h' o m =>
    simp only [srcCells] at h
    split at h
    · rename_i he
      subst he
      split at h
      · rename_i cs hrow
        split at h
        · rename_i hle
          simp only [Option.some.injEq, Prod.mk.injEq] at h
          obtain ⟨rfl, rfl⟩ := h
          rcases hx.sl_inv with ⟨b, o', cap, hi, hl, hr, rfl⟩ | ⟨rfl, aa, rfl⟩
          · obtain ⟨c, e2, h1, h2, h3, h4, h5⟩ := hst.rep.block (row_some hrow) hi
            have hlen : ((cs.drop o).take (m * sz)).length = m * sz := by simp; omega
            refine ⟨(List.range (m * sz)).map fun j => c.getD (o' + o + j) undef, ⟨by rw [hlen]; simp, fun i hi => ?_⟩, hlen, fun w' => by simp [Builtin.lenOf], fun w' k hw' hk => ?_⟩
            · have hi' : i < m * sz := by rw [hlen] at hi; exact hi
              rw [List.getElem_take, List.getElem_drop]
              have := h5 (o + i) (by omega)
              rw [← Nat.add_assoc] at this
              simpa [hi'] using this
            · have hkl : k * sz ≤ m * sz := Nat.mul_le_mul_right _ hk
              have := run_loadCells (P := P) (w := w') (b := b) (o := o' + o) (fun j => c.getD (o' + o + j) undef) (k * sz) 0 #[] (fun j _ h2 => hw'.cell (by
                rw [cell_of_blk h3]
                have : o' + o + j < c.size := by omega
                simp [this]))
              simp only [Builtin.firstCells, loadCells, this]
              rw [take_range_map _ _ hkl]
              simp
          · refine ⟨[], by simpa using VL.nil, by simp, fun w' => by simp [Builtin.lenOf], fun w' k hw' hk => ?_⟩
            have : k = 0 := by omega
            subst this
            cases aa <;> simp [Builtin.firstCells, loadCells, loadCellsFrom]
        · cases h
      · cases h
    · cases h
  | _ => cases h

theorem zerosL_length (n : Nat) (zs : List LV) : (zerosL n zs).length = n * zs.length := by
  unfold zerosL
  split
  · simp
  · simp [List.length_flatten]

theorem flatten_get? {n : Nat} : ∀ (i : Nat) (zs : List LV), i < n * zs.length → (List.replicate n zs).flatten[i]? = zs[i % zs.length]? := by
  induction n with
  | zero => intro i zs h; simp at h
  | succ n ih =>
    intro i zs h
    simp only [List.replicate_succ, List.flatten_cons]
    by_cases hi : i < zs.length
    · rw [List.getElem?_append_left hi, Nat.mod_eq_of_lt hi]
    · have hle : zs.length ≤ i := by omega
      rw [List.getElem?_append_right hle, ih (i - zs.length) zs (by rw [Nat.succ_mul] at h; omega), ← Nat.mod_eq_sub_mod hle]

theorem zerosL_get? {n i : Nat} {zs : List LV} (hi : i < n * zs.length) : (zerosL n zs)[i]? = zs[i % zs.length]? := by
  rcases zs with _ | ⟨z, _ | ⟨y, r⟩⟩
  · simp at hi
  · simp only [List.length_singleton, Nat.mul_one] at hi
    simp [zerosL, hi, Nat.mod_one]
  · exact flatten_get? i _ hi

theorem zerosL_get {n : Nat} {z : Value} {i : Nat} (w : World) (ι : Pl) (per : Nat → Prop) (h : i < (zerosL n (z.cells.toList.map scalarLV)).length) :
    VR w per ι (zerosL n (z.cells.toList.map scalarLV))[i] (z.cells[i % z.cells.size]!) := by
  have hi : i < n * z.cells.size := by rw [zerosL_length] at h; simpa using h
  have hpos : 0 < z.cells.size := by
    rcases Nat.eq_zero_or_pos z.cells.size with h | h
    · rw [h] at hi; simp at hi
    · exact h
  have hmod : i % z.cells.size < z.cells.size := Nat.mod_lt _ hpos
  have h1 := zerosL_get? (n := n) (i := i) (zs := z.cells.toList.map scalarLV) (by simpa using hi)
  rw [List.getElem?_eq_getElem h] at h1
  simp only [List.length_map, Array.length_toList, List.getElem?_map, Array.getElem?_toList, Array.getElem?_eq_getElem hmod, Option.map_some, Option.some.injEq] at h1
  rw [h1, getElem!_pos z.cells _ hmod]
  exact .scalar _

end
end Go.Lite

/- Lite, part H: the operations that make and write memory do what effOp says. -/
namespace Go.Lite
open Go Go.RowKit

/-- An operation has been carried out: the value, the state behind it. -/
def Does (P : Program) (base : Nat) (per0 : Nat → Prop) (w0 : World) (N : Nat) (per : Nat → Prop) (F' : Fr) (H' : Hp) (a : Act) (x : LV) (s : Sem Next) (w : World) : Prop :=
  ∃ u w' ι', (s.run P w = .ok (.value u) w' ∨ (s.run P w = .ok .skip w' ∧ u = undef)) ∧ ST base per0 w0 N ι' per F' H' a w' ∧ VR w' per ι' x u

section
variable {P : Program} {base : Nat} {per0 : Nat → Prop} {w0 : World} {N : Nat} {ι : Pl} {per : Nat → Prop} {F F' : Fr} {H H' : Hp} {a : Act} {w : World} {x : LV}

theorem newPtr (hst : ST base per0 w0 N ι per F H a w) : (ι ++ [some (w.heap.size, 0)])[H.length]? = some (some (w.heap.size, 0)) := by
  rw [← hst.rep.len]; simp

theorem eff_alloc (hst : ST base per0 w0 N ι per F H a w) {t : TypeId} {dst ty pos after guard} (h : effOp P F H (.alloc t) = some (x, F', H')) :
    Does P base per0 w0 N per F' H' a x (execOp a.eval ⟨dst, .alloc t, ty, pos, after, guard⟩) w := by
  simp only [effOp] at h
  split at h
  · rename_i ti hti
    simp only [Option.some.injEq, Prod.mk.injEq] at h
    obtain ⟨rfl, rfl, rfl⟩ := h
    obtain ⟨i, d, z, hi, hd, hz, hzero, hsize, hzs, hagg, htd⟩ := ti_spec hti
    refine ⟨.pointer (some ⟨w.heap.size, 0, none⟩), w.alloc (.cells z.cells t), _, .inl ?_, hst.alloc (cs := ti.zero) (by rw [hzero]; simp) (fun i hi => ?_), .ptr (o := 0) (off := 0) (newPtr hst)⟩
    · simp [execOp, Instr.alloc, run_zeroValue hi hz, newVar, newRow]
    · have := VL.scalars (w := w) (ι := ι) (per := per) z.cells.toList
      have hi' : i < (z.cells.toList.map scalarLV).length := by rw [← hzero]; exact hi
      have h2 := this.2 i hi'
      simp only [hzero]
      simpa using h2
  · cases h

theorem eff_box (hst : ST base per0 w0 N ι per F H a w) {t : TypeId} {y : Operand} {dst ty pos after guard} (h : effOp P F H (.box t y) = some (x, F', H')) :
    Does P base per0 w0 N per F' H' a x (execOp a.eval ⟨dst, .box t y, ty, pos, after, guard⟩) w := by
  simp only [effOp] at h
  split at h
  · rename_i cs hcs
    simp only [Option.some.injEq, Prod.mk.injEq] at h
    obtain ⟨rfl, rfl, rfl⟩ := h
    have hc := (hst.fr.eval y).cells hcs
    refine ⟨.pointer (some ⟨w.heap.size, 0, none⟩), w.alloc (.cells (a.eval y).cells t), _, .inl ?_, hst.alloc (cs := cs) (by have := hc.1; simp at this; omega) (fun i hi => ?_), .ptr (o := 0) (off := 0) (newPtr hst)⟩
    · simp [execOp, Instr.box, newVar, newRow]
    · have := hc.2 i hi
      simpa using this
  · cases h

theorem eff_buildSlice (hst : ST base per0 w0 N ι per F H a w) {t : TypeId} {len : Nat} {parts} {dst ty pos after guard} (h : effOp P F H (.buildSlice t len parts) = some (x, F', H')) :
    Does P base per0 w0 N per F' H' a x (execOp a.eval ⟨dst, .buildSlice t len parts, ty, pos, after, guard⟩) w := by
  simp only [effOp] at h
  split at h
  · rename_i esz eb ez sz ag z ht
    split at h
    · rename_i hle
      split at h
      · rename_i cs hcs
        simp only [Option.some.injEq, Prod.mk.injEq] at h
        obtain ⟨rfl, rfl, rfl⟩ := h
        obtain ⟨et, j, ze, hu, hj, hsz, hby, hze, hez, hzs, hpos⟩ := slice_spec ht
        have hparts : ∀ (i : Nat) (p : Nat × LV), (parts.toList.map fun p => (p.1, evalO F p.2))[i]? = some p → ∃ v, (parts.toList.map fun p => (p.1, a.eval p.2))[i]? = some (p.1, v) ∧ VR w per ι p.2 v := by
          intro i p hp
          simp only [List.getElem?_map, Option.map_eq_some_iff] at hp ⊢
          obtain ⟨q, hq, rfl⟩ := hp
          exact ⟨a.eval q.2, ⟨q, hq, rfl⟩, hst.fr.eval q.2⟩
        have hz0 : VL w ι per (zerosL len ez) ((Array.range (len * j.size)).map (ze.cells[· % ze.cells.size]!)).toList := by
          subst hez
          refine ⟨by rw [zerosL_length]; simp [hzs, hsz], fun i hi => ?_⟩
          have h1 := zerosL_get (n := len) (z := ze) w ι per hi
          have hi2 : i < len * j.size := by rw [zerosL_length] at hi; simpa [hzs, hsz] using hi
          simpa [hi2] using h1
        obtain ⟨out, ho, hl⟩ := lfill_sound (w := w) (ι := ι) (per := per) (fun i => some (i * esz, esz)) (fun i => some (i * j.size, j.size)) (by intro i; rw [hsz]) _ _ (by simp) hparts _ _ hz0 cs hcs
        have hpm : (parts.map fun (x : Nat × Operand) => (x.1, a.eval x.2)).toList = parts.toList.map fun p => (p.1, a.eval p.2) := by simp
        have hcl : cs.length = len * esz := by
          have : ∀ (place : Nat → Option (Nat × Nat)) (ps : List (Nat × LV)) (c r : List LV), lfill place c ps = some r → r.length = c.length := by
            intro place ps
            induction ps with
            | nil => intro c r h; obtain rfl := Option.some.inj h; rfl
            | cons p ps ih =>
              intro c r h
              obtain ⟨i, v⟩ := p
              simp only [lfill] at h
              split at h
              · split at h
                · cases h
                · rename_i hn
                  have := ih _ _ h
                  rw [this]
                  simp only [not_or] at hn
                  simp [putCells]; omega
              · cases h
          rw [this _ _ _ _ hcs, zerosL_length, hez]
          simp [hzs]
        have hos : out.size = len * esz := by have := hl.1; simp at this; omega
        refine ⟨.slice (some ⟨w.heap.size, 0, none⟩) len len, w.alloc (.cells out et), _, .inl ?_, hst.alloc (cs := cs) (by omega) (fun i hi => ?_), ?_⟩
        · simp only [execOp, Instr.buildSlice, Sem.run_bind, run_underlying hu, Result.andThen_ok, run_sizeOf hj]
          rw [if_neg (by rw [hsz]; omega)]
          by_cases h0 : len * j.size = 0
          · rw [if_pos h0]
            have he : (Array.range (len * j.size)).map (fun x => (#[] : Array Value)[x % (#[] : Array Value).size]!) = (Array.range (len * j.size)).map (fun x => ze.cells[x % ze.cells.size]!) := by
              have hr : Array.range (len * j.size) = #[] := by rw [h0]; exact Array.eq_empty_of_size_eq_zero (by simp)
              rw [hr]; simp
            simp only [Sem.run_bind, Sem.run_pure, Result.andThen_ok, hpm]
            rw [he, ho]
            simp [newRow]
          · rw [if_neg h0]
            simp only [Sem.run_bind, run_zeroValue hj hze, Result.andThen_ok, Sem.run_pure, hpm]
            rw [ho]
            simp [newRow]
        · have := hl.2 i hi
          simpa using this
        · have hroom : Room (w.alloc (.cells out et)) w.heap.size (0 + 0 + len * esz) := ⟨out, et, (0, 0), by show (w.heap.push _)[w.heap.size]? = _; rw [Array.getElem?_push_size], by omega⟩
          have := VR.sl (w := w.alloc (.cells out et)) (per := per) (sz := esz) (off := 0) (len := len) (cap := len) (newPtr hst) (Nat.le_refl _) hroom
          exact this
      · cases h
    · cases h
  · cases h

theorem eff_makeSlice (hst : ST base per0 w0 N ι per F H a w) {t : TypeId} {l c : Operand} {dst ty pos after guard} (h : effOp P F H (.makeSlice t l c) = some (x, F', H')) :
    Does P base per0 w0 N per F' H' a x (execOp a.eval ⟨dst, .makeSlice t l c, ty, pos, after, guard⟩) w := by
  simp only [effOp] at h
  split at h
  · rename_i esz eb ez _ _ _ k n k' m ht el ec
    split at h
    · rename_i hb
      simp only [Option.some.injEq, Prod.mk.injEq] at h
      obtain ⟨rfl, rfl, rfl⟩ := h
      obtain ⟨et, j, ze, hu, hj, hsz, hby, hze, hez, hzs, hpos⟩ := slice_spec ht
      have hl := hst.fr.eval l
      rw [el] at hl
      have hc := hst.fr.eval c
      rw [ec] at hc
      generalize hlv : a.eval l = lv at hl
      generalize hcv : a.eval c = cv at hc
      cases hl
      cases hc
      have w1 : IntKind.i64.wrap n = n := by
        simp [IntKind.wrap, IntKind.bits, IntKind.signed]; omega
      have w2 : IntKind.i64.wrap m = m := by
        simp [IntKind.wrap, IntKind.bits, IntKind.signed]; omega
      have hm0 : 0 ≤ m := by omega
      have t1 : (decide (m < 0) || decide ((j.bytes : Int) * m > 2 ^ 48)) = false := by
        rw [hby]; simp; omega
      have hcs : ((Array.range (m.toNat * j.size)).map (ze.cells[· % ze.cells.size]!)).size = m.toNat * esz := by simp [hsz]
      have hnm : n.toNat ≤ m.toNat := by omega
      refine ⟨.slice (some ⟨w.heap.size, 0, none⟩) n.toNat m.toNat, w.alloc (.cells ((Array.range (m.toNat * j.size)).map (ze.cells[· % ze.cells.size]!)) et), _, .inl ?_,
        hst.alloc (cs := zerosL n.toNat ez) ?_ (fun i hi => ?_), ?_⟩
      · simp only [execOp, hlv, hcv, Instr.makeSlice, Sem.run_bind, run_underlying hu, Result.andThen_ok, asInt, asIntOf, Sem.run_pure, run_typeInfo hj, w1, w2, t1]
        have t2 : (decide (n < 0) || decide (n > m)) = false := by simp; omega
        simp only [Bool.false_or, t2, Bool.false_eq_true, if_false, Sem.run_bind, run_askRoom, Result.andThen_ok, run_sizeOf hj]
        by_cases h0 : m.toNat * j.size = 0
        · rw [if_pos h0]
          have hr : Array.range (m.toNat * j.size) = #[] := by rw [h0]; exact Array.eq_empty_of_size_eq_zero (by simp)
          simp only [Sem.run_bind, Sem.run_pure, Result.andThen_ok, hr, newRow]
          simp
        · rw [if_neg h0]
          simp only [Sem.run_bind, run_zeroValue hj hze, Result.andThen_ok, Sem.run_pure]
          simp [newRow]
      · rw [zerosL_length, hcs, hez]
        simp only [List.length_map, Array.length_toList, hzs]
        exact Nat.mul_le_mul_right _ hnm
      · subst hez
        have h1 := zerosL_get (n := n.toNat) (z := ze) w ι per hi
        have hi1 : i < n.toNat * esz := by rw [zerosL_length] at hi; simpa [hzs] using hi
        have hi2 : i < m.toNat * j.size := by rw [hsz]; exact Nat.lt_of_lt_of_le hi1 (Nat.mul_le_mul_right _ hnm)
        simpa [hi2] using h1
      · have hroom : Room (w.alloc (.cells ((Array.range (m.toNat * j.size)).map (ze.cells[· % ze.cells.size]!)) et)) w.heap.size (0 + 0 + m.toNat * esz) :=
          ⟨_, et, (0, 0), by show (w.heap.push _)[w.heap.size]? = _; rw [Array.getElem?_push_size], by rw [hcs]; omega⟩
        exact VR.sl (per := per) (sz := esz) (off := 0) (newPtr hst) hnm hroom
    · cases h
  · cases h

theorem putC_length {cs ds : List LV} {o : Nat} (h : o + ds.length ≤ cs.length) : (putC cs o ds).length = cs.length := by
  unfold putC
  split
  · simp
  · simp [putCells]; omega

theorem putC_get {cs ds : List LV} {o : Nat} (h : o + ds.length ≤ cs.length) (i : Nat) : (putC cs o ds)[i]? = if o ≤ i ∧ i < o + ds.length then ds[i - o]? else cs[i]? := by
  unfold putC
  split
  · rename_i d
    simp only [List.length_singleton] at h ⊢
    rw [List.getElem?_set]
    by_cases e : o = i
    · subst e
      simp; omega
    · rw [if_neg e, if_neg (by omega)]
  · unfold putCells
    by_cases h1 : i < o
    · rw [if_neg (by omega), List.append_assoc, List.getElem?_append_left (by simp; omega), List.getElem?_take, if_pos h1]
    · by_cases h2 : i < o + ds.length
      · rw [if_pos (by omega), List.getElem?_append_left (by simp; omega), List.getElem?_append_right (by simp; omega)]
        congr 1
        simp; omega
      · rw [if_neg (by omega), List.getElem?_append_right (by simp; omega), List.getElem?_drop]
        congr 1
        simp; omega

theorem eff_store (hst : ST base per0 w0 N ι per F H a w) {t : TypeId} {y z : Operand} {dst ty pos after guard} (h : effOp P F H (.store t y z) = some (x, F', H')) :
    Does P base per0 w0 N per F' H' a x (execOp a.eval ⟨dst, .store t y z, ty, pos, after, guard⟩) w := by
  simp only [effOp] at h
  split at h
  · rename_i ti hh oo ds hti ey hds
    split at h
    · rename_i cs hrow
      split at h
      · rename_i hb
        simp only [Option.some.injEq, Prod.mk.injEq] at h
        obtain ⟨rfl, rfl, rfl⟩ := h
        obtain ⟨i, d, zz, hi, hd, hz, hzero, hsize, hzs, hagg, htd⟩ := ti_spec hti
        have hy := hst.fr.eval y
        rw [ey] at hy
        obtain ⟨b, o, hib, hyv⟩ := hy.ptr_inv
        have hcells := (hst.fr.eval z).cells hds
        obtain ⟨c, e2, h1, h2, h3, h4, h5⟩ := hst.rep.block (row_some hrow) hib
        have hvl : (a.eval z).cells.toList.length = ds.length := hcells.1.symm
        have hone : ∀ v ∈ (a.eval z).cells.toList, v.oneCell' = true := by
          intro v hv
          obtain ⟨k, hk, rfl⟩ := List.getElem_of_mem hv
          have hk2 : k < ds.length := by rw [← hvl]; exact hk
          have h6 := hcells.2 k hk2
          rw [List.getD_eq_getElem?_getD, List.getElem?_eq_getElem hk] at h6
          exact h6.one (List.all_eq_true.1 hb.2.2 _ (List.getElem_mem hk2))
        obtain ⟨c', hrun, hcs, hcg⟩ := run_storeCells (P := P) (b := b) (o := o + oo) (e := e2) (a.eval z).cells.toList 0 w c h3 (by rw [hvl]; omega) hone
        refine ⟨undef, setBlk w b (.cells c' e2 (0, 0)), ι, .inr ⟨?_, rfl⟩, hst.row (row_some hrow) hib h3 h1 h2 hcs (by rw [putC_length hb.2.1]; exact h4) (fun k hk => ?_), .und⟩
        · simp only [execOp, Instr.storeAt, hyv, Instr.sureAddr, Sem.run_bind, Sem.run_pure, Result.andThen_ok, storeVar, run_sizeOf hi]
          rw [if_neg (by have := hb.1; simp at hvl; omega)]
          rw [hrun]
          simp
        · have hk2 : k < cs.length := by rw [putC_length hb.2.1] at hk; exact hk
          have hg := putC_get hb.2.1 k
          rw [List.getElem?_eq_getElem hk] at hg
          rw [hcg (o + k), hvl]
          by_cases hin : oo ≤ k ∧ k < oo + ds.length
          · rw [if_pos hin] at hg
            rw [if_pos (by omega)]
            have hk3 : k - oo < ds.length := by omega
            rw [List.getElem?_eq_getElem hk3] at hg
            rw [Option.some.inj hg]
            have := hcells.2 (k - oo) hk3
            have e1 : o + k - (o + oo + 0) = k - oo := by omega
            rw [e1]; exact this
          · rw [if_neg hin, List.getElem?_eq_getElem hk2] at hg
            rw [if_neg (by omega)]
            rw [Option.some.inj hg]
            exact h5 k hk2
      · cases h
    · cases h
  · cases h

end
end Go.Lite

/- Lite, part I: append and copy; every operation that makes or writes memory. -/
namespace Go.Lite
open Go Go.RowKit

section
variable {P : Program} {base : Nat} {per0 : Nat → Prop} {w0 : World} {N : Nat} {ι : Pl} {per : Nat → Prop} {F F' : Fr} {H H' : Hp} {a : Act} {w : World} {x : LV}

theorem Below.heap {w' : World} (h : w'.heap = w.heap) (ho : w'.os = w.os) (ht : w'.tape = w.tape) (hp : w'.output = w.output) : Below base w w' :=
  ⟨ho, ht, hp, by rw [h]; exact Nat.le_refl _, fun k _ => by rw [h]⟩

theorem zeroCells_size (z : Array Value) (n : Nat) : (Builtin.zeroCells z n).size = n * z.size := by simp [Builtin.zeroCells]

/-- append within the capacity. -/
theorem run_append_fits {t u e : TypeId} {j : TypeInfo} {d : TypeDesc} {args : Array Value} {argTypes : Array TypeId} {ty : TypeId} {m cap n : Nat} {ad : Option Addr} {v : Value} {vs : List Value} {w' : World}
    (ht : argTypes[0]? = some t) (hu : argTypes[1]? = some u) (hs : args[0]? = some (.slice ad m cap)) (hx : args[1]? = some v) (hut : P.underlying t = some (.slice e)) (hj : P.info? e = some j)
    (huu : P.underlying u = some d) (hd : ∀ k, d ≠ .int k) (hlen : (Builtin.lenOf v).run P w = .ok n w) (hcells : (Builtin.firstCells j.size n v).run P w = .ok vs.toArray w) (hfit : m + n ≤ cap)
    (hst : ∀ q, ad = some q → (storeCells (q.add (m * j.size)) vs).run P w = .ok () w') (hnone : ad = none → w' = w) :
    (Builtin.append_ argTypes ty args).run P w = .ok (.slice ad (m + n) cap) w' := by
  have hz : ((do pure ((← underlying u) matches .int _) : Sem Bool)).run P w = .ok false w := by
    simp only [Sem.run_bind, run_underlying huu, Result.andThen_ok, Sem.run_pure]
  unfold Builtin.append_
  simp only [ht, hs, hx, hu, Sem.run_bind, run_underlying hut, Result.andThen_ok, run_sizeOf hj]
  simp only [Sem.run_bind] at hz
  rw [run_underlying huu]
  simp only [Result.andThen_ok, Sem.run_pure]
  simp only [Bool.false_eq_true, if_false, Sem.run_bind, hlen, Result.andThen_ok, if_pos hfit, Bool.not_false, if_true, hcells]
  cases ad with
  | none => rw [hnone rfl]; simp
  | some q => simp only [Sem.run_bind, hst q rfl, Result.andThen_ok, Sem.run_pure]

/-- append that makes a new array. -/
theorem run_append_grows {t u e : TypeId} {j : TypeInfo} {d : TypeDesc} {z : Value} {args : Array Value} {argTypes : Array TypeId} {ty : TypeId} {m cap n : Nat} {ad : Option Addr} {v : Value} {vs old : List Value}
    (ht : argTypes[0]? = some t) (hu : argTypes[1]? = some u) (hs : args[0]? = some (.slice ad m cap)) (hx : args[1]? = some v) (hut : P.underlying t = some (.slice e)) (hj : P.info? e = some j) (hz : j.zero = some z)
    (hzs : z.cells.size = j.size) (huu : P.underlying u = some d) (hd : ∀ k, d ≠ .int k) (hlen : (Builtin.lenOf v).run P w = .ok n w) (hcells : ∀ w', Ext w w' → (Builtin.firstCells j.size n v).run P w' = .ok vs.toArray w')
    (hold : ∀ w', Ext w w' → (Builtin.firstCells j.size m (.slice ad m cap)).run P w' = .ok old.toArray w') (hfit : ¬ m + n ≤ cap) (hcap : (m + n) * j.bytes ≤ 140737488355328) (hbig : m + n ≤ 9223372036854775807) (hol : old.length = m * j.size)
    (hvl : vs.length = n * j.size) :
    ∃ (w1 : World) (nc : Nat) (c : Array Value), w1.heap = w.heap ∧ w1.os = w.os ∧ w1.tape = w.tape ∧ w1.output = w.output ∧ m + n ≤ nc ∧ c.size = nc * j.size ∧ (∀ i, i < old.length + vs.length → c.getD i undef = (old ++ vs).getD i undef) ∧
      (Builtin.append_ argTypes ty args).run P w = .ok (.slice (some ⟨w.heap.size, 0, none⟩) (m + n) nc) (w1.alloc (.cells c e)) := by
  have hnf : (Question.appendCap (m + n) cap e).forced = false := rfl
  let nc := (Question.appendCap (m + n) cap e).cut (w.tape w.drawn (.appendCap (m + n) cap e))
  have hnc : m + n ≤ nc := by show _ ≤ m + n + _; omega
  let w1 : World := { w with drawn := w.drawn + 1 }
  refine ⟨w1, nc, old.toArray ++ vs.toArray ++ Builtin.zeroCells z.cells (nc - (m + n)), rfl, rfl, rfl, rfl, hnc, ?_, fun i hi => ?_, ?_⟩
  · simp only [Array.size_append, List.size_toArray, zeroCells_size, hzs, hol, hvl]
    rw [← Nat.add_mul, ← Nat.add_mul]
    congr 1; omega
  · simp only [Array.getD_eq_getD_getElem?, List.getD_eq_getElem?_getD]
    rw [Array.getElem?_append_left (by simp; omega)]
    congr 1
    simp
  · have hzz : (match d with | .int k => true | _ => false) = false := by
      cases d <;> first | rfl | exact absurd rfl (hd _)
    have hcap2 : ¬ (Builtin.nextslicecap (m + n) cap * j.bytes > 2 ^ 48) := by
      have := nextslicecap_le (need := m + n) (old := cap) (by omega)
      have h2 : Builtin.nextslicecap (m + n) cap * j.bytes ≤ 2 * (m + n) * j.bytes := Nat.mul_le_mul_right _ this
      rw [Nat.mul_assoc] at h2
      omega
    have hmax : ¬ (((m + n : Nat) : Int) > IntKind.i64.max ∧ (false = true ∨ j.bytes = 0)) := by
      have : IntKind.i64.max = 9223372036854775807 := rfl
      rw [this]; omega
    unfold Builtin.append_
    simp only [ht, hs, hx, hu, Sem.run_bind, run_underlying hut, Result.andThen_ok, run_sizeOf hj]
    rw [run_underlying huu]
    simp only [Result.andThen_ok, Sem.run_pure, Bool.false_eq_true, if_false, Sem.run_bind, hlen, if_neg hfit, run_typeInfo hj]
    simp only [Bool.false_eq_true, false_or] at hmax
    rw [if_neg (by simpa using hmax)]
    have hext : Ext w w1 := fun _ _ => rfl
    simp only [Sem.run_bind, run_typeInfo hj, Result.andThen_ok, if_neg hcap2, run_choose, hnf, Bool.false_eq_true, if_false, run_askRoom]
    rw [show ({ w with drawn := w.drawn + 1 } : World) = w1 from rfl, hold w1 hext]
    simp only [Result.andThen_ok, Bool.not_false, if_true, hcells w1 hext, run_zeroValue hj hz, newRow, Sem.run_bind, run_newObj, Sem.run_pure]
    rfl

theorem setBlk_ext {b : Nat} {o : Obj} : (setBlk w b o).heap.size = w.heap.size := setBlk_size

theorem eff_append (hst : ST base per0 w0 N ι per F H a w) {args argTypes} {dst ty pos after guard} (h : effOp P F H (.call ⟨.builtin .append, args, argTypes⟩) = some (x, F', H')) :
    Does P base per0 w0 N per F' H' a x (execOp a.eval ⟨dst, .call ⟨.builtin .append, args, argTypes⟩, ty, pos, after, guard⟩) w := by
  simp only [effOp] at h
  split at h
  · rename_i t u y z ht hu hy hz
    split at h
    · rename_i esz eb ez _ _ _ ud _ _ _ htt htu
      obtain ⟨et, j, ze, hut, hj, hsz, hby, hze, hez, hzs, hpos⟩ := slice_spec htt
      obtain ⟨iu, du, zu, hiu, hdu, _, _, _, _, _, htd⟩ := ti_spec htu
      have hd : (∀ k, ud ≠ .int k) → ∀ k, du ≠ .int k := by
        intro hne k e
        subst e
        simp only [tdOf, Option.some.injEq] at htd
        exact hne k htd.symm
      have hargs1 : (args.map a.eval)[0]? = some (a.eval y) := by simp [hy]
      have hargs2 : (args.map a.eval)[1]? = some (a.eval z) := by simp [hz]
      have hexec : ∀ r w', (Builtin.append_ argTypes ty (args.map a.eval)).run P w = .ok r w' →
          (execOp a.eval ⟨dst, .call ⟨.builtin .append, args, argTypes⟩, ty, pos, after, guard⟩).run P w = .ok (.value r) w' := by
        intro r w' hr
        simp only [execOp, resolve, invoke, builtin, Sem.run_bind, Sem.run_pure, Result.andThen_ok, hr]
      have hyv := hst.fr.eval y
      have hzv := hst.fr.eval z
      split at h
      · cases h
      · rename_i hnint
        have hd' := hd (fun k e => hnint k e)
        split at h
        · rename_i n xs hsrc ey
          rw [ey] at hyv
          obtain ⟨vs, hvl, hxl, hlen, hfc⟩ := src_sound (P := P) hst hzv hsrc
          have hvsl : vs.length = n * esz := by rw [← hvl.1]; exact hxl
          generalize hyy : a.eval y = yv at hyv hargs1
          cases hyv
          split at h
          · rename_i hn0
            subst hn0
            simp only [Option.some.injEq, Prod.mk.injEq] at h
            obtain ⟨rfl, rfl, rfl⟩ := h
            refine ⟨.slice none 0 0, w, ι, .inl (hexec _ _ ?_), hst, .nils⟩
            exact run_append_fits (m := 0) (cap := 0) (n := 0) (vs := vs) ht hu hargs1 hargs2 hut hj hdu hd' (hlen w) (by have := hfc w 0 (Ext.refl w) (Nat.le_refl _); rw [hsz]; simpa [List.eq_nil_of_length_eq_zero (by simpa using hvsl : vs.length = 0)] using this)
              (Nat.le_refl _) (fun q e => by cases e) (fun _ => rfl)
          · rename_i hn0
            split at h
            · rename_i hcap
              simp only [Option.some.injEq, Prod.mk.injEq] at h
              obtain ⟨rfl, rfl, rfl⟩ := h
              obtain ⟨w1, nc, c, e1, e2, e3, e4, hnc, hcs, hcg, hrun⟩ := run_append_grows (P := P) (w := w) (ty := ty) (m := 0) (cap := 0) (ad := none) (vs := vs) (old := []) ht hu hargs1 hargs2 hut hj hze (by rw [hzs, hsz]) hdu hd' (hlen w)
                (fun w' hw' => by rw [hsz]; have := hfc w' n hw' (Nat.le_refl _); rw [← hvsl, List.take_length] at this; exact this) (fun w' _ => by simp [Builtin.firstCells]) (by omega) (by rw [hby]; simpa using hcap.1) (by omega) (by simp) (by rw [hsz]; exact hvsl)
              have hst1 := hst.same e1 e2 e3 e4
              have hcsz : xs.length ≤ c.size := by rw [hcs, hsz, hxl]; exact Nat.mul_le_mul_right _ (by omega)
              have hal := hst1.alloc (c := c) (e := et) (cs := xs) hcsz (fun i hi => by
                have h1 := hvl.2 i hi
                rw [hcg i (by rw [← hvl.1]; simp; exact hi)]
                exact h1.step (Step.heap e1) (fun _ h => h) (fun _ _ h => h))
              refine ⟨_, _, _, .inl (hexec _ _ hrun), hal, ?_⟩
              have hroom : Room (w1.alloc (.cells c et)) w1.heap.size (0 + 0 + nc * esz) := ⟨c, et, (0, 0), by show (w1.heap.push _)[w1.heap.size]? = _; rw [Array.getElem?_push_size], by rw [hcs, hsz]; omega⟩
              have := VR.sl (w := w1.alloc (.cells c et)) (per := per) (sz := esz) (off := 0) (len := n) (cap := nc) (newPtr hst1) (by omega) hroom
              rw [Nat.zero_add, ← e1]
              exact this
            · cases h
        · rename_i n xs sz hh oo m hsrc ey
          rw [ey] at hyv
          obtain ⟨vs, hvl, hxl, hlen, hfc⟩ := src_sound (P := P) hst hzv hsrc
          have hvsl : vs.length = n * esz := by rw [← hvl.1]; exact hxl
          split at h
          · rename_i cs hrow
            split at h
            · rename_i hb
              simp only [Option.some.injEq, Prod.mk.injEq] at h
              obtain ⟨rfl, rfl, rfl⟩ := h
              obtain ⟨rfl, hle, hcap, hbig, hsol⟩ := hb
              have hH := row_some hrow
              have hlt := lt_row hH
              have hιl : hh < ι.length := by rw [hst.rep.len]; exact hlt
              generalize hyy : a.eval y = yv at hyv hargs1
              have hsrcy : srcCells H sz (.sl sz hh oo m) = some (m, (cs.drop oo).take (m * sz)) := by simp [srcCells, hrow, hle]
              obtain ⟨vo, hvo, hol, hleno, hfo⟩ := src_sound (P := P) hst hyv hsrcy
              have hvol : vo.length = m * sz := by rw [← hvo.1]; exact hol
              have hall := hvo.append hvl
              -- a new array
              have grows : ∀ ad cap, yv = .slice ad m cap → ¬ m + n ≤ cap → Does P base per0 w0 N per (scF hh F) ((scH hh H).set hh (some ((((cs.drop oo).take (m * sz)) ++ xs).map (sc hh)))) a (.sl sz hh 0 (m + n))
                  (execOp a.eval ⟨dst, .call ⟨.builtin .append, args, argTypes⟩, ty, pos, after, guard⟩) w := by
                intro ad cap hyv2 hnf
                subst hyv2
                obtain ⟨w1, nc, c, e1, e2, e3, e4, hnc, hcs, hcg, hrun⟩ := run_append_grows (P := P) (w := w) (ty := ty) (m := m) (cap := cap) (ad := ad) (vs := vs) (old := vo) ht hu hargs1 hargs2 hut hj hze (by rw [hzs, hsz]) hdu hd' (hlen w)
                  (fun w' hw' => by rw [hsz]; have := hfc w' n hw' (Nat.le_refl _); rw [← hvsl, List.take_length] at this; exact this) (fun w' hw' => by rw [hsz]; have := hfo w' m hw' (Nat.le_refl _); rw [← hvol, List.take_length] at this; exact this)
                  hnf (by rw [hby]; exact hcap) (by omega) (by rw [hsz]; exact hvol) (by rw [hsz]; exact hvsl)
                have hst1 := hst.same e1 e2 e3 e4
                have hstep : Step per w (w1.alloc (.cells c et)) := (Step.heap e1).trans (Step.alloc hst1.rep.perlt _)
                have hbel : Below base w (w1.alloc (.cells c et)) := (Below.heap e1 e2 e3 e4).trans ((Below.refl _ _).alloc hst1.bs _)
                have hnew : (w1.alloc (.cells c et)).heap[w.heap.size]? = some (.cells c et (0, 0)) := by
                  rw [← e1]; show (w1.heap.push _)[w1.heap.size]? = _; rw [Array.getElem?_push_size]
                have hcsz : (m + n) * sz ≤ c.size := by rw [hcs, hsz]; exact Nat.mul_le_mul_right _ (by omega)
                have hlen2 : ((((cs.drop oo).take (m * sz)) ++ xs).map (sc hh)).length = (m + n) * sz := by rw [List.length_map, List.length_append, hol, hxl, Nat.add_mul]
                have hself : (ι.set hh (some (w.heap.size, 0)))[hh]? = some (some (w.heap.size, 0)) := by simp [hιl]
                refine ⟨_, _, _, .inl (hexec _ _ hrun), hst.move hlt hstep hbel hst.bs (fun hp => absurd (hst.rep.perlt _ hp) (by omega)) hnew (by rw [hlen2, Nat.zero_add]; exact hcsz) (fun i hi => ?_) (fun k ds p q hk hkH hkι => ?_), ?_⟩
                · have hi2 : i < (((cs.drop oo).take (m * sz)) ++ xs).length := by simpa using hi
                  have h1 := hall.2 i hi2
                  rw [List.getElem_map, Nat.zero_add, hcg i (by rw [← hvo.1, ← hvl.1]; simpa using hi2)]
                  exact (h1.step hstep (fun _ h => h) (fun _ _ h => h)).sc (fun k b hk hb => by rw [List.getElem?_set_ne (fun e => hk e.symm)]; exact hb)
                · obtain ⟨c3, e3, h1, h2, h3, h4, h5⟩ := hst.rep.block hkH hkι
                  have := lt_of_get h3
                  refine ⟨by omega, ?_⟩
                  rw [Below.heap_alloc _ _ _ (by rw [e1]; exact this), e1]
                · have hroom : Room (w1.alloc (.cells c et)) w.heap.size (0 + 0 + nc * sz) := ⟨c, et, (0, 0), hnew, by rw [hcs, hsz]; omega⟩
                  exact VR.sl (per := per) (sz := sz) (off := 0) hself hnc hroom
              rcases hyv.sl_inv with ⟨b, o, cap, hib, hml, hr, hyv2⟩ | ⟨hm0, aa, hyv2⟩
              · by_cases hfit : m + n ≤ cap
                · obtain ⟨c, e2, h1, h2, h3, h4, h5⟩ := hst.rep.block hH hib
                  obtain ⟨c3, e3, fz3, hr1, hr2⟩ := hr
                  rw [h3] at hr1
                  simp only [Option.some.injEq, Obj.cells.injEq] at hr1
                  obtain ⟨rfl, rfl, _⟩ := hr1
                  have hmn : m * sz + n * sz ≤ cap * sz := by rw [← Nat.add_mul]; exact Nat.mul_le_mul_right _ hfit
                  have hone : ∀ v ∈ vs, v.oneCell' = true := by
                    intro v hv
                    obtain ⟨k, hk, rfl⟩ := List.getElem_of_mem hv
                    have hk2 : k < xs.length := by rw [hvl.1]; exact hk
                    have h6 := hvl.2 k hk2
                    rw [List.getD_eq_getElem?_getD, List.getElem?_eq_getElem hk] at h6
                    exact h6.one (List.all_eq_true.1 hsol _ (List.getElem_mem hk2))
                  obtain ⟨c', hrun, hcs, hcg⟩ := run_storeCells (P := P) (b := b) (o := o + oo + m * sz) (e := e2) vs 0 w c h3 (by rw [hvsl]; omega) hone
                  subst hyv2
                  have hrun2 := run_append_fits (P := P) (w := w) (ty := ty) (w' := setBlk w b (.cells c' e2 (0, 0))) ht hu hargs1 hargs2 hut hj hdu hd' (hlen w)
                    (by rw [hsz]; have := hfc w n (Ext.refl w) (Nat.le_refl _); rw [← hvsl, List.take_length] at this; exact this) hfit (fun q hq => by cases hq; rw [hsz, add_plain]; exact hrun) (fun e => by cases e)
                  have hstep := Step.blk (per := per) h3 h2 hcs
                  have hblt := lt_of_get h3
                  have hbel : Below base w (setBlk w b (.cells c' e2 (0, 0))) := ⟨rfl, rfl, rfl, by rw [setBlk_size]; exact Nat.le_refl _, fun k hk => by rw [setBlk_get, if_neg (by omega)]⟩
                  have hlen2 : ((((cs.drop oo).take (m * sz)) ++ xs).map (sc hh)).length = (m + n) * sz := by rw [List.length_map, List.length_append, hol, hxl, Nat.add_mul]
                  have hself : (ι.set hh (some (b, o + oo)))[hh]? = some (some (b, o + oo)) := by simp [hιl]
                  have hnew : (setBlk w b (.cells c' e2 (0, 0))).heap[b]? = some (.cells c' e2 (0, 0)) := by rw [setBlk_get]; simp [hblt]
                  have hfin : o + oo + (m + n) * sz ≤ c'.size := by rw [hcs, Nat.add_mul]; omega
                  refine ⟨_, _, _, .inl (hexec _ _ hrun2), hst.move hlt hstep hbel (by omega) h2 hnew (by rw [hlen2]; exact hfin) (fun i hi => ?_) (fun k ds p q hk hkH hkι => ?_), ?_⟩
                  · have hi2 : i < (((cs.drop oo).take (m * sz)) ++ xs).length := by simpa using hi
                    have hsc : ∀ {z : LV} {v : Value}, VR w per ι z v → VR (setBlk w b (.cells c' e2 (0, 0))) per (ι.set hh (some (b, o + oo))) (sc hh z) v := fun hz =>
                      (hz.step hstep (fun _ h => h) (fun _ _ h => h)).sc (fun k b hk hb => by rw [List.getElem?_set_ne (fun e => hk e.symm)]; exact hb)
                    rw [List.getElem_map, hcg (o + oo + i)]
                    by_cases him : i < m * sz
                    · rw [if_neg (by omega), List.getElem_append_left (by rw [hol]; exact him), List.getElem_take, List.getElem_drop]
                      have := h5 (oo + i) (by omega)
                      rw [← Nat.add_assoc] at this
                      exact hsc this
                    · have hix : i - m * sz < xs.length := by rw [List.length_append, hol] at hi2; omega
                      rw [if_pos (by rw [← hvl.1]; omega), List.getElem_append_right (by rw [hol]; omega)]
                      have h6 := hvl.2 (i - m * sz) hix
                      have e5 : o + oo + i - (o + oo + m * sz + 0) = i - m * sz := by omega
                      rw [e5]
                      simp only [hol]
                      exact hsc h6
                  · refine ⟨fun e => hk (hst.rep.inj k hh ds cs p q b o hkH hH hkι hib e), ?_⟩
                    rw [setBlk_get, if_neg]
                    intro e
                    exact hk (hst.rep.inj k hh ds cs p q b o hkH hH hkι hib e.symm)
                  · have hroom : Room (setBlk w b (.cells c' e2 (0, 0))) b (o + oo + 0 + cap * sz) := ⟨c', e2, (0, 0), hnew, by rw [hcs]; omega⟩
                    exact VR.sl (per := per) (sz := sz) (off := 0) hself hfit hroom
                · exact grows _ _ hyv2 hfit
              · subst hm0
                by_cases hn0 : n = 0
                · subst hn0
                  have hx0 : xs = [] := List.eq_nil_of_length_eq_zero (by simpa using hxl)
                  have hv0 : vs = [] := List.eq_nil_of_length_eq_zero (by simpa using hvsl)
                  subst hx0 hv0 hyv2
                  have hrun2 := run_append_fits (P := P) (w := w) (ty := ty) (w' := w) (vs := []) ht hu hargs1 hargs2 hut hj hdu hd' (hlen w)
                    (by have := hfc w 0 (Ext.refl w) (Nat.le_refl _); rw [hsz]; simpa using this) (Nat.le_refl _) (fun q hq => by simp [storeCells]) (fun _ => rfl)
                  refine ⟨_, _, ι.set hh none, .inl (hexec _ _ hrun2), ?_, .slz⟩
                  have := hst.empty hlt
                  simpa using this
                · exact grows _ _ hyv2 (by omega)
            · cases h
          · cases h
        · cases h
    · cases h
  · cases h

theorem putCells_length {cs ds : List LV} {o : Nat} (h : o + ds.length ≤ cs.length) : (putCells cs o ds).length = cs.length := by
  simp [putCells]; omega

theorem putCells_get {cs ds : List LV} {o : Nat} (h : o + ds.length ≤ cs.length) (i : Nat) : (putCells cs o ds)[i]? = if o ≤ i ∧ i < o + ds.length then ds[i - o]? else cs[i]? := by
  unfold putCells
  by_cases h1 : i < o
  · rw [if_neg (by omega), List.append_assoc, List.getElem?_append_left (by simp; omega), List.getElem?_take, if_pos h1]
  · by_cases h2 : i < o + ds.length
    · rw [if_pos (by omega), List.getElem?_append_left (by simp; omega), List.getElem?_append_right (by simp; omega)]
      congr 1
      simp; omega
    · rw [if_neg (by omega), List.getElem?_append_right (by simp; omega), List.getElem?_drop]
      congr 1
      simp; omega

theorem eff_copy (hst : ST base per0 w0 N ι per F H a w) {args argTypes} {dst ty pos after guard} (h : effOp P F H (.call ⟨.builtin .copy, args, argTypes⟩) = some (x, F', H')) :
    Does P base per0 w0 N per F' H' a x (execOp a.eval ⟨dst, .call ⟨.builtin .copy, args, argTypes⟩, ty, pos, after, guard⟩) w := by
  simp only [effOp] at h
  split at h
  · rename_i t y z ht hy hz
    split at h
    · rename_i esz eb ez _ _ _ htt
      obtain ⟨et, j, ze, hut, hj, hsz, hby, hze, hez, hzs, hpos⟩ := slice_spec htt
      have hargs1 : (args.map a.eval)[0]? = some (a.eval y) := by simp [hy]
      have hargs2 : (args.map a.eval)[1]? = some (a.eval z) := by simp [hz]
      have hyv := hst.fr.eval y
      have hzv := hst.fr.eval z
      split at h
      · rename_i sz hh oo m n xs ey hsrc
        rw [ey] at hyv
        split at h
        · rename_i cs hrow
          split at h
          · rename_i hb
            simp only [Option.some.injEq, Prod.mk.injEq] at h
            obtain ⟨rfl, rfl, rfl⟩ := h
            obtain ⟨rfl, hle, hsol⟩ := hb
            obtain ⟨vs, hvl, hxl, hlen, hfc⟩ := src_sound (P := P) hst hzv hsrc
            have hvsl : vs.length = n * sz := by rw [← hvl.1]; exact hxl
            have hH := row_some hrow
            have hkn : Nat.min n m ≤ n := Nat.min_le_left n m
            have hkm : Nat.min n m ≤ m := Nat.min_le_right n m
            have hkn2 : Nat.min n m * sz ≤ n * sz := Nat.mul_le_mul_right _ hkn
            have hkm2 : Nat.min n m * sz ≤ m * sz := Nat.mul_le_mul_right _ hkm
            have hxtl : (xs.take (Nat.min n m * sz)).length = Nat.min n m * sz := by simp; omega
            have hvtl : (vs.take (Nat.min n m * sz)).length = Nat.min n m * sz := by simp; omega
            generalize hyy : a.eval y = yv at hyv hargs1
            have hfirst := hfc w (Nat.min n m) (Ext.refl w) hkn
            have hbound : oo + (xs.take (Nat.min n m * sz)).length ≤ cs.length := by rw [hxtl]; omega
            rcases hyv.sl_inv with ⟨b, o, cap, hib, hml, hr, hyv2⟩ | ⟨hm0, aa, hyv2⟩
            · obtain ⟨c, e2, h1, h2, h3, h4, h5⟩ := hst.rep.block hH hib
              have hone : ∀ v ∈ vs.take (Nat.min n m * sz), v.oneCell' = true := by
                intro v hv
                obtain ⟨k, hk, rfl⟩ := List.getElem_of_mem (List.mem_of_mem_take hv)
                have hk2 : k < xs.length := by rw [hvl.1]; exact hk
                have h6 := hvl.2 k hk2
                rw [List.getD_eq_getElem?_getD, List.getElem?_eq_getElem hk] at h6
                exact h6.one (List.all_eq_true.1 hsol _ (List.getElem_mem hk2))
              obtain ⟨c', hrun, hcs, hcg⟩ := run_storeCells (P := P) (b := b) (o := o + oo) (e := e2) (vs.take (Nat.min n m * sz)) 0 w c h3 (by rw [hvtl]; omega) hone
              have hrow2 := hst.row (cs' := putCells cs oo (xs.take (Nat.min n m * sz))) hH hib h3 h1 h2 hcs (by rw [putCells_length hbound]; exact h4) (fun k hk => by
                have hk2 : k < cs.length := by rw [putCells_length hbound] at hk; exact hk
                have hg := putCells_get hbound k
                rw [List.getElem?_eq_getElem hk] at hg
                rw [hcg (o + k), hvtl]
                rw [hxtl] at hg
                by_cases hin : oo ≤ k ∧ k < oo + Nat.min n m * sz
                · rw [if_pos hin] at hg
                  rw [if_pos (by omega)]
                  have hk3 : k - oo < (xs.take (Nat.min n m * sz)).length := by rw [hxtl]; omega
                  rw [List.getElem?_eq_getElem hk3] at hg
                  rw [Option.some.inj hg]
                  have := (hvl.take (Nat.min n m * sz)).2 (k - oo) hk3
                  have e1 : o + k - (o + oo + 0) = k - oo := by omega
                  rw [e1]; exact this
                · rw [if_neg hin, List.getElem?_eq_getElem hk2] at hg
                  rw [if_neg (by omega)]
                  rw [Option.some.inj hg]
                  exact h5 k hk2)
              subst hyv2
              refine ⟨.int .i64 (Nat.min n m), _, ι, .inl ?_, hrow2, .int _ _⟩
              simp only [execOp, resolve, invoke, builtin, Builtin.copy_, ht, hargs1, hargs2, Sem.run_bind, Sem.run_pure, Result.andThen_ok, run_underlying hut, hlen w, run_sizeOf hj, hsz, hfirst, hrun, goInt]
            · subst hm0 hyv2
              have hmin : Nat.min n 0 = 0 := Nat.min_eq_right (Nat.zero_le _)
              rw [hmin] at hfirst
              simp only [Nat.zero_mul, List.take_zero] at hfirst
              have hput : putCells cs oo (xs.take (Nat.min n 0 * sz)) = cs := by simp [putCells, hmin]
              have hHH : H.set hh (some (putCells cs oo (xs.take (Nat.min n 0 * sz)))) = H := by
                rw [hput]
                apply List.ext_getElem?
                intro k
                rw [List.getElem?_set]
                split
                · rename_i e; subst e; rw [if_pos (lt_row hH)]; exact hH.symm
                · rfl
              rw [hHH]
              refine ⟨.int .i64 (Nat.min n 0), w, ι, .inl ?_, hst, .int _ _⟩
              cases aa <;> simp [execOp, resolve, invoke, builtin, Builtin.copy_, ht, hargs1, hargs2, run_underlying hut, hlen w, run_sizeOf hj, hsz, hfirst, hmin, goInt, storeCells]
          · cases h
        · cases h
      · cases h
    · cases h
  · cases h

theorem eff_sound (hst : ST base per0 w0 N ι per F H a w) {o : Oper} (h : effOp P F H o.op = some (x, F', H')) : Does P base per0 w0 N per F' H' a x (execOp a.eval o) w := by
  obtain ⟨dst, op, ty, pos, after, guard⟩ := o
  cases op with
  | alloc t => exact eff_alloc hst h
  | box t y => exact eff_box hst h
  | buildSlice t len parts => exact eff_buildSlice hst h
  | store t y z => exact eff_store hst h
  | makeSlice t l c => exact eff_makeSlice hst h
  | call c =>
    obtain ⟨callee, args, argTypes⟩ := c
    cases callee with
    | builtin b =>
      cases b with
      | append => exact eff_append hst h
      | copy => exact eff_copy hst h
      | _ => cases h
    | _ => cases h
  | _ => cases h

end
end Go.Lite

/- Lite, part J: contracts of functions, calls, regions. -/
namespace Go.Lite
open Go Go.RowKit

/-- The function can be entered. -/
def callable (P : Program) (f : Nat) : Bool :=
  match P.funcs[f]? with
  | some fn => !(fn.name == "runtime.NumGoroutine") && !fn.body.isNone
  | none => false

/-- What a call hands back, and the rows that it has made. -/
def LEnd (R : LV → Hp → Prop) (per : Nat → Prop) (w : World) (e : Ending) (w' : World) : Prop :=
  ∃ v res H' ι' per', e = .returned v ∧ R res H' ∧ Below w.heap.size w w' ∧ Rep w.heap.size w' ι' per' H' ∧ VR w' per' ι' res v ∧
    (∀ b, per' b → per b ∨ w.heap.size ≤ b) ∧ (∀ b, per b → per' b)

/-- A function's contract: arguments that hold no row of the caller's own. -/
def LCalls (P : Program) (f : Nat) (args : List LV) (R : LV → Hp → Prop) : Prop :=
  callable P f = true ∧ ∀ (per : Nat → Prop) (w : World) (vs : List Value), VL w [] per args vs → (∀ b, per b → b < w.heap.size) →
    Calls P f vs.toArray w (LEnd R per w)

theorem LCalls.mono {P : Program} {f : Nat} {args : List LV} {R R' : LV → Hp → Prop} (h : LCalls P f args R) (hr : ∀ x H, R x H → R' x H) : LCalls P f args R' :=
  ⟨h.1, fun per w vs h1 h2 => (h.2 per w vs h1 h2).mono fun e w' ⟨v, res, H', ι', per', g1, g2, g3⟩ => ⟨v, res, H', ι', per', g1, hr _ _ g2, g3⟩⟩

def frameOf : Nat → List LV → Fr
  | _, [] => []
  | k, x :: r => (k, x) :: frameOf (k + 1) r

theorem fget_frameOf (l : List LV) : ∀ (k t : Nat), fget (frameOf k l) t = if k ≤ t then (l[t - k]?).getD .dead else .dead := by
  induction l with
  | nil => intro k t; simp [frameOf, fget]
  | cons x r ih =>
    intro k t
    simp only [frameOf, fget_cons]
    by_cases h : k = t
    · subst h; simp
    · rw [if_neg h, ih]
      by_cases h2 : k + 1 ≤ t
      · rw [if_pos h2, if_pos (by omega)]
        have : t - k = (t - (k + 1)) + 1 := by omega
        rw [this, List.getElem?_cons_succ]
      · rw [if_neg h2, if_neg (by omega)]

def lresL (P : Program) (F : Fr) (H : Hp) : List ResultVar → Option (List LV)
  | [] => some []
  | .tmp t :: r => (lresL P F H r).map (fget F t :: ·)
  | .cell a t :: r => match tiOf P t, fget F a with
    | some ti, .ptr h o => (match row H h with
      | some cs => (match lpart ti.agg ti.size cs o, lresL P F H r with | some x, some l => some (x :: l) | _, _ => none)
      | none => none)
    | _, _ => none

def lres (P : Program) (fn : Func) (F : Fr) (H : Hp) : Option LV :=
  match lresL P F H fn.results.toList with
  | some [x] => some x
  | some l => some (.tup l)
  | none => none

def retQ (P : Program) (fn : Func) (R : LV → Hp → Prop) : LPost
  | .normal, F, H | .ret, F, H => ∃ x, lres P fn F H = some x ∧ R x H
  | _, _, _ => False

section
variable {P : Program} {base : Nat} {per0 : Nat → Prop} {w0 : World} {N : Nat} {ι : Pl} {per : Nat → Prop} {F F' : Fr} {H H' : Hp} {a : Act} {w : World} {x : LV}

theorem loadVar_sound (hst : ST base per0 w0 N ι per F H a w) {t : TypeId} {ti : TI} {h o : Nat} {cs : List LV} {v : Value} (hti : tiOf P t = some ti) (hv : VR w per ι (.ptr h o) v) (hrow : row H h = some cs)
    (hp : lpart ti.agg ti.size cs o = some x) : ∃ u, (do loadVar t (← asAddr v) : Sem Value).run P w = .ok u w ∧ VR w per ι x u := by
  have hst2 : ST base per0 w0 (a.tmps.size + 1) ι per (fset F a.tmps.size (.ptr h o)) H ⟨a.tmps.push v, a.defers⟩ w := by
    refine ⟨hst.rep, hst.p1, hst.p2, fun t => ?_, by simp, hst.defers, hst.below, hst.bs⟩
    rw [fget_fset]
    by_cases ht : a.tmps.size = t
    · subst ht; simp; exact hv
    · rw [if_neg ht]
      have := hst.fr t
      have e : (a.tmps.push v).getD t undef = a.tmps.getD t undef := by
        simp only [Array.getD_eq_getD_getElem?, Array.getElem?_push]
        rw [if_neg (fun e => ht e.symm)]
      simp only [e]; exact this
  obtain ⟨u, hu, hr⟩ := load_sound (P := P) (x := x) hst2 (o := ⟨none, .load t (.tmp a.tmps.size), 0, "", #[], none⟩) (by simp [loadOp, hti, evalO, fget_fset, hrow, hp])
  refine ⟨u, ?_, hr⟩
  have h1 := hu w (Ext.refl w)
  obtain ⟨b, oo, _, rfl⟩ := hv.ptr_inv
  simp only [execOp, Act.eval, Instr.loadAt, Sem.run_bind, Sem.run_pure] at h1
  simp only [Array.getD_eq_getD_getElem?, Array.getElem?_push_size, Option.getD_some, Instr.sureAddr, Sem.run_pure, Result.andThen_ok] at h1
  simp only [Sem.run_bind, asAddr, Sem.run_pure, Result.andThen_ok]
  cases hr2 : (loadVar t ⟨b, oo + o, none⟩).run P w with
  | ok y w1 => rw [hr2] at h1; simp only [Result.andThen_ok, Result.ok.injEq, Next.value.injEq] at h1; obtain ⟨rfl, rfl⟩ := h1; rfl
  | halt y w1 => rw [hr2] at h1; simp only [Result.andThen_halt, reduceCtorEq] at h1

theorem lresL_sound (hst : ST base per0 w0 N ι per F H a w) (l : List ResultVar) : ∀ (xs : List LV) (acc : Array Value), lresL P F H l = some xs →
    ∃ us : List Value, (l.foldlM (fun (bs : Array Value) (r : ResultVar) => bs.push <$> (match r with | .tmp t => pure (a.tmps.getD t undef) | .cell c t => do loadVar t (← asAddr (a.tmps.getD c undef)) : Sem Value)) acc).run P w = .ok (acc ++ us.toArray) w ∧ VL w ι per xs us := by
  induction l with
  | nil => intro xs acc h; obtain rfl := Option.some.inj h; exact ⟨[], by simp, .nil⟩
  | cons r l ih =>
    intro xs acc h
    cases r with
    | tmp t =>
      simp only [lresL, Option.map_eq_some_iff] at h
      obtain ⟨ys, hys, rfl⟩ := h
      obtain ⟨us, hus, hl⟩ := ih ys (acc.push (a.tmps.getD t undef)) hys
      refine ⟨a.tmps.getD t undef :: us, ?_, (VL.one (hst.fr t)).append hl⟩
      simp only [List.foldlM_cons, Sem.run_bind, Sem.run_map, Sem.run_pure, Result.andThen_ok, hus]
      simp
    | cell c t =>
      simp only [lresL] at h
      split at h
      · rename_i ti hh oo hti e
        split at h
        · rename_i cs hrow
          split at h
          · rename_i y ys hy hys
            obtain rfl := Option.some.inj h
            have hv := hst.fr c
            rw [e] at hv
            obtain ⟨u, hu, hr⟩ := loadVar_sound (P := P) hst hti hv hrow hy
            obtain ⟨us, hus, hl⟩ := ih ys (acc.push u) hys
            refine ⟨u :: us, ?_, (VL.one hr).append hl⟩
            simp only [List.foldlM_cons, Sem.run_bind, Sem.run_map] at hu ⊢
            rw [hu]
            simp only [Result.andThen_ok, hus]
            simp
          · cases h
        · cases h
      · cases h

theorem lres_sound (hst : ST base per0 w0 N ι per F H a w) {fn : Func} (h : lres P fn F H = some x) : ∃ u, (results fn a.tmps).run P w = .ok u w ∧ VR w per ι x u := by
  unfold lres at h
  have key : ∀ xs, lresL P F H fn.results.toList = some xs → ∃ us : List Value, (fn.results.mapM fun | .tmp t => pure (a.tmps.getD t undef) | .cell c t => do loadVar t (← asAddr (a.tmps.getD c undef)) : Sem (Array Value)).run P w = .ok us.toArray w ∧ VL w ι per xs us := by
    intro xs hxs
    obtain ⟨us, hus, hl⟩ := lresL_sound (P := P) hst fn.results.toList xs #[] hxs
    refine ⟨us, ?_, hl⟩
    rw [Array.mapM_eq_foldlM, ← Array.foldlM_toList]
    simpa using hus
  split at h
  · rename_i y hy
    obtain rfl := Option.some.inj h
    obtain ⟨us, hus, hl⟩ := key _ hy
    have h1 : us.length = 1 := by have := hl.1; simpa using this.symm
    obtain ⟨u, rfl⟩ := List.length_eq_one_iff.1 h1
    refine ⟨u, ?_, ?_⟩
    · simp only [results, Sem.run_bind]
      erw [hus]
      simp
    · have := hl.2 0 (by simp)
      simpa using this
  · rename_i l hn hl
    obtain rfl := Option.some.inj h
    obtain ⟨us, hus, hvl⟩ := key _ hl
    refine ⟨.tuple us.toArray, ?_, .tup hvl.1 hvl.2⟩
    have hne : ¬ us.length = 1 := by
      intro h1
      rw [← hvl.1] at h1
      obtain ⟨y, rfl⟩ := List.length_eq_one_iff.1 h1
      exact hn y rfl
    simp only [results, Sem.run_bind]
    erw [hus]
    simp [hne]
  · cases h

end

/-- A contract out of a walk of the body. -/
theorem lcalls_of_lwp {P : Program} {f : Nat} {fn : Func} {c : Code} {args : List LV} {R : LV → Hp → Prop} (hf : P.funcs[f]? = some fn) (hb : fn.body = some c) (hc : callable P f = true)
    (h : Lwp P (args.length + (fn.ntmps - args.length)) c (retQ P fn R) (frameOf 0 args) []) : LCalls P f args R := by
  refine ⟨hc, fun per w vs hvl hper => ?_⟩
  refine calls_of_wp hf hb ?_
  have hs : SR w.heap.size per w (args.length + (fn.ntmps - args.length)) (frameOf 0 args) [] { tmps := vs.toArray ++ Array.replicate (fn.ntmps - vs.toArray.size) undef, defers := [] } w := by
    refine ⟨[], per, Rep.nil _ _ _ hper, fun b hb => .inl hb, fun b hb => hb, fun t => ?_, by simp [hvl.1], rfl, Below.refl _ _, Nat.le_refl _⟩
    rw [fget_frameOf]
    simp only [Nat.zero_le, if_true, Nat.sub_zero]
    cases ht : args[t]? with
    | none => exact .dead _
    | some x =>
      obtain ⟨v, hv, hr⟩ := hvl.get ht
      have hlt : t < vs.length := by
        rcases Nat.lt_or_ge t vs.length with h' | h'
        · exact h'
        · simp [List.getElem?_eq_none h'] at hv
      have e : (vs.toArray ++ Array.replicate (fn.ntmps - vs.toArray.size) undef).getD t undef = v := by
        simp only [Array.getD_eq_getD_getElem?]
        rw [Array.getElem?_append_left (by simpa using hlt)]
        simp [hv]
      simp only [Option.getD_some]
      show VR w per [] x ((vs.toArray ++ Array.replicate (fn.ntmps - vs.toArray.size) undef).getD t undef)
      rw [e]
      exact hr
  refine wp_mono (h w.heap.size per w _ w hs) fun e a' w' ⟨F', H', q, s⟩ => ?_
  obtain ⟨ι', per', hst⟩ := s.st
  have fin : (∃ x, lres P fn F' H' = some x ∧ R x H') → a'.defers = [] ∧ ∃ v, (results fn a'.tmps).run P w' = .ok v w' ∧ LEnd R per w (.returned v) w' := by
    intro ⟨x, hx, hR⟩
    obtain ⟨u, hu, hr⟩ := lres_sound (P := P) hst hx
    exact ⟨hst.defers, u, hu, u, x, H', ι', per', rfl, hR, hst.below, hst.rep, hr, hst.p1, hst.p2⟩
  cases e with
  | normal => exact fin q
  | ret => exact fin q
  | _ => exact q.elim

end Go.Lite

/- Lite, part K: calls out of a frame, and regions. -/
namespace Go.Lite
open Go Go.RowKit

mutual
/-- It speaks of no row of the call's own. -/
def hfree : LV → Bool
  | .ptr _ _ => false
  | .sl _ _ _ _ => false
  | .fn _ cs => hfreeL cs
  | .agg cs => hfreeL cs
  | .tup cs => hfreeL cs
  | _ => true
def hfreeL : List LV → Bool
  | [] => true
  | c :: r => hfree c && hfreeL r
end

mutual
/-- It holds nothing that lies outside the rows. -/
def psfree : LV → Bool
  | .ps _ _ _ => false
  | .pp _ => false
  | .fn _ cs => psfreeL cs
  | .agg cs => psfreeL cs
  | .tup cs => psfreeL cs
  | _ => true
def psfreeL : List LV → Bool
  | [] => true
  | c :: r => psfree c && psfreeL r
end

def psfreeH : Hp → Bool
  | [] => true
  | none :: r => psfreeH r
  | some cs :: r => psfreeL cs && psfreeH r

mutual
/-- Handles moved up by n. -/
def sh (n : Nat) : LV → LV
  | .ptr h o => .ptr (n + h) o
  | .sl sz h o m => .sl sz (n + h) o m
  | .fn f cs => .fn f (shL n cs)
  | .agg cs => .agg (shL n cs)
  | .tup cs => .tup (shL n cs)
  | .dead => .dead
  | .und => .und
  | .bool b => .bool b
  | .int k m => .int k m
  | .str s => .str s
  | .nilp => .nilp
  | .pp cs => .pp cs
  | .nils => .nils
  | .ps sz m cs => .ps sz m cs
  | .nilf => .nilf
def shL (n : Nat) : List LV → List LV
  | [] => []
  | c :: r => sh n c :: shL n r
end

def shH (n : Nat) : Hp → Hp
  | [] => []
  | none :: r => none :: shH n r
  | some cs :: r => some (shL n cs) :: shH n r

def snL (f : LV → LV) (l : List LV) : List LV := if hfreeL l then l else l.map f

/-- What a callee that only reads is shown: rows as plain values. -/
def snap (H : Hp) : Nat → LV → LV
  | 0, x => if hfree x then x else .dead
  | k + 1, x => match x with
    | .sl sz h o m => (match row H h with | some cs => if o + m * sz ≤ cs.length then .ps sz m (snL (snap H k) ((cs.drop o).take (m * sz))) else .dead | none => .dead)
    | .agg cs => .agg (snL (snap H k) cs)
    | .fn f cs => .fn f (snL (snap H k) cs)
    | .ptr _ _ => .dead
    | .tup _ => .dead
    | x => x

theorem hfreeL_get {cs : List LV} (h : hfreeL cs = true) : ∀ i (hi : i < cs.length), hfree cs[i] = true := by
  induction cs with
  | nil => intro i hi; simp at hi
  | cons c r ih =>
    simp only [hfreeL, Bool.and_eq_true] at h
    intro i hi
    cases i with
    | zero => exact h.1
    | succ i => exact ih h.2 i (by simpa using hi)

theorem psfreeL_get {cs : List LV} (h : psfreeL cs = true) : ∀ i (hi : i < cs.length), psfree cs[i] = true := by
  induction cs with
  | nil => intro i hi; simp at hi
  | cons c r ih =>
    simp only [psfreeL, Bool.and_eq_true] at h
    intro i hi
    cases i with
    | zero => exact h.1
    | succ i => exact ih h.2 i (by simpa using hi)

theorem shL_eq (n : Nat) (cs : List LV) : shL n cs = cs.map (sh n) := by
  induction cs with
  | nil => rfl
  | cons c r ih => simp [shL, ih]

theorem shH_get (n : Nat) (H : Hp) (k : Nat) : (shH n H)[k]? = (H[k]?).map fun r => r.map fun cs => cs.map (sh n) := by
  induction H generalizing k with
  | nil => simp [shH]
  | cons p r ih =>
    cases p with
    | none => cases k <;> simp [shH, ih]
    | some cs => cases k <;> simp [shH, ih, shL_eq]

theorem shH_length (n : Nat) (H : Hp) : (shH n H).length = H.length := by
  induction H with
  | nil => rfl
  | cons p r ih => cases p <;> simp [shH, ih]

theorem psfreeH_get {H : Hp} (h : psfreeH H = true) {k : Nat} {cs : List LV} (hk : H[k]? = some (some cs)) : psfreeL cs = true := by
  induction H generalizing k with
  | nil => simp at hk
  | cons p r ih =>
    cases p with
    | none =>
      cases k with
      | zero => simp at hk
      | succ k => exact ih (by simpa [psfreeH] using h) (by simpa using hk)
    | some ds =>
      simp only [psfreeH, Bool.and_eq_true] at h
      cases k with
      | zero => simp at hk; subst hk; exact h.1
      | succ k => exact ih h.2 (by simpa using hk)

section
variable {w : World} {ι ι' : Pl} {per per' : Nat → Prop}

theorem VR.hfree {x : LV} {v : Value} (hv : VR w per ι x v) : hfree x = true → VR w per ι' x v := by
  induction hv with
  | dead v => intro _; exact .dead v
  | und => intro _; exact .und
  | bool b => intro _; exact .bool b
  | int k n => intro _; exact .int k n
  | str s => intro _; exact .str s
  | nilp => intro _; exact .nilp
  | ptr hi => intro h; simp [Lite.hfree] at h
  | pp vs h1 h2 h3 _ => intro _; exact .pp vs h1 h2 h3
  | nils => intro _; exact .nils
  | sl h1 h2 h3 => intro h; simp [Lite.hfree] at h
  | slz => intro h; simp [Lite.hfree] at h
  | psz => intro _; exact .psz
  | ps vs h1 h2 h3 h4 h5 _ => intro _; exact .ps vs h1 h2 h3 h4 h5
  | nilf => intro _; exact .nilf
  | fn hn hv ih => intro h; exact .fn hn fun i hi => ih i hi (hfreeL_get (by simpa [Lite.hfree] using h) i hi)
  | agg hn hv ih => intro h; exact .agg hn fun i hi => ih i hi (hfreeL_get (by simpa [Lite.hfree] using h) i hi)
  | tup hn hv ih => intro h; exact .tup hn fun i hi => ih i hi (hfreeL_get (by simpa [Lite.hfree] using h) i hi)

theorem VR.psfree {x : LV} {v : Value} (hv : VR w per ι x v) : psfree x = true → VR w per' ι x v := by
  induction hv with
  | dead v => intro _; exact .dead v
  | und => intro _; exact .und
  | bool b => intro _; exact .bool b
  | int k n => intro _; exact .int k n
  | str s => intro _; exact .str s
  | nilp => intro _; exact .nilp
  | ptr hi => intro h; exact .ptr hi
  | pp vs h1 h2 h3 _ => intro h; simp [Lite.psfree] at h
  | nils => intro _; exact .nils
  | sl h1 h2 h3 => intro h; exact .sl h1 h2 h3
  | slz => intro h; exact .slz
  | psz => intro _; exact .psz
  | ps vs h1 h2 h3 h4 h5 _ => intro h; simp [Lite.psfree] at h
  | nilf => intro _; exact .nilf
  | fn hn hv ih => intro h; exact .fn hn fun i hi => ih i hi (psfreeL_get (by simpa [Lite.psfree] using h) i hi)
  | agg hn hv ih => intro h; exact .agg hn fun i hi => ih i hi (psfreeL_get (by simpa [Lite.psfree] using h) i hi)
  | tup hn hv ih => intro h; exact .tup hn fun i hi => ih i hi (psfreeL_get (by simpa [Lite.psfree] using h) i hi)

theorem VR.sh {n : Nat} {x : LV} {v : Value} (hv : VR w per ι x v) : (∀ (h : Nat) (b : Nat × Nat), ι[h]? = some (some b) → ι'[n + h]? = some (some b)) → VR w per ι' (sh n x) v := by
  induction hv with
  | dead v => intro _; exact .dead v
  | und => intro _; exact .und
  | bool b => intro _; exact .bool b
  | int k n => intro _; exact .int k n
  | str s => intro _; exact .str s
  | nilp => intro _; exact .nilp
  | ptr hi => intro h; exact .ptr (h _ _ hi)
  | pp vs h1 h2 h3 _ => intro _; exact .pp vs h1 h2 h3
  | nils => intro _; exact .nils
  | sl h1 h2 h3 => intro h; exact .sl (h _ _ h1) h2 h3
  | slz => intro h; exact .slz
  | psz => intro _; exact .psz
  | ps vs h1 h2 h3 h4 h5 _ => intro _; exact .ps vs h1 h2 h3 h4 h5
  | nilf => intro _; exact .nilf
  | fn hn hv ih => intro h; simp only [Lite.sh, shL_eq]; exact .fn (by simpa using hn) fun i hi => by rw [List.getElem_map]; exact ih i (by simpa using hi) h
  | agg hn hv ih => intro h; simp only [Lite.sh, shL_eq]; exact .agg (by simpa using hn) fun i hi => by rw [List.getElem_map]; exact ih i (by simpa using hi) h
  | tup hn hv ih => intro h; simp only [Lite.sh, shL_eq]; exact .tup (by simpa using hn) fun i hi => by rw [List.getElem_map]; exact ih i (by simpa using hi) h

end

section
variable {P : Program} {base : Nat} {per0 : Nat → Prop} {w0 : World} {N : Nat} {ι : Pl} {per : Nat → Prop} {F F' : Fr} {H H' : Hp} {a : Act} {w : World} {x : LV}

/-- Every block that is there is there to be read. -/
def allOf (w : World) : Nat → Prop := fun b => b < w.heap.size

theorem snap_sound (hst : ST base per0 w0 N ι per F H a w) : ∀ (k : Nat) (x : LV) (v : Value), VR w per ι x v → VR w (allOf w) [] (snap H k x) v := by
  have widen : ∀ {x : LV} {v : Value}, VR w per ι x v → hfree x = true → VR w (allOf w) [] x v := fun hv hf => (hv.step (Step.refl _ _) (fun b hb => hst.rep.perlt b hb) (ι' := ι) (fun _ _ h => h)).hfree hf
  intro k
  induction k with
  | zero =>
    intro x v hv
    simp only [snap]
    split
    · rename_i hf; exact widen hv hf
    · exact .dead v
  | succ k ih =>
    have ihL : ∀ (cs : List LV) (vs : List Value), VL w ι per cs vs → VL w [] (allOf w) (snL (snap H k) cs) vs := by
      intro cs vs hvl
      unfold snL
      split
      · rename_i hf
        exact ⟨hvl.1, fun i hi => widen (hvl.2 i hi) (hfreeL_get hf i hi)⟩
      · refine ⟨by simp [hvl.1], fun i hi => ?_⟩
        rw [List.getElem_map]
        exact ih _ _ (hvl.2 i (by simpa using hi))
    intro x v hv
    cases x with
    | sl sz h o m =>
      simp only [snap]
      split
      · rename_i cs hrow
        split
        · rename_i hle
          rcases hv.sl_inv with ⟨b, o', cap, hi, hl, hr, rfl⟩ | ⟨rfl, aa, rfl⟩
          · obtain ⟨c, e2, h1, h2, h3, h4, h5⟩ := hst.rep.block (row_some hrow) hi
            have hlen : ((cs.drop o).take (m * sz)).length = m * sz := by simp; omega
            have hvl : VL w ι per ((cs.drop o).take (m * sz)) ((List.range (m * sz)).map fun j => c.getD (o' + o + j) undef) := by
              refine ⟨by rw [hlen]; simp, fun i hi => ?_⟩
              have hi' : i < m * sz := by rw [hlen] at hi; exact hi
              rw [List.getElem_take, List.getElem_drop]
              have := h5 (o + i) (by omega)
              rw [← Nat.add_assoc] at this
              simpa [hi'] using this
            have h6 := ihL _ _ hvl
            refine .ps (b := b) (o := o' + o) (fun j => c.getD (o' + o + j) undef) (lt_of_get h3) (by rw [h6.1]; simp) hl (fun i hi => ?_) fun i hi => ?_
            · have hi' : i < m * sz := by rw [h6.1] at hi; simpa using hi
              rw [cell_of_blk h3]
              have : o' + o + i < c.size := by omega
              simp [this]
            · have hi' : i < m * sz := by rw [h6.1] at hi; simpa using hi
              have := h6.2 i hi
              simpa [hi'] using this
          · have h6 := ihL ((cs.drop o).take (0 * sz)) [] (by simpa using VL.nil)
            have h7 : snL (snap H k) ((cs.drop o).take (0 * sz)) = [] := List.eq_nil_of_length_eq_zero h6.1
            rw [h7]
            exact .psz
        · exact .dead v
      · exact .dead v
    | agg cs =>
      obtain ⟨vs, rfl, hvl⟩ := hv.agg_inv
      have h6 := ihL _ _ hvl
      exact .agg h6.1 h6.2
    | fn f cs =>
      cases hv with
      | fn hn hvv =>
        have h6 := ihL _ _ ⟨hn, hvv⟩
        exact .fn h6.1 h6.2
    | ptr h o => exact .dead v
    | tup cs => exact .dead v
    | dead => exact .dead v
    | und => exact widen hv rfl
    | bool b => exact widen hv rfl
    | int k n => exact widen hv rfl
    | str s => exact widen hv rfl
    | nilp => exact widen hv rfl
    | pp cs => exact widen hv rfl
    | nils => exact widen hv rfl
    | ps sz m cs => exact widen hv rfl
    | nilf => exact widen hv rfl

/-- What is asked at a call: the contract at the arguments, or at the arguments as a reader sees them. -/
def callK (P : Program) (f : Nat) (args : List LV) (H : Hp) (K : LV → Hp → Prop) : Prop :=
  (hfreeL args = true ∧ LCalls P f args fun x H' => K (sh H.length x) (H ++ shH H.length H')) ∨
  LCalls P f (args.map (snap H 3)) fun x H' => psfree x = true ∧ psfreeH H' = true ∧ K (sh H.length x) (H ++ shH H.length H')

/-- The rows of the caller's and those that the callee has made. -/
theorem ST.join (hst : ST base per0 w0 N ι per F H a w) {w' : World} {ι' : Pl} {per' : Nat → Prop} (hb : Below w.heap.size w w') (hrep : Rep w.heap.size w' ι' per' H')
    (hp1 : ∀ b, per' b → per b ∨ w.heap.size ≤ b) (hp2 : ∀ b, per b → per' b) : ST base per0 w0 N (ι ++ ι') per' F (H ++ shH H.length H') a w' := by
  have hstep : Step per w w' := ⟨fun b hb' => hb.block b (hst.rep.perlt b hb'), fun b n hr => by
    obtain ⟨c, e, fz, h1, h2⟩ := hr
    exact ⟨c, e, fz, by rw [hb.block b (lt_of_get h1)]; exact h1, h2⟩⟩
  have hι : ∀ (h : Nat) (b : Nat × Nat), ι[h]? = some (some b) → (ι ++ ι')[h]? = some (some b) := by
    intro h b hh
    have : h < ι.length := by
      rcases Nat.lt_or_ge h ι.length with h' | h'
      · exact h'
      · simp [List.getElem?_eq_none h'] at hh
    rw [List.getElem?_append_left this]; exact hh
  have hι' : ∀ (h : Nat) (b : Nat × Nat), ι'[h]? = some (some b) → (ι ++ ι')[H.length + h]? = some (some b) := by
    intro h b hh
    rw [← hst.rep.len, List.getElem?_append_right (by omega)]
    simpa using hh
  have cases_row : ∀ (k : Nat) (ds : List LV), (H ++ shH H.length H')[k]? = some (some ds) → (k < H.length ∧ H[k]? = some (some ds)) ∨ ∃ j d, k = H.length + j ∧ H'[j]? = some (some d) ∧ ds = d.map (sh H.length) := by
    intro k ds hk
    rcases Nat.lt_or_ge k H.length with h1 | h1
    · rw [List.getElem?_append_left h1] at hk; exact .inl ⟨h1, hk⟩
    · rw [List.getElem?_append_right h1, shH_get] at hk
      cases hg : H'[k - H.length]? with
      | none => rw [hg] at hk; cases hk
      | some r =>
        rw [hg] at hk
        cases r with
        | none => cases hk
        | some d =>
          simp only [Option.map_some, Option.some.injEq] at hk
          exact .inr ⟨k - H.length, d, by omega, hg, hk.symm⟩
  have oldι : ∀ (k : Nat) (x : Option (Nat × Nat)), k < H.length → (ι ++ ι')[k]? = some x → ι[k]? = some x := by
    intro k x hk hx
    rw [List.getElem?_append_left (by rw [hst.rep.len]; exact hk)] at hx; exact hx
  have newι : ∀ (j : Nat) (x : Option (Nat × Nat)), (ι ++ ι')[H.length + j]? = some x → ι'[j]? = some x := by
    intro j x hx
    rw [← hst.rep.len, List.getElem?_append_right (by omega)] at hx
    simpa using hx
  refine ⟨⟨by simp [hst.rep.len, hrep.len, shH_length], hrep.perlt, fun k ds hk => ?_, fun k k' ds ds' x y x' y' hk hk' hx hx' hxx => ?_⟩, fun b hb' => ?_, fun b hb' => hp2 b (hst.p2 b hb'),
    fun t => (hst.fr t).step hstep hp2 hι, hst.size, hst.defers, hst.below.trans (hb.mono hst.bs), Nat.le_trans hst.bs hb.size⟩
  · rcases cases_row k ds hk with ⟨h0, h1⟩ | ⟨j, d, rfl, h1, rfl⟩
    · rcases hst.rep.live k ds h1 with ⟨h2, h3⟩ | ⟨b2, o2, c2, e2, h2, h3, h4, h5, h6, h7⟩
      · refine .inl ⟨?_, h3⟩
        rw [List.getElem?_append_left (by rw [hst.rep.len]; exact h0)]; exact h2
      · have hlt := lt_of_get h5
        refine .inr ⟨b2, o2, c2, e2, hι _ _ h2, h3, fun hp => ?_, by rw [hb.block _ hlt]; exact h5, h6, fun i hi => (h7 i hi).step hstep hp2 hι⟩
        rcases hp1 _ hp with h | h
        · exact h4 h
        · omega
    · rcases hrep.live j d h1 with ⟨h2, h3⟩ | ⟨b2, o2, c2, e2, h2, h3, h4, h5, h6, h7⟩
      · subst h3
        refine .inl ⟨?_, rfl⟩
        rw [← hst.rep.len, List.getElem?_append_right (by omega)]
        simpa using h2
      · refine .inr ⟨b2, o2, c2, e2, hι' _ _ h2, Nat.le_trans hst.bs h3, h4, h5, by simpa using h6, fun i hi => ?_⟩
        have hi' : i < d.length := by simpa using hi
        rw [List.getElem_map]
        exact (h7 i hi').sh hι'
  · rcases cases_row k ds hk with ⟨h0, h1⟩ | ⟨j, d, rfl, h1, rfl⟩ <;> rcases cases_row k' ds' hk' with ⟨h0', h1'⟩ | ⟨j', d', rfl, h1', rfl⟩
    · exact hst.rep.inj k k' ds ds' x y x' y' h1 h1' (oldι _ _ h0 hx) (oldι _ _ h0' hx') hxx
    · obtain ⟨c1, e1, g1, g2, g3, _⟩ := hst.rep.block h1 (oldι _ _ h0 hx)
      obtain ⟨c2, e2, g1', _⟩ := hrep.block h1' (newι _ _ hx')
      have := lt_of_get g3
      omega
    · obtain ⟨c1, e1, g1, g2, g3, _⟩ := hst.rep.block h1' (oldι _ _ h0' hx')
      obtain ⟨c2, e2, g1', _⟩ := hrep.block h1 (newι _ _ hx)
      have := lt_of_get g3
      omega
    · have := hrep.inj j j' d d' x y x' y' h1 h1' (newι _ _ hx) (newι _ _ hx') hxx
      omega
  · rcases hp1 b hb' with h | h
    · exact hst.p1 b h
    · exact .inr (Nat.le_trans hst.bs h)

/-- A call, carried out. -/
theorem call_sound (hst : ST base per0 w0 N ι per F H a w) {f : Nat} {args : List LV} {vs : List Value} (hvl : VL w ι per args vs) {K : LV → Hp → Prop} (h : callK P f args H K) :
    callable P f = true ∧ Calls P f vs.toArray w fun e w' => ∃ v x H' ι' per', e = .returned v ∧ K x H' ∧ ST base per0 w0 N ι' per' F H' a w' ∧ VR w' per' ι' x v := by
  rcases h with ⟨hf, hc⟩ | hc
  · refine ⟨hc.1, (hc.2 per w vs ⟨hvl.1, fun i hi => (hvl.2 i hi).hfree (hfreeL_get hf i hi)⟩ hst.rep.perlt).mono fun e w' ⟨v, res, H', ι', per', he, hK, hb, hrep, hr, hp1, hp2⟩ => ?_⟩
    refine ⟨v, _, _, ι ++ ι', per', he, hK, hst.join hb hrep hp1 hp2, hr.sh fun h b hh => ?_⟩
    rw [← hst.rep.len, List.getElem?_append_right (by omega)]
    simpa using hh
  · have hsn := snap_sound hst 3
    refine ⟨hc.1, (hc.2 (allOf w) w vs ⟨by simp [hvl.1], fun i hi => by rw [List.getElem_map]; exact hsn _ _ (hvl.2 i (by simpa using hi))⟩ (fun b hb => hb)).mono
      fun e w' ⟨v, res, H', ι', per', he, ⟨hpf, hpH, hK⟩, hb, hrep, hr, hp1, hp2⟩ => ?_⟩
    let per2 : Nat → Prop := per
    have hrep2 : Rep w.heap.size w' ι' per2 H' := by
      refine ⟨hrep.len, fun b hb' => Nat.lt_of_lt_of_le (hst.rep.perlt b hb') hb.size, fun k ds hk => ?_, hrep.inj⟩
      rcases hrep.live k ds hk with h1 | ⟨b2, o2, c2, e2, h2, h3, h4, h5, h6, h7⟩
      · exact .inl h1
      · exact .inr ⟨b2, o2, c2, e2, h2, h3, fun hp => by have := hst.rep.perlt _ hp; omega, h5, h6, fun i hi => (h7 i hi).psfree (psfreeL_get (psfreeH_get hpH hk) i hi)⟩
    refine ⟨v, _, _, ι ++ ι', per2, he, hK, hst.join hb hrep2 (fun b hb' => .inl hb') (fun b hb' => hb'), (hr.psfree (per' := per2) hpf).sh fun h b hh => ?_⟩
    rw [← hst.rep.len, List.getElem?_append_right (by omega)]
    simpa using hh

end
end Go.Lite

/- Lite, part L: regions; forgetting and moving rows. -/
namespace Go.Lite
open Go Go.RowKit

def lput : Option Nat → LV → Fr → Fr
  | none, _, F => F
  | some d, x, F => fset F d x

/-- Does the operation come up? -/
def wantedL (ops : Array Oper) (o : Oper) (F : Fr) : Option Bool :=
  match o.guard with
  | none => some true
  | some (j, want) => match (ops[j]?).bind (·.dst) with
    | none => some false
    | some s => match fget F s with
      | .bool b => some (b == want)
      | .und => some false
      | _ => none

/-- One operation. -/
def stepOp (P : Program) (o : Op) (K : LV → Fr → Hp → Prop) (F : Fr) (H : Hp) : Prop :=
  match pureOp P F o with
  | some x => K x F H
  | none => match loadOp P F H o with
    | some x => K x F H
    | none => match effOp P F H o with
      | some (x, F', H') => K x F' H'
      | none => match o with
        | .call ⟨.value g, args, _⟩ => match evalO F g with
          | .fn f cap => callK P f (args.toList.map (evalO F) ++ cap) H fun x H' => K x F H'
          | _ => False
        | _ => False

def opsL (P : Program) (ops : Array Oper) : List Oper → (Fr → Hp → Prop) → Fr → Hp → Prop
  | [], K, F, H => K F H
  | o :: r, K, F, H => match wantedL ops o F with
    | some true => stepOp P o.op (fun x F' H' => opsL P ops r K (lput o.dst x F') H') F H
    | some false => opsL P ops r K (lput o.dst .und F) H
    | none => False

def dstsOk (N : Nat) (ops : List Oper) : Bool := ops.all fun o => match o.dst with | some d => decide (d < N) | none => true

section
variable {P : Program} {base : Nat} {per0 : Nat → Prop} {w0 : World} {N : Nat} {ι : Pl} {per : Nat → Prop} {F F' : Fr} {H H' : Hp} {a : Act} {w : World} {x : LV}

theorem ST.put (hst : ST base per0 w0 N ι per F H a w) {d : Option Nat} (hd : ∀ k, d = some k → k < N) {v : Value} (hv : VR w per ι x v) : ST base per0 w0 N ι per (lput d x F) H (a.put d v) w := by
  cases d with
  | none => exact hst
  | some k =>
    have hk := hd k rfl
    refine ⟨hst.rep, hst.p1, hst.p2, fun t => ?_, by simp [Act.put, hst.size], hst.defers, hst.below, hst.bs⟩
    show VR w per ι (fget (fset F k x) t) ((a.tmps.setIfInBounds k v).getD t undef)
    rw [fget_fset]
    by_cases h : k = t
    · subst h
      rw [if_pos rfl]
      have : (a.tmps.setIfInBounds k v).getD k undef = v := by
        have : k < a.tmps.size := by rw [hst.size]; exact hk
        simp [this]
      rw [this]; exact hv
    · rw [if_neg h]
      have : (a.tmps.setIfInBounds k v).getD t undef = a.tmps.getD t undef := by
        simp only [Array.getD_eq_getD_getElem?, Array.getElem?_setIfInBounds]
        rw [if_neg h]
      rw [this]; exact hst.fr t

theorem wanted_sound (hst : ST base per0 w0 N ι per F H a w) {ops : Array Oper} {o : Oper} {b : Bool} (h : wantedL ops o F = some b) : Region.wanted o (yielded ops a.tmps) = b := by
  unfold wantedL at h
  unfold Region.wanted
  split at h
  · rename_i hg; simp only [Option.some.injEq] at h; subst h; simp [hg]
  · rename_i j want hg
    simp only [hg]
    split at h
    · rename_i hd
      simp only [Option.some.injEq] at h; subst h
      simp [yielded, hd]
    · rename_i s hs
      have hv := hst.fr s
      have hcase : ∀ c, VR w per ι (.bool c) (a.tmps.getD s undef) → a.tmps[s]? = some (.bool c) := by
        intro c hc
        generalize hz : a.tmps.getD s undef = z at hc
        cases hc
        simp only [Array.getD_eq_getD_getElem?] at hz
        cases hq : a.tmps[s]? with
        | none => rw [hq] at hz; simp [undef] at hz
        | some q => rw [hq] at hz; simp at hz; rw [hz]
      split at h
      · rename_i c hc
        rw [hc] at hv
        have := hcase c hv
        simp only [Option.some.injEq] at h; subst h
        simp only [yielded, hs, Option.bind_some, this]
        cases c <;> cases want <;> rfl
      · rename_i hc
        rw [hc] at hv
        simp only [Option.some.injEq] at h; subst h
        generalize hz : a.tmps.getD s undef = z at hv
        cases hv
        simp only [Array.getD_eq_getD_getElem?] at hz
        cases hq : a.tmps[s]? with
        | none => simp [yielded, hs, hq]
        | some q =>
          rw [hq] at hz
          simp only [Option.getD_some] at hz
          subst hz
          simp [yielded, hs, hq, undef]
      · cases h

theorem callFunc_enter {f : Nat} (hc : callable P f = true) (args : Array Value) : (callFunc f args).run P w = .ok (.enter f args) w := by
  unfold callable at hc
  split at hc
  · rename_i fn hfn
    simp only [Bool.and_eq_true, Bool.not_eq_eq_eq_not, Bool.not_true] at hc
    simp only [callFunc, Sem.run_bind, run_program, Result.andThen_ok, hfn, hc.1, hc.2, Bool.false_eq_true, if_false, Sem.run_pure]
  · cases hc

/-- One operation, carried out. -/
theorem step_sound {ops : Array Oper} {o : Oper} {K : LV → Fr → Hp → Prop} {next : Act → World → Prop} {Q : Exit → Act → World → Prop} (hd : ∀ k, o.dst = some k → k < N)
    (hnext : ∀ x F' H' ι' per' v w', K x F' H' → ST base per0 w0 N ι' per' F' H' a w' → VR w' per' ι' x v → next (a.put o.dst v) w')
    (hst : ST base per0 w0 N ι per F H a w) (h : stepOp P o.op K F H) : o.wp P a w next Q := by
  unfold stepOp at h
  unfold Oper.wp
  split at h
  · rename_i x hx
    obtain ⟨u, hu, hr⟩ := pure_sound (P := P) hst.fr hx
    rw [hu w]
    exact hnext _ _ _ _ _ _ _ h hst hr
  · split at h
    · rename_i x hx
      obtain ⟨u, hu, hr⟩ := load_sound (P := P) hst hx
      rw [hu w (Ext.refl w)]
      exact hnext _ _ _ _ _ _ _ h hst hr
    · split at h
      · rename_i x F' H' hx
        obtain ⟨u, w', ι', hu, hst', hr⟩ := eff_sound (P := P) hst hx
        rcases hu with hu | ⟨hu, rfl⟩
        · rw [hu]; exact hnext _ _ _ _ _ _ _ h hst' hr
        · rw [hu]; exact hnext _ _ _ _ _ _ _ h hst' hr
      · split at h
        · rename_i g args tys hop
          split at h
          · rename_i f cap hg
            have hgv := hst.fr.eval g
            rw [hg] at hgv
            generalize hgg : a.eval g = gv at hgv
            cases hgv with
            | @fn _ _ _ vs hn hv =>
              have hvl := (evalL hst.fr args.toList).append ⟨hn, hv⟩
              obtain ⟨hc, hcalls⟩ := call_sound (P := P) hst hvl h
              have hrun : (execOp a.eval o).run P w = .ok (.enter f (args.toList.map a.eval ++ vs).toArray) w := by
                obtain ⟨dst, op, ty, pos, after, guard⟩ := o
                simp only at hop
                subst hop
                simp only [execOp, resolve, hgg, Deferred.ofValue, Sem.run_bind, Sem.run_pure, Result.andThen_ok, invoke]
                have e : (#[] ++ args.map a.eval ++ vs.toArray : Array Value) = (args.toList.map a.eval ++ vs).toArray := by apply Array.ext'; simp
                rw [e]
                exact callFunc_enter hc _
              rw [hrun, Oper.upon_enter]
              refine hcalls.mono fun e w' ⟨v, x, H', ι', per', he, hK, hst', hr⟩ => ?_
              subst he
              exact hnext _ _ _ _ _ _ _ hK hst' hr
          · exact h.elim
        · exact h.elim

theorem opsL_sound {ops : Array Oper} {Q : LPost} : ∀ (l : List Oper), dstsOk N l = true → ∀ (F : Fr) (H : Hp) (ι : Pl) (per : Nat → Prop) (a : Act) (w : World), ST base per0 w0 N ι per F H a w →
    opsL P ops l (fun F H => Q .normal F H) F H → wpList P ops (LQ Q base per0 w0 N) l a w := by
  intro l
  induction l with
  | nil => intro _ F H ι per a w hst h; exact wpList_nil ⟨F, H, h, .of hst⟩
  | cons o r ih =>
    intro hN F H ι per a w hst h
    simp only [dstsOk, List.all_cons, Bool.and_eq_true] at hN
    have hd : ∀ k, o.dst = some k → k < N := by
      intro k hk
      have := hN.1
      rw [hk] at this
      simpa using this
    refine wpList_step fun K hK => ?_
    simp only [opsL] at h
    split at h
    · rename_i hw
      rw [wanted_sound hst hw]
      simp only [if_true]
      exact step_sound (ops := ops) hd (fun x F' H' ι' per' v w' hk hst' hr => hK _ _ (ih hN.2 _ _ _ _ _ _ (hst'.put hd hr) hk)) hst h
    · rename_i hw
      rw [wanted_sound hst hw]
      simp only [Bool.false_eq_true, if_false]
      exact hK _ _ (ih hN.2 _ _ _ _ _ _ (hst.put hd .und) h)
    · exact h.elim

/-- A region in the order of its text. -/
theorem lwp_region {id : Nat} {ops : Array Oper} {Q : LPost} (hN : dstsOk N ops.toList = true) (h : opsL P ops ops.toList (fun F H => Q .normal F H) F H) : Lwp P N (.region id ops false) Q F H := by
  intro base per0 w0 a w hs
  obtain ⟨ι, per, hst⟩ := hs.st
  exact wp_region_list (opsL_sound ops.toList hN F H ι per a w hst h)

end

/-! ### A region that draws its order, all of whose operations read or call quietly -/

mutual
def rigid : LV → Bool
  | .bool _ | .int _ _ | .str _ | .nilp | .nils | .nilf | .und => true
  | .tup cs => rigidL cs
  | .agg cs => rigidL cs
  | _ => false
def rigidL : List LV → Bool
  | [] => true
  | c :: r => rigid c && rigidL r
end

theorem rigidL_get {cs : List LV} (h : rigidL cs = true) : ∀ i (hi : i < cs.length), rigid cs[i] = true := by
  induction cs with
  | nil => intro i hi; simp at hi
  | cons c r ih =>
    simp only [rigidL, Bool.and_eq_true] at h
    intro i hi
    cases i with
    | zero => exact h.1
    | succ i => exact ih h.2 i (by simpa using hi)

theorem VR.rigid {w w' : World} {per per' : Nat → Prop} {ι ι' : Pl} {x : LV} {v : Value} (h : VR w per ι x v) : rigid x = true → ∀ {u : Value}, VR w' per' ι' x u → u = v := by
  induction h with
  | dead v => intro h; simp [Lite.rigid] at h
  | und => intro _ u hu; cases hu; rfl
  | bool b => intro _ u hu; cases hu; rfl
  | int k n => intro _ u hu; cases hu; rfl
  | str s => intro _ u hu; cases hu; rfl
  | nilp => intro _ u hu; cases hu; rfl
  | ptr hi => intro h; simp [Lite.rigid] at h
  | pp vs h1 h2 h3 _ => intro h; simp [Lite.rigid] at h
  | nils => intro _ u hu; cases hu; rfl
  | sl h1 h2 h3 => intro h; simp [Lite.rigid] at h
  | slz => intro h; simp [Lite.rigid] at h
  | psz => intro h; simp [Lite.rigid] at h
  | ps vs h1 h2 h3 h4 h5 _ => intro h; simp [Lite.rigid] at h
  | nilf => intro _ u hu; cases hu; rfl
  | fn hn hv ih => intro h; simp [Lite.rigid] at h
  | @agg _ cs vs hn hv ih =>
    intro h u hu
    obtain ⟨us, rfl, hl⟩ := hu.agg_inv
    have : us = vs := by
      apply List.ext_getElem?
      intro i
      by_cases hi : i < cs.length
      · have h1 : i < us.length := by rw [← hl.1]; exact hi
        have h2 : i < vs.length := by rw [← hn]; exact hi
        have h3 := ih i hi (rigidL_get (by simpa [Lite.rigid] using h) i hi) (hl.2 i hi)
        simpa [h1, h2] using h3
      · rw [List.getElem?_eq_none (by rw [← hl.1]; omega), List.getElem?_eq_none (by rw [← hn]; omega)]
    rw [this]
  | @tup _ cs vs hn hv ih =>
    intro h u hu
    obtain ⟨us, rfl, hl⟩ := hu.tup_inv
    have : us = vs := by
      apply List.ext_getElem?
      intro i
      by_cases hi : i < cs.length
      · have h1 : i < us.length := by rw [← hl.1]; exact hi
        have h2 : i < vs.length := by rw [← hn]; exact hi
        have h3 := ih i hi (rigidL_get (by simpa [Lite.rigid] using h) i hi) (hl.2 i hi)
        simpa [h1, h2] using h3
      · rw [List.getElem?_eq_none (by rw [← hl.1]; omega), List.getElem?_eq_none (by rw [← hn]; omega)]
    rw [this]

/-- A callee that hands back just this value; what it makes is of no use behind it. -/
def quietK (P : Program) (f : Nat) (args : List LV) (H : Hp) (x : LV) : Prop :=
  rigid x = true ∧ (LCalls P f args (fun y _ => y = x) ∧ hfreeL args = true ∨ LCalls P f (args.map (snap H 3)) (fun y _ => y = x))

def stepQ (P : Program) (o : Op) (K : LV → Prop) (F : Fr) (H : Hp) : Prop :=
  match pureOp P F o with
  | some x => K x
  | none => match loadOp P F H o with
    | some x => K x
    | none => match o with
      | .call ⟨.value g, args, _⟩ => match evalO F g with
        | .fn f cap => ∃ x, quietK P f (args.toList.map (evalO F) ++ cap) H x ∧ K x
        | _ => False
      | _ => False

section
variable {P : Program} {base : Nat} {per0 : Nat → Prop} {w0 : World} {N : Nat} {ι : Pl} {per : Nat → Prop} {F F' : Fr} {H H' : Hp} {a : Act} {w : World} {x : LV}

theorem Ext.step (hst : ST base per0 w0 N ι per F H a w) {w' : World} (h : Ext w w') : Step per w w' :=
  ⟨fun b hb => h b (hst.rep.perlt b hb), fun b n hr => by
    obtain ⟨c, e, fz, h1, h2⟩ := hr
    exact ⟨c, e, fz, by rw [h b (lt_of_get h1)]; exact h1, h2⟩⟩

/-- Worlds in which all that was there is as it was. -/
def Cls (w w' : World) : Prop := Ext w w' ∧ Below w.heap.size w w'

theorem ST.ext (hst : ST base per0 w0 N ι per F H a w) {w' : World} (h : Cls w w') : ST base per0 w0 N ι per F H a w' := by
  have hs := Ext.step hst h.1
  refine ⟨⟨hst.rep.len, fun b hb => Nat.lt_of_lt_of_le (hst.rep.perlt b hb) h.2.size, fun k ds hk => ?_, hst.rep.inj⟩, hst.p1, hst.p2, hst.fr.step hs (fun _ _ h => h), hst.size, hst.defers,
    hst.below.trans (h.2.mono hst.bs), Nat.le_trans hst.bs h.2.size⟩
  rcases hst.rep.live k ds hk with h1 | ⟨b, o, c, e, h1, h2, h3, h4, h5, h6⟩
  · exact .inl h1
  · exact .inr ⟨b, o, c, e, h1, h2, h3, by rw [h.1 _ (lt_of_get h4)]; exact h4, h5, fun i hi => (h6 i hi).step hs (fun _ h => h) (fun _ _ h => h)⟩

theorem Cls.trans {a b c : World} (h : Cls a b) (k : Cls b c) : Cls a c := by
  refine ⟨fun i hi => ?_, h.2.trans (k.2.mono h.2.size)⟩
  have := h.2.size
  rw [k.1 i (by omega), h.1 i hi]

theorem quiet_call (hst : ST base per0 w0 N ι per F H a w) {g : Operand} {args : Array Operand} {tys : Array TypeId} {f : Nat} {cap : List LV} (hg : evalO F g = .fn f cap) (hq : quietK P f (args.toList.map (evalO F) ++ cap) H x) :
    ∃ v0, VR w per ι x v0 ∧ (∀ (o : Oper), o.op = .call ⟨.value g, args, tys⟩ → ∀ w', Cls w w' → o.quietAt P a (Cls w) w' v0) ∧ callable P f = true := by
  obtain ⟨hrig, hcall⟩ := hq
  have hgv := hst.fr.eval g
  rw [hg] at hgv
  generalize hgg : a.eval g = gv at hgv
  cases hgv with
  | @fn _ _ _ vs hn hv =>
    have hvl := (evalL hst.fr args.toList).append ⟨hn, hv⟩
    have hcallable : callable P f = true := by rcases hcall with ⟨h, _⟩ | h <;> exact h.1
    have hres : ∀ w', Cls w w' → Calls P f (args.toList.map a.eval ++ vs).toArray w' fun e w'' => ∃ v ι' per', e = .returned v ∧ Below w'.heap.size w' w'' ∧ VR w'' per' ι' x v := by
      intro w' hw'
      have hst' := hst.ext hw'
      have hvl' : VL w' ι per (args.toList.map (evalO F) ++ cap) (args.toList.map a.eval ++ vs) := ⟨hvl.1, fun i hi => (hvl.2 i hi).step (Ext.step hst hw'.1) (fun _ h => h) (fun _ _ h => h)⟩
      rcases hcall with ⟨hc, hf⟩ | hc
      · exact (hc.2 per w' _ ⟨hvl'.1, fun i hi => (hvl'.2 i hi).hfree (hfreeL_get hf i hi)⟩ hst'.rep.perlt).mono fun e w'' ⟨v, res, H', ι', per', he, hK, hb, hrep, hr, _⟩ => by subst hK; exact ⟨v, ι', per', he, hb, hr⟩
      · exact (hc.2 (allOf w') w' _ ⟨by simpa using hvl'.1, fun i hi => by rw [List.getElem_map]; exact snap_sound hst' 3 _ _ (hvl'.2 i (by simpa using hi))⟩ (fun b hb => hb)).mono
          fun e w'' ⟨v, res, H', ι', per', he, hK, hb, hrep, hr, _⟩ => by subst hK; exact ⟨v, ι', per', he, hb, hr⟩
    -- the value: the same in every world
    obtain ⟨_, _, _, ⟨v0, ι0, per0', _, _, hr0⟩, _⟩ := hres w ⟨Ext.refl w, Below.refl _ _⟩ []
    have hval : VR w per ι x v0 := by
      have : ∀ {z : LV} {v : Value} {w1 : World} {p1 : Nat → Prop} {i1 : Pl}, VR w1 p1 i1 z v → rigid z = true → VR w per ι z v := by
        intro z v w1 p1 i1 hz
        induction hz with
        | dead v => intro h; simp [Lite.rigid] at h
        | und => intro _; exact .und
        | bool b => intro _; exact .bool b
        | int k n => intro _; exact .int k n
        | str s => intro _; exact .str s
        | nilp => intro _; exact .nilp
        | ptr hi => intro h; simp [Lite.rigid] at h
        | pp vs h1 h2 h3 _ => intro h; simp [Lite.rigid] at h
        | nils => intro _; exact .nils
        | sl h1 h2 h3 => intro h; simp [Lite.rigid] at h
        | slz => intro h; simp [Lite.rigid] at h
        | psz => intro h; simp [Lite.rigid] at h
        | ps vs h1 h2 h3 h4 h5 _ => intro h; simp [Lite.rigid] at h
        | nilf => intro _; exact .nilf
        | fn hn hv ih => intro h; simp [Lite.rigid] at h
        | agg hn hv ih => intro h; exact .agg hn fun i hi => ih i hi (rigidL_get (by simpa [Lite.rigid] using h) i hi)
        | tup hn hv ih => intro h; exact .tup hn fun i hi => ih i hi (rigidL_get (by simpa [Lite.rigid] using h) i hi)
      exact this hr0 hrig
    refine ⟨v0, hval, fun o hop w' hw' => ?_, hcallable⟩
    unfold Oper.quietAt
    have hrun : (execOp a.eval o).run P w' = .ok (.enter f (args.toList.map a.eval ++ vs).toArray) w' := by
      obtain ⟨dst, op, ty, pos, after, guard⟩ := o
      simp only at hop
      subst hop
      simp only [execOp, resolve, hgg, Deferred.ofValue, Sem.run_bind, Sem.run_pure, Result.andThen_ok, invoke]
      have e : (#[] ++ args.map a.eval ++ vs.toArray : Array Value) = (args.toList.map a.eval ++ vs).toArray := by apply Array.ext'; simp
      rw [e]
      exact callFunc_enter hcallable _
    rw [hrun]
    refine ⟨rfl, (hres w' hw').mono fun e w'' ⟨v, ι', per', he, hb, hr⟩ => ⟨?_, ?_⟩⟩
    · rw [he, hr0.rigid hrig hr]
    · exact hw'.trans ⟨fun b hb' => hb.block b hb', hb⟩

end
end Go.Lite
