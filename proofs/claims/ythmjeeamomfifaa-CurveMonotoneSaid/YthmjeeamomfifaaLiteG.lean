/- Lite, part G: the operations that read, make and write memory do what loadOp and effOp say. -/
import Derived.Test.YthmjeeamomfifaaLiteF
namespace Go.Lite
open Go Go.RowKit
set_option linter.unusedVariables false

/-- What was there is there. -/
def Ext (w w' : World) : Prop := ∀ b, b < w.heap.size → w'.heap[b]? = w.heap[b]?

theorem Ext.refl (w : World) : Ext w w := fun _ _ => rfl
theorem Ext.cell {w w' : World} (h : Ext w w') {p : Addr} {v : Value} (hc : w.cell? p = some v) : w'.cell? p = some v := by
  have hb : p.block < w.heap.size := by
    unfold World.cell? at hc
    split at hc
    · rename_i hx; exact lt_of_get hx
    · cases hc
  rw [← hc]; exact World.cell?_of_block (h p.block hb)

section
variable {P : Program} {cx : Ctx} {N : Dim} {ι : Pl} {per : Nat → Prop} {F : Fr} {H : Hp} {a : Act} {w : World}

theorem Rep.block {kp : Nat → Prop} (hr : Rep kp w ι per H) {h : Nat} {cs : List LV} {b o : Nat} (hh : H[h]? = some (some cs)) (hi : ι[h]? = some (some (b, o))) :
    ∃ c e, ¬ kp b ∧ ¬ per b ∧ w.heap[b]? = some (.cells c e (0, 0)) ∧ o + cs.length ≤ c.size ∧ ∀ i (hi : i < cs.length), VR w per ι cs[i] (c.getD (o + i) undef) := by
  rcases hr.live h cs hh with ⟨h1, _⟩ | ⟨b', o', c, e, h1, h2, h3, h4, h5, h6⟩
  · rw [hi] at h1; cases h1
  · rw [hi] at h1
    simp only [Option.some.injEq, Prod.mk.injEq] at h1
    obtain ⟨rfl, rfl⟩ := h1
    exact ⟨c, e, h2, h3, h4, h5, h6⟩

theorem load_sound (hst : ST cx N ι per F H a w) {o : Oper} {x : LV} (h : loadOp (ttOf P) F H o.op = some x) :
    ∃ u, (∀ w', Ext w w' → (execOp a.eval o).run P w' = .ok (.value u) w') ∧ VR w per ι x u := by
  obtain ⟨dst, op, ty, pos, after, guard⟩ := o
  cases op with
  | load t y =>
    simp only [loadOp] at h
    have hc := hst.fr.eval y
    generalize hcv : a.eval y = v at hc
    have key : ∀ (ti : TI) (cs : List LV) (b o : Nat) (vs : Nat → Value) (off : Nat), tiOf P t = some ti → v = .pointer (some ⟨b, o + off, none⟩) →
        (∀ i, i < cs.length → w.cell? ⟨b, o + i, none⟩ = some (vs i)) → (∀ i (hi : i < cs.length), VR w per ι cs[i] (vs i)) → lpart ti.agg ti.size cs off = some x →
        ∃ u, (∀ w', Ext w w' → (execOp a.eval ⟨dst, .load t y, ty, pos, after, guard⟩).run P w' = .ok (.value u) w') ∧ VR w per ι x u := by
      intro ti cs b o vs off hti hv hcell hvr hp
      obtain ⟨i, d, z, hi, hd, hz, hzero, hsize, hzs, hagg, htd⟩ := ti_spec hti
      unfold lpart at hp
      rw [hagg] at hp
      split at hp
      · rename_i hA
        split at hp
        · rename_i hle
          obtain rfl := Option.some.inj hp
          refine ⟨.agg (((List.range i.size).map fun j => vs (off + j)).toArray), fun w' hw' => ?_, .agg (by simp; omega) fun j hj => ?_⟩
          · have hl := run_loadCells (P := P) (w := w') (b := b) (o := o + off) (fun j => vs (off + j)) i.size 0 #[] (fun j _ h2 => by
              have := hcell (off + j) (by omega)
              rw [← Nat.add_assoc] at this
              exact hw'.cell this)
            simp only [execOp, hcv, hv, Instr.loadAt, Instr.sureAddr, Sem.run_bind, Sem.run_pure, Result.andThen_ok, loadVar, run_isAgg hd, hA, if_true, run_sizeOf hi, loadCells, hl]
            simp [List.range_eq_range']
          · have hj2 : off + j < cs.length := by simp at hj; omega
            have hj3 : j < i.size := by simp at hj; omega
            rw [List.getElem_take, List.getElem_drop]
            simp [hj3]
            exact hvr _ hj2
        · cases hp
      · rename_i hA
        obtain ⟨hlt, rfl⟩ := List.getElem?_eq_some_iff.1 hp
        refine ⟨vs off, fun w' hw' => ?_, hvr off hlt⟩
        have := hw'.cell (hcell off hlt)
        simp only [execOp, hcv, hv, Instr.loadAt, Instr.sureAddr, Sem.run_bind, Sem.run_pure, Result.andThen_ok, loadVar, run_isAgg hd, hA, if_false, Bool.false_eq_true, run_load, this]
    split at h
    · rename_i ti hh oo hti e
      rw [e] at hc
      split at h
      · rename_i cs hrow
        obtain ⟨b, o, hi, rfl⟩ := hc.ptr_inv
        obtain ⟨c, e2, h1, h2, h3, h4, h5⟩ := hst.rep.block (row_some hrow) hi
        refine key ti cs b o (fun i => c.getD (o + i) undef) oo hti rfl (fun i hi => ?_) h5 h
        rw [cell_of_blk h3]
        have : o + i < c.size := by omega
        simp [this]
      · cases h
    · rename_i ti cs hti e
      rw [e] at hc
      obtain ⟨b, o, vs, hp, hcc, hvv, rfl⟩ := hc.pp_inv
      exact key ti cs b o vs 0 hti rfl hcc (fun i hi => (hvv i hi).step (Step.refl _ _) (fun _ h => h) (fun _ _ h => by simp at h)) h
    · cases h
  | _ => cases h

theorem take_range_map (f : Nat → Value) (n : Nat) {k : Nat} (h : k ≤ n) : ((List.range n).map f).take k = (List.range' 0 k).map f := by
  rw [← List.map_take, List.take_range, Nat.min_eq_left h, List.range_eq_range']

/-- A source of append or copy. -/
theorem src_sound (hst : ST cx N ι per F H a w) {esz : Nat} {x : LV} {v : Value} (hx : VR w per ι x v) {n : Nat} {xs : List LV} (h : srcCells H esz x = some (n, xs)) :
    ∃ vs : List Value, VL w ι per xs vs ∧ xs.length = n * esz ∧ (∀ w', (Builtin.lenOf v).run P w' = .ok n w') ∧
      ∀ w' k, Ext w w' → k ≤ n → (Builtin.firstCells esz k v).run P w' = .ok (vs.take (k * esz)).toArray w' := by
  cases x with
  | nils =>
    simp only [srcCells, Option.some.injEq, Prod.mk.injEq] at h
    obtain ⟨rfl, rfl⟩ := h
    cases hx
    exact ⟨[], .nil, by simp, fun w' => by simp [Builtin.lenOf], fun w' k _ hk => by simp [Builtin.firstCells]⟩
  | str s =>
    simp only [srcCells] at h
    split at h
    · rename_i he
      simp only [Option.some.injEq, Prod.mk.injEq] at h
      obtain ⟨rfl, rfl⟩ := h
      cases hx
      refine ⟨s.data.toList.map fun b => .int .u8 b.toNat, ⟨by simp, fun i hi => ?_⟩, by subst he; simp, fun w' => by simp [Builtin.lenOf], fun w' k _ hk => ?_⟩
      · have hi' : i < s.data.size := by simpa using hi
        simp only [List.getElem_map, List.getD_eq_getElem?_getD, List.getElem?_map, Array.getElem?_toList, Array.getElem?_eq_getElem hi', Option.map_some, Option.getD_some]
        exact .int _ _
      · subst he
        simp only [Builtin.firstCells, Sem.run_pure, Nat.mul_one, Result.ok.injEq, and_true]
        apply Array.ext'
        simp [ByteArray.data_extract]
    · cases h
  | ps sz m cs =>
    simp only [srcCells] at h
    split at h
    · rename_i he
      simp only [Option.some.injEq, Prod.mk.injEq] at h
      obtain ⟨rfl, rfl⟩ := h
      subst he
      rcases hx.ps_inv with ⟨b, o, cap, vs, hp, hn, hl, hc, hv, rfl⟩ | ⟨rfl, rfl, aa, cap, rfl⟩
      · refine ⟨(List.range cs.length).map vs, ⟨by simp, fun i hi => ?_⟩, hn, fun w' => by simp [Builtin.lenOf], fun w' k hw' hk => ?_⟩
        · simp [hi]
          exact (hv i hi).step (Step.refl _ _) (fun _ h => h) (fun _ _ h => by simp at h)
        · have hkl : k * sz ≤ cs.length := by rw [hn]; exact Nat.mul_le_mul_right _ hk
          have := run_loadCells (P := P) (w := w') (b := b) (o := o) vs (k * sz) 0 #[] (fun j _ h2 => hw'.cell (hc j (by omega)))
          simp only [Builtin.firstCells, loadCells, this]
          rw [take_range_map _ _ hkl]
          simp
      · refine ⟨[], .nil, by simp, fun w' => by simp [Builtin.lenOf], fun w' k hw' hk => ?_⟩
        have : k = 0 := by omega
        subst this
        cases aa <;> simp [Builtin.firstCells, loadCells, loadCellsFrom]
    · cases h
  | sl sz h' o m =>
    simp only [srcCells] at h
    split at h
    · rename_i he
      subst he
      split at h
      · rename_i cs hrow
        split at h
        · rename_i hle
          simp only [Option.some.injEq, Prod.mk.injEq] at h
          obtain ⟨rfl, rfl⟩ := h
          rcases hx.sl_inv with ⟨b, o', cap, hi, hl, hr, rfl⟩ | ⟨rfl, aa, rfl⟩
          · obtain ⟨c, e2, h1, h2, h3, h4, h5⟩ := hst.rep.block (row_some hrow) hi
            have hlen : ((cs.drop o).take (m * sz)).length = m * sz := by simp; omega
            refine ⟨(List.range (m * sz)).map fun j => c.getD (o' + o + j) undef, ⟨by rw [hlen]; simp, fun i hi => ?_⟩, hlen, fun w' => by simp [Builtin.lenOf], fun w' k hw' hk => ?_⟩
            · have hi' : i < m * sz := by rw [hlen] at hi; exact hi
              rw [List.getElem_take, List.getElem_drop]
              have := h5 (o + i) (by omega)
              rw [← Nat.add_assoc] at this
              simpa [hi'] using this
            · have hkl : k * sz ≤ m * sz := Nat.mul_le_mul_right _ hk
              have := run_loadCells (P := P) (w := w') (b := b) (o := o' + o) (fun j => c.getD (o' + o + j) undef) (k * sz) 0 #[] (fun j _ h2 => hw'.cell (by
                rw [cell_of_blk h3]
                have : o' + o + j < c.size := by omega
                simp [this]))
              simp only [Builtin.firstCells, loadCells, this]
              rw [take_range_map _ _ hkl]
              simp
          · refine ⟨[], by simpa using VL.nil, by simp, fun w' => by simp [Builtin.lenOf], fun w' k hw' hk => ?_⟩
            have : k = 0 := by omega
            subst this
            cases aa <;> simp [Builtin.firstCells, loadCells, loadCellsFrom]
        · cases h
      · cases h
    · cases h
  | _ => cases h

theorem zerosL_length (n : Nat) (zs : List LV) : (zerosL n zs).length = n * zs.length := by
  unfold zerosL
  split
  · simp
  · simp [List.length_flatten]

theorem flatten_get? {n : Nat} : ∀ (i : Nat) (zs : List LV), i < n * zs.length → (List.replicate n zs).flatten[i]? = zs[i % zs.length]? := by
  induction n with
  | zero => intro i zs h; simp at h
  | succ n ih =>
    intro i zs h
    simp only [List.replicate_succ, List.flatten_cons]
    by_cases hi : i < zs.length
    · rw [List.getElem?_append_left hi, Nat.mod_eq_of_lt hi]
    · have hle : zs.length ≤ i := by omega
      rw [List.getElem?_append_right hle, ih (i - zs.length) zs (by rw [Nat.succ_mul] at h; omega), ← Nat.mod_eq_sub_mod hle]

theorem zerosL_get? {n i : Nat} {zs : List LV} (hi : i < n * zs.length) : (zerosL n zs)[i]? = zs[i % zs.length]? := by
  rcases zs with _ | ⟨z, _ | ⟨y, r⟩⟩
  · simp at hi
  · simp only [List.length_singleton, Nat.mul_one] at hi
    simp [zerosL, hi, Nat.mod_one]
  · exact flatten_get? i _ hi

theorem zerosL_get {n : Nat} {z : Value} {i : Nat} (w : World) (ι : Pl) (per : Nat → Prop) (h : i < (zerosL n (z.cells.toList.map scalarLV)).length) :
    VR w per ι (zerosL n (z.cells.toList.map scalarLV))[i] (z.cells[i % z.cells.size]!) := by
  have hi : i < n * z.cells.size := by rw [zerosL_length] at h; simpa using h
  have hpos : 0 < z.cells.size := by
    rcases Nat.eq_zero_or_pos z.cells.size with h | h
    · rw [h] at hi; simp at hi
    · exact h
  have hmod : i % z.cells.size < z.cells.size := Nat.mod_lt _ hpos
  have h1 := zerosL_get? (n := n) (i := i) (zs := z.cells.toList.map scalarLV) (by simpa using hi)
  rw [List.getElem?_eq_getElem h] at h1
  simp only [List.length_map, Array.length_toList, List.getElem?_map, Array.getElem?_toList, Array.getElem?_eq_getElem hmod, Option.map_some, Option.some.injEq] at h1
  rw [h1, getElem!_pos z.cells _ hmod]
  exact .scalar _

end
end Go.Lite
