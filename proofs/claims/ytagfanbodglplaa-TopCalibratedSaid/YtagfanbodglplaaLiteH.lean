/- Lite, parts G H. -/
import Derived.Test.YtagfanbodglplaaLiteF
set_option linter.unusedVariables false
set_option linter.unusedSimpArgs false

/- Lite, part G: the operations that read, make and write memory do what loadOp and effOp say. -/
namespace Go.Lite
open Go Go.RowKit
set_option linter.unusedVariables false

/-- What was there is there. -/
def Ext (w w' : World) : Prop := ∀ b, b < w.heap.size → w'.heap[b]? = w.heap[b]?

theorem Ext.refl (w : World) : Ext w w := fun _ _ => rfl
theorem Ext.cell {w w' : World} (h : Ext w w') {p : Addr} {v : Value} (hc : w.cell? p = some v) : w'.cell? p = some v := by
  have hb : p.block < w.heap.size := by
    unfold World.cell? at hc
    split at hc
    · rename_i hx; exact lt_of_get hx
    · cases hc
  rw [← hc]; exact World.cell?_of_block (h p.block hb)

section
variable {P : Program} {cx : Ctx} {N : Dim} {ι : Pl} {per : Nat → Prop} {F : Fr} {H : Hp} {a : Act} {w : World}

theorem Rep.block {kp : Nat → Prop} (hr : Rep kp w ι per H) {h : Nat} {cs : List LV} {b o : Nat} (hh : H[h]? = some (some cs)) (hi : ι[h]? = some (some (b, o))) :
    ∃ c e, ¬ kp b ∧ ¬ per b ∧ Live w b c e ∧ o + cs.length ≤ c.size ∧ ∀ i (hi : i < cs.length), VR w per ι cs[i] (c.getD (o + i) undef) := by
  rcases hr.live h cs hh with ⟨h1, _⟩ | ⟨b', o', c, e, h1, h2, h3, h4, h5, h6⟩
  · rw [hi] at h1; cases h1
  · rw [hi] at h1
    simp only [Option.some.injEq, Prod.mk.injEq] at h1
    obtain ⟨rfl, rfl⟩ := h1
    exact ⟨c, e, h2, h3, h4, h5, h6⟩

theorem load_sound (hst : ST cx N ι per F H a w) {o : Oper} {x : LV} (h : loadOp (ttOf P) F H o.op = some x) :
    ∃ u, (∀ w', Ext w w' → (execOp a.eval o).run P w' = .ok (.value u) w') ∧ VR w per ι x u := by
  obtain ⟨dst, op, ty, pos, after, guard⟩ := o
  cases op with
  | load t y =>
    simp only [loadOp] at h
    have hc := hst.fr.eval y
    generalize hcv : a.eval y = v at hc
    have key : ∀ (ti : TI) (cs : List LV) (b o : Nat) (vs : Nat → Value) (off : Nat), tiOf P t = some ti → v = .pointer (some ⟨b, o + off, none⟩) →
        (∀ i, i < cs.length → w.cell? ⟨b, o + i, none⟩ = some (vs i)) → (∀ i (hi : i < cs.length), VR w per ι cs[i] (vs i)) → lpart ti.agg ti.size cs off = some x →
        ∃ u, (∀ w', Ext w w' → (execOp a.eval ⟨dst, .load t y, ty, pos, after, guard⟩).run P w' = .ok (.value u) w') ∧ VR w per ι x u := by
      intro ti cs b o vs off hti hv hcell hvr hp
      obtain ⟨i, d, z, hi, hd, hz, hzero, hsize, hzs, hagg, htd⟩ := ti_spec hti
      unfold lpart at hp
      rw [hagg] at hp
      split at hp
      · rename_i hA
        split at hp
        · rename_i hle
          obtain rfl := Option.some.inj hp
          refine ⟨.agg (((List.range i.size).map fun j => vs (off + j)).toArray), fun w' hw' => ?_, .agg (by simp; omega) fun j hj => ?_⟩
          · have hl := run_loadCells (P := P) (w := w') (b := b) (o := o + off) (fun j => vs (off + j)) i.size 0 #[] (fun j _ h2 => by
              have := hcell (off + j) (by omega)
              rw [← Nat.add_assoc] at this
              exact hw'.cell this)
            simp only [execOp, hcv, hv, Instr.loadAt, Instr.sureAddr, Sem.run_bind, Sem.run_pure, Result.andThen_ok, loadVar, run_isAgg hd, hA, if_true, run_sizeOf hi, loadCells, hl]
            simp [List.range_eq_range']
          · have hj2 : off + j < cs.length := by simp at hj; omega
            have hj3 : j < i.size := by simp at hj; omega
            rw [List.getElem_take, List.getElem_drop]
            simp [hj3]
            exact hvr _ hj2
        · cases hp
      · rename_i hA
        obtain ⟨hlt, rfl⟩ := List.getElem?_eq_some_iff.1 hp
        refine ⟨vs off, fun w' hw' => ?_, hvr off hlt⟩
        have := hw'.cell (hcell off hlt)
        simp only [execOp, hcv, hv, Instr.loadAt, Instr.sureAddr, Sem.run_bind, Sem.run_pure, Result.andThen_ok, loadVar, run_isAgg hd, hA, if_false, Bool.false_eq_true, run_load, this]
    split at h
    · rename_i ti hh oo hti e
      rw [e] at hc
      split at h
      · rename_i cs hrow
        obtain ⟨b, o, hi, rfl⟩ := hc.ptr_inv
        obtain ⟨c, e2, h1, h2, h3, h4, h5⟩ := hst.rep.block (row_some hrow) hi
        refine key ti cs b o (fun i => c.getD (o + i) undef) oo hti rfl (fun i hi => ?_) h5 h
        rw [cell_of_blk h3.1]
        have : o + i < c.size := by omega
        simp [this]
      · cases h
    · rename_i ti cs hti e
      rw [e] at hc
      obtain ⟨b, o, vs, hp, hcc, hvv, rfl⟩ := hc.pp_inv
      exact key ti cs b o vs 0 hti rfl hcc (fun i hi => (hvv i hi).step (Step.refl _ _) (fun _ h => h) (fun _ _ h => by simp at h)) h
    · cases h
  | convert s d y =>
    simp only [loadOp] at h
    have hc := hst.fr.eval y
    generalize hcv : a.eval y = v at hc
    split at h
    · rename_i hk
      have hk' : nilOf P s = 3 := Nat.eq_of_beq_eq_true hk
      obtain ⟨e, hs, he⟩ : ∃ e, P.underlying s = some (.slice e) ∧ P.underlying e = some (.int .u8) := by
        unfold nilOf at hk'
        split at hk' <;> first | cases hk' | skip
        rename_i e hu
        split at hk'
        · rename_i he; exact ⟨e, hu, he⟩
        · cases hk'
      split at h
      · rename_i hd
        have hd' : P.underlying d = some .string := str_spec hd
        split at h
        · rename_i ns hb
          obtain rfl := Option.some.inj h
          have fin : ∀ (b o len cap : Nat), v = .slice (some ⟨b, o, none⟩) len cap → ns.length = len → (∀ i, i < len → w.cell? ⟨b, o + i, none⟩ = some (.int .u8 (ns.getD i 0))) →
              ∃ u, (∀ w', Ext w w' → (execOp a.eval ⟨dst, .convert s d y, ty, pos, after, guard⟩).run P w' = .ok (.value u) w') ∧ VR w per ι (.str (strOfNums ns)) u := by
            intro b o len cap hv hl hcell
            refine ⟨_, fun w' hw' => ?_, .str _⟩
            have := run_convert_bytes_arg (P := P) w' s e hs he b o len cap ns hl (fun i hi => hw'.cell (hcell i hi)) d hd'
            simp only [execOp, hcv, hv, Sem.run_bind, this, Result.andThen_ok, Sem.run_pure]
          have nil : ∀ (q : Option Addr) (cap : Nat), v = .slice q 0 cap → ns = [] → ∃ u, (∀ w', Ext w w' → (execOp a.eval ⟨dst, .convert s d y, ty, pos, after, guard⟩).run P w' = .ok (.value u) w') ∧ VR w per ι (.str (strOfNums ns)) u := by
            intro q cap hv hn
            subst hn
            refine ⟨_, fun w' hw' => ?_, .str _⟩
            cases q with
            | none =>
              have := run_convert_bytes_nil (P := P) (w := w') s e hs he 0 cap d hd'
              simp only [execOp, hcv, hv, Sem.run_bind, this, Result.andThen_ok, Sem.run_pure]
              rfl
            | some q =>
              have h1 := run_bytesToString (P := P) w' q 0 cap [] (by simp [loadCells, loadCellsFrom])
              have h2 := run_convert_bytes_string (P := P) w' s d e (some q) 0 cap hs he hd'
              rw [h1] at h2
              simp only [execOp, hcv, hv, Sem.run_bind, h2, Result.andThen_ok, Sem.run_pure]
              rfl
          generalize hx : evalO F y = x at hc hb
          cases x with
          | nils => cases hc; simp only [bytesAt, Option.some.injEq] at hb; exact nil none 0 rfl hb.symm
          | ps sz n cs =>
            simp only [bytesAt] at hb
            split at hb
            · rename_i h1
              subst h1
              obtain ⟨g1, g2⟩ := u8s_len hb
              rcases hc.ps_inv with ⟨b, o, cap, vs, hp, hn, hl, hcc, hvv, rfl⟩ | ⟨rfl, rfl, q, cap, rfl⟩
              · have hcn : cs.length = n := by omega
                refine fin b o n cap rfl (by omega) fun i hi => ?_
                rw [hcc i (by omega)]
                have := hvv i (by omega)
                rw [g2 i (by omega) (by omega)] at this
                generalize vs i = u at this
                cases this
                simp [List.getD, show i < ns.length by omega]
              · simp only [u8s, Option.some.injEq] at hb; exact nil _ _ rfl hb.symm
            · cases hb
          | sl sz q o n =>
            simp only [bytesAt] at hb
            split at hb
            · rename_i h1
              subst h1
              split at hb
              · rename_i cs hrow
                split at hb
                · rename_i hle
                  obtain ⟨g1, g2⟩ := u8s_len hb
                  have hlen : ((cs.drop o).take n).length = n := by simp; omega
                  rcases hc.sl_inv with ⟨b, oo, cap, hi0, hl2, hr, rfl⟩ | ⟨rfl, q2, rfl⟩
                  · obtain ⟨c, e2, k1, k2, k3, k4, k5⟩ := hst.rep.block (row_some hrow) hi0
                    refine fin b (oo + o) n cap rfl (by omega) fun i hi => ?_
                    rw [cell_of_blk k3.1]
                    have hic : oo + o + i < c.size := by omega
                    have := k5 (o + i) (by omega)
                    have g3 := g2 i (by omega) (by omega)
                    rw [List.getElem_take, List.getElem_drop] at g3
                    rw [g3, ← Nat.add_assoc] at this
                    have g4 : c.getD (oo + o + i) undef = c[oo + o + i] := by simp [hic]
                    rw [g4] at this
                    generalize hu : c[oo + o + i] = u at this
                    cases this
                    simp [hic, hu, List.getD, show i < ns.length by omega]
                  · rw [List.take_zero] at hb
                    simp only [u8s, Option.some.injEq] at hb
                    exact nil _ _ rfl hb.symm
                · cases hb
              · cases hb
            · cases hb
          | _ => cases hb
        · cases h
      · cases h
    · cases h
  | slice t y lo hi mx =>
    cases mx with
    | some m => cases h
    | none =>
      simp only [loadOp] at h
      have hc := hst.fr.eval y
      generalize hcv : a.eval y = v at hc
      have hlo := VO.map hst.fr lo
      have hhi := VO.map hst.fr hi
      split at h
      · rename_i m esz g _ _ _ hh oo ht e
        rw [e] at hc
        split at h
        · rename_i cs l r hrow hb
          split at h
          · rename_i hle
            obtain rfl := Option.some.inj h
            obtain ⟨et, j, d, hu, hj, hd, hsz, hag, hpos⟩ := arr_spec ht
            obtain ⟨b, o, hi', rfl⟩ := hc.ptr_inv
            obtain ⟨c, e2, h1, h2, h3, h4, h5⟩ := hst.rep.block (row_some hrow) hi'
            obtain ⟨hrun, k1, k2⟩ := bnds_sound (P := P) (w := w) (isSl := false) (Nat.le_refl m) hlo hhi hb
            have hne : ¬ m = l := by omega
            refine ⟨.slice (some ⟨b, o + (oo + l * esz), none⟩) (r - l) (m - l), fun w' _ => ?_, .sl hi' (by omega) ⟨c, e2.1, e2.2, h3.1, ?_⟩⟩
            · simp [execOp, hcv, Instr.sliceAt, Instr.sureAddr, run_underlying hu, hrun, run_sizeOf hj, hne, hsz, add_plain, Nat.add_assoc]
            · have : l * esz + (m - l) * esz = m * esz := by rw [← Nat.add_mul]; congr 1; omega
              omega
          · cases h
        · cases h
      · rename_i m esz g _ _ _ cs ht e
        rw [e] at hc
        split at h
        · rename_i l r hb
          split at h
          · rename_i hle
            obtain rfl := Option.some.inj h
            obtain ⟨et, j, d, hu, hj, hd, hsz, hag, hpos⟩ := arr_spec ht
            obtain ⟨b, o, vs, hp, hcc, hvv, rfl⟩ := hc.pp_inv
            obtain ⟨hrun, k1, k2⟩ := bnds_sound (P := P) (w := w) (isSl := false) (Nat.le_refl m) hlo hhi hb
            have hne : ¬ m = l := by omega
            have hlen : ((cs.drop (l * esz)).take ((r - l) * esz)).length = (r - l) * esz := by
              have : l * esz + (r - l) * esz = r * esz := by rw [← Nat.add_mul]; congr 1; omega
              have h3 : r * esz ≤ m * esz := Nat.mul_le_mul_right _ k2
              simp; omega
            refine ⟨.slice (some ⟨b, o + l * esz, none⟩) (r - l) (m - l), fun w' _ => ?_, .ps (fun i => vs (l * esz + i)) hp hlen (by omega) (fun i hi => ?_) fun i hi => ?_⟩
            · simp [execOp, hcv, Instr.sliceAt, Instr.sureAddr, run_underlying hu, hrun, run_sizeOf hj, hne, hsz, add_plain]
            · have : l * esz + i < cs.length := by simp at hi; omega
              rw [← hcc _ this, Nat.add_assoc]
            · have : l * esz + i < cs.length := by simp at hi; omega
              rw [List.getElem_take, List.getElem_drop]
              exact hvv _ this
          · cases h
        · cases h
      · cases h
  | _ => cases h

theorem take_range_map (f : Nat → Value) (n : Nat) {k : Nat} (h : k ≤ n) : ((List.range n).map f).take k = (List.range' 0 k).map f := by
  rw [← List.map_take, List.take_range, Nat.min_eq_left h, List.range_eq_range']

/-- A source of append or copy. -/
theorem src_sound (hst : ST cx N ι per F H a w) {esz : Nat} {x : LV} {v : Value} (hx : VR w per ι x v) {n : Nat} {xs : List LV} (h : srcCells H esz x = some (n, xs)) :
    ∃ vs : List Value, VL w ι per xs vs ∧ xs.length = n * esz ∧ (∀ w', (Builtin.lenOf v).run P w' = .ok n w') ∧
      ∀ w' k, Ext w w' → k ≤ n → (Builtin.firstCells esz k v).run P w' = .ok (vs.take (k * esz)).toArray w' := by
  cases x with
  | nils =>
    simp only [srcCells, Option.some.injEq, Prod.mk.injEq] at h
    obtain ⟨rfl, rfl⟩ := h
    cases hx
    exact ⟨[], .nil, by simp, fun w' => by simp [Builtin.lenOf], fun w' k _ hk => by simp [Builtin.firstCells]⟩
  | str s =>
    simp only [srcCells] at h
    split at h
    · rename_i he
      simp only [Option.some.injEq, Prod.mk.injEq] at h
      obtain ⟨rfl, rfl⟩ := h
      cases hx
      refine ⟨s.data.toList.map fun b => .int .u8 b.toNat, ⟨by simp, fun i hi => ?_⟩, by subst he; simp, fun w' => by simp [Builtin.lenOf], fun w' k _ hk => ?_⟩
      · have hi' : i < s.data.size := by simpa using hi
        simp only [List.getElem_map, List.getD_eq_getElem?_getD, List.getElem?_map, Array.getElem?_toList, Array.getElem?_eq_getElem hi', Option.map_some, Option.getD_some]
        exact .int _ _
      · subst he
        simp only [Builtin.firstCells, Sem.run_pure, Nat.mul_one, Result.ok.injEq, and_true]
        apply Array.ext'
        simp [ByteArray.data_extract]
    · cases h
  | ps sz m cs =>
    simp only [srcCells] at h
    split at h
    · rename_i he
      simp only [Option.some.injEq, Prod.mk.injEq] at h
      obtain ⟨rfl, rfl⟩ := h
      subst he
      rcases hx.ps_inv with ⟨b, o, cap, vs, hp, hn, hl, hc, hv, rfl⟩ | ⟨rfl, rfl, aa, cap, rfl⟩
      · refine ⟨(List.range cs.length).map vs, ⟨by simp, fun i hi => ?_⟩, hn, fun w' => by simp [Builtin.lenOf], fun w' k hw' hk => ?_⟩
        · simp [hi]
          exact (hv i hi).step (Step.refl _ _) (fun _ h => h) (fun _ _ h => by simp at h)
        · have hkl : k * sz ≤ cs.length := by rw [hn]; exact Nat.mul_le_mul_right _ hk
          have := run_loadCells (P := P) (w := w') (b := b) (o := o) vs (k * sz) 0 #[] (fun j _ h2 => hw'.cell (hc j (by omega)))
          simp only [Builtin.firstCells, loadCells, this]
          rw [take_range_map _ _ hkl]
          simp
      · refine ⟨[], .nil, by simp, fun w' => by simp [Builtin.lenOf], fun w' k hw' hk => ?_⟩
        have : k = 0 := by omega
        subst this
        cases aa <;> simp [Builtin.firstCells, loadCells, loadCellsFrom]
    · cases h
  | sl sz h' o m =>
    simp only [srcCells] at h
    split at h
    · rename_i he
      subst he
      split at h
      · rename_i cs hrow
        split at h
        · rename_i hle
          simp only [Option.some.injEq, Prod.mk.injEq] at h
          obtain ⟨rfl, rfl⟩ := h
          rcases hx.sl_inv with ⟨b, o', cap, hi, hl, hr, rfl⟩ | ⟨rfl, aa, rfl⟩
          · obtain ⟨c, e2, h1, h2, h3, h4, h5⟩ := hst.rep.block (row_some hrow) hi
            have hlen : ((cs.drop o).take (m * sz)).length = m * sz := by simp; omega
            refine ⟨(List.range (m * sz)).map fun j => c.getD (o' + o + j) undef, ⟨by rw [hlen]; simp, fun i hi => ?_⟩, hlen, fun w' => by simp [Builtin.lenOf], fun w' k hw' hk => ?_⟩
            · have hi' : i < m * sz := by rw [hlen] at hi; exact hi
              rw [List.getElem_take, List.getElem_drop]
              have := h5 (o + i) (by omega)
              rw [← Nat.add_assoc] at this
              simpa [hi'] using this
            · have hkl : k * sz ≤ m * sz := Nat.mul_le_mul_right _ hk
              have := run_loadCells (P := P) (w := w') (b := b) (o := o' + o) (fun j => c.getD (o' + o + j) undef) (k * sz) 0 #[] (fun j _ h2 => hw'.cell (by
                rw [cell_of_blk h3.1]
                have : o' + o + j < c.size := by omega
                simp [this]))
              simp only [Builtin.firstCells, loadCells, this]
              rw [take_range_map _ _ hkl]
              simp
          · refine ⟨[], by simpa using VL.nil, by simp, fun w' => by simp [Builtin.lenOf], fun w' k hw' hk => ?_⟩
            have : k = 0 := by omega
            subst this
            cases aa <;> simp [Builtin.firstCells, loadCells, loadCellsFrom]
        · cases h
      · cases h
    · cases h
  | _ => cases h

theorem zerosL_length (n : Nat) (zs : List LV) : (zerosL n zs).length = n * zs.length := by
  unfold zerosL
  split
  · simp
  · simp [List.length_flatten]

theorem flatten_get? {n : Nat} : ∀ (i : Nat) (zs : List LV), i < n * zs.length → (List.replicate n zs).flatten[i]? = zs[i % zs.length]? := by
  induction n with
  | zero => intro i zs h; simp at h
  | succ n ih =>
    intro i zs h
    simp only [List.replicate_succ, List.flatten_cons]
    by_cases hi : i < zs.length
    · rw [List.getElem?_append_left hi, Nat.mod_eq_of_lt hi]
    · have hle : zs.length ≤ i := by omega
      rw [List.getElem?_append_right hle, ih (i - zs.length) zs (by rw [Nat.succ_mul] at h; omega), ← Nat.mod_eq_sub_mod hle]

theorem zerosL_get? {n i : Nat} {zs : List LV} (hi : i < n * zs.length) : (zerosL n zs)[i]? = zs[i % zs.length]? := by
  rcases zs with _ | ⟨z, _ | ⟨y, r⟩⟩
  · simp at hi
  · simp only [List.length_singleton, Nat.mul_one] at hi
    simp [zerosL, hi, Nat.mod_one]
  · exact flatten_get? i _ hi

theorem zerosL_get {n : Nat} {z : Value} {i : Nat} (w : World) (ι : Pl) (per : Nat → Prop) (h : i < (zerosL n (z.cells.toList.map scalarLV)).length) :
    VR w per ι (zerosL n (z.cells.toList.map scalarLV))[i] (z.cells[i % z.cells.size]!) := by
  have hi : i < n * z.cells.size := by rw [zerosL_length] at h; simpa using h
  have hpos : 0 < z.cells.size := by
    rcases Nat.eq_zero_or_pos z.cells.size with h | h
    · rw [h] at hi; simp at hi
    · exact h
  have hmod : i % z.cells.size < z.cells.size := Nat.mod_lt _ hpos
  have h1 := zerosL_get? (n := n) (i := i) (zs := z.cells.toList.map scalarLV) (by simpa using hi)
  rw [List.getElem?_eq_getElem h] at h1
  simp only [List.length_map, Array.length_toList, List.getElem?_map, Array.getElem?_toList, Array.getElem?_eq_getElem hmod, Option.map_some, Option.some.injEq] at h1
  rw [h1, getElem!_pos z.cells _ hmod]
  exact .scalar _

end
end Go.Lite

/- Lite, part H: the operations that make and write memory do what effOp says. -/
namespace Go.Lite
open Go Go.RowKit
set_option linter.unusedVariables false

/-- An operation has been carried out: the value, the state behind it; of the rows' places only that of number n may have turned. -/
def Does (P : Program) (cx : Ctx) (N : Dim) (ι : Pl) (per : Nat → Prop) (n : Nat) (F : Fr) (H' : Hp) (a : Act) (x : LV) (s : Sem Next) (w : World) : Prop :=
  ∃ u w' ι', (s.run P w = .ok (.value u) w' ∨ (s.run P w = .ok .skip w' ∧ u = undef)) ∧ ST cx N ι' per F H' a w' ∧ VR w' per ι' x u ∧ (∀ (h : Nat) (b : Nat × Nat), ι[h]? = some (some b) → ι'[h]? = some (some b)) ∧ ∀ h, h ≠ n → ι'[h]? = ι[h]?

section
variable {P : Program} {cx : Ctx} {N : Dim} {ι : Pl} {per : Nat → Prop} {F : Fr} {H : Hp} {a : Act} {w : World} {x : LV} {n : Nat} {ws : List (Nat × Option (List LV))}

theorem set_oth (n : Nat) (x : Option (Nat × Nat)) : ∀ h, h ≠ n → (ι.set n x)[h]? = ι[h]? := fun h hh => List.getElem?_set_ne (fun e => hh e.symm)

theorem eff_alloc (hst : ST cx N ι per F H a w) {t : TypeId} {dst ty pos after guard} (hv : Vac N ι H n) (h : effOp (ttOf P) F H n (.alloc t) = some (x, ws)) :
    Does P cx N ι per n F (applyWs H ws) a x (execOp a.eval ⟨dst, .alloc t, ty, pos, after, guard⟩) w := by
  simp only [effOp] at h
  split at h
  · rename_i ti hti
    simp only [Option.some.injEq, Prod.mk.injEq] at h
    obtain ⟨rfl, rfl⟩ := h
    obtain ⟨i, d, z, hi, hd, hz, hzero, hsize, hzs, hagg, htd⟩ := ti_spec hti
    refine ⟨.pointer (some ⟨w.heap.size, 0, none⟩), w.alloc (.cells z.cells t), _, .inl ?_, hst.alloc (cs := ti.zero) hv (by rw [hzero]; simp) (fun i hi => ?_), .ptr (o := 0) (off := 0) (vac_set hv _).2, (vac_set hv _).1, set_oth _ _⟩
    · simp [execOp, Instr.alloc, run_zeroValue hi hz, newVar, newRow]
    · have := VL.scalars (w := w) (ι := ι) (per := per) z.cells.toList
      have hi' : i < (z.cells.toList.map scalarLV).length := by rw [← hzero]; exact hi
      have h2 := this.2 i hi'
      simp only [hzero]
      simpa using h2
  · cases h

theorem eff_box (hst : ST cx N ι per F H a w) {t : TypeId} {y : Operand} {dst ty pos after guard} (hv : Vac N ι H n) (h : effOp (ttOf P) F H n (.box t y) = some (x, ws)) :
    Does P cx N ι per n F (applyWs H ws) a x (execOp a.eval ⟨dst, .box t y, ty, pos, after, guard⟩) w := by
  simp only [effOp] at h
  split at h
  · rename_i cs hcs
    simp only [Option.some.injEq, Prod.mk.injEq] at h
    obtain ⟨rfl, rfl⟩ := h
    have hc := (hst.fr.eval y).cells hcs
    refine ⟨.pointer (some ⟨w.heap.size, 0, none⟩), w.alloc (.cells (a.eval y).cells t), _, .inl ?_, hst.alloc (cs := cs) hv (by have := hc.1; simp at this; omega) (fun i hi => ?_), .ptr (o := 0) (off := 0) (vac_set hv _).2, (vac_set hv _).1, set_oth _ _⟩
    · simp [execOp, Instr.box, newVar, newRow]
    · have := hc.2 i hi
      simpa using this
  · cases h

theorem eff_buildSlice (hst : ST cx N ι per F H a w) {t : TypeId} {len : Nat} {parts} {dst ty pos after guard} (hv : Vac N ι H n) (h : effOp (ttOf P) F H n (.buildSlice t len parts) = some (x, ws)) :
    Does P cx N ι per n F (applyWs H ws) a x (execOp a.eval ⟨dst, .buildSlice t len parts, ty, pos, after, guard⟩) w := by
  simp only [effOp] at h
  split at h
  · rename_i esz eb ez sz ag z ht
    split at h
    · rename_i hle
      split at h
      · rename_i cs hcs
        simp only [Option.some.injEq, Prod.mk.injEq] at h
        obtain ⟨rfl, rfl⟩ := h
        obtain ⟨et, j, ze, hu, hj, hsz, hby, hze, hez, hzs, hpos⟩ := slice_spec ht
        have hparts : ∀ (i : Nat) (p : Nat × LV), (parts.toList.map fun p => (p.1, evalO F p.2))[i]? = some p → ∃ v, (parts.toList.map fun p => (p.1, a.eval p.2))[i]? = some (p.1, v) ∧ VR w per ι p.2 v := by
          intro i p hp
          simp only [List.getElem?_map, Option.map_eq_some_iff] at hp ⊢
          obtain ⟨q, hq, rfl⟩ := hp
          exact ⟨a.eval q.2, ⟨q, hq, rfl⟩, hst.fr.eval q.2⟩
        have hz0 : VL w ι per (zerosL len ez) ((Array.range (len * j.size)).map (ze.cells[· % ze.cells.size]!)).toList := by
          subst hez
          refine ⟨by rw [zerosL_length]; simp [hzs, hsz], fun i hi => ?_⟩
          have h1 := zerosL_get (n := len) (z := ze) w ι per hi
          have hi2 : i < len * j.size := by rw [zerosL_length] at hi; simpa [hzs, hsz] using hi
          simpa [hi2] using h1
        obtain ⟨out, ho, hl⟩ := lfill_sound (w := w) (ι := ι) (per := per) (fun i => some (i * esz, esz)) (fun i => some (i * j.size, j.size)) (by intro i; rw [hsz]) _ _ (by simp) hparts _ _ hz0 cs hcs
        have hpm : (parts.map fun (x : Nat × Operand) => (x.1, a.eval x.2)).toList = parts.toList.map fun p => (p.1, a.eval p.2) := by simp
        have hcl : cs.length = len * esz := by
          have : ∀ (place : Nat → Option (Nat × Nat)) (ps : List (Nat × LV)) (c r : List LV), lfill place c ps = some r → r.length = c.length := by
            intro place ps
            induction ps with
            | nil => intro c r h; obtain rfl := Option.some.inj h; rfl
            | cons p ps ih =>
              intro c r h
              obtain ⟨i, v⟩ := p
              simp only [lfill] at h
              split at h
              · split at h
                · cases h
                · rename_i hn
                  have := ih _ _ h
                  rw [this]
                  simp only [not_or] at hn
                  simp [putCells]; omega
              · cases h
          rw [this _ _ _ _ hcs, zerosL_length, hez]
          simp [hzs]
        have hos : out.size = len * esz := by have := hl.1; simp at this; omega
        refine ⟨.slice (some ⟨w.heap.size, 0, none⟩) len len, w.alloc (.cells out et), _, .inl ?_, hst.alloc (cs := cs) hv (by omega) (fun i hi => ?_), ?_, (vac_set hv _).1, set_oth _ _⟩
        · simp only [execOp, Instr.buildSlice, Sem.run_bind, run_underlying hu, Result.andThen_ok, run_sizeOf hj]
          rw [if_neg (by rw [hsz]; omega)]
          by_cases h0 : len * j.size = 0
          · rw [if_pos h0]
            have he : (Array.range (len * j.size)).map (fun x => (#[] : Array Value)[x % (#[] : Array Value).size]!) = (Array.range (len * j.size)).map (fun x => ze.cells[x % ze.cells.size]!) := by
              have hr : Array.range (len * j.size) = #[] := by rw [h0]; exact Array.eq_empty_of_size_eq_zero (by simp)
              rw [hr]; simp
            simp only [Sem.run_bind, Sem.run_pure, Result.andThen_ok, hpm]
            rw [he, ho]
            simp [newRow]
          · rw [if_neg h0]
            simp only [Sem.run_bind, run_zeroValue hj hze, Result.andThen_ok, Sem.run_pure, hpm]
            rw [ho]
            simp [newRow]
        · have := hl.2 i hi
          simpa using this
        · have hroom : Room (w.alloc (.cells out et)) w.heap.size (0 + 0 + len * esz) := ⟨out, et, (0, 0), by show (w.heap.push _)[w.heap.size]? = _; rw [Array.getElem?_push_size], by omega⟩
          have := VR.sl (w := w.alloc (.cells out et)) (per := per) (sz := esz) (off := 0) (len := len) (cap := len) (vac_set hv (some (w.heap.size, 0))).2 (Nat.le_refl _) hroom
          exact this
      · cases h
    · cases h
  · cases h

theorem eff_makeSlice (hst : ST cx N ι per F H a w) {t : TypeId} {l c : Operand} {dst ty pos after guard} (hv : Vac N ι H n) (h : effOp (ttOf P) F H n (.makeSlice t l c) = some (x, ws)) :
    Does P cx N ι per n F (applyWs H ws) a x (execOp a.eval ⟨dst, .makeSlice t l c, ty, pos, after, guard⟩) w := by
  simp only [effOp] at h
  split at h
  · rename_i esz eb ez _ _ _ k n k' m ht el ec
    split at h
    · rename_i hb
      simp only [Option.some.injEq, Prod.mk.injEq] at h
      obtain ⟨rfl, rfl⟩ := h
      obtain ⟨et, j, ze, hu, hj, hsz, hby, hze, hez, hzs, hpos⟩ := slice_spec ht
      have hl := hst.fr.eval l
      rw [el] at hl
      have hc := hst.fr.eval c
      rw [ec] at hc
      generalize hlv : a.eval l = lv at hl
      generalize hcv : a.eval c = cv at hc
      cases hl
      cases hc
      have w1 : IntKind.i64.wrap n = n := by
        simp [IntKind.wrap, IntKind.bits, IntKind.signed]; omega
      have w2 : IntKind.i64.wrap m = m := by
        simp [IntKind.wrap, IntKind.bits, IntKind.signed]; omega
      have hm0 : 0 ≤ m := by omega
      have t1 : (decide (m < 0) || decide ((j.bytes : Int) * m > 2 ^ 48)) = false := by
        rw [hby]; simp; omega
      have hcs : ((Array.range (m.toNat * j.size)).map (ze.cells[· % ze.cells.size]!)).size = m.toNat * esz := by simp [hsz]
      have hnm : n.toNat ≤ m.toNat := by omega
      refine ⟨.slice (some ⟨w.heap.size, 0, none⟩) n.toNat m.toNat, w.alloc (.cells ((Array.range (m.toNat * j.size)).map (ze.cells[· % ze.cells.size]!)) et), _, .inl ?_,
        hst.alloc (cs := zerosL n.toNat ez) hv ?_ (fun i hi => ?_), ?_, (vac_set hv _).1, set_oth _ _⟩
      · simp only [execOp, hlv, hcv, Instr.makeSlice, Sem.run_bind, run_underlying hu, Result.andThen_ok, asInt, asIntOf, Sem.run_pure, run_typeInfo hj, w1, w2, t1]
        have t2 : (decide (n < 0) || decide (n > m)) = false := by simp; omega
        simp only [Bool.false_or, t2, Bool.false_eq_true, if_false, Sem.run_bind, run_askRoom, Result.andThen_ok, run_sizeOf hj]
        by_cases h0 : m.toNat * j.size = 0
        · rw [if_pos h0]
          have hr : Array.range (m.toNat * j.size) = #[] := by rw [h0]; exact Array.eq_empty_of_size_eq_zero (by simp)
          simp only [Sem.run_bind, Sem.run_pure, Result.andThen_ok, hr, newRow]
          simp
        · rw [if_neg h0]
          simp only [Sem.run_bind, run_zeroValue hj hze, Result.andThen_ok, Sem.run_pure]
          simp [newRow]
      · rw [zerosL_length, hcs, hez]
        simp only [List.length_map, Array.length_toList, hzs]
        exact Nat.mul_le_mul_right _ hnm
      · subst hez
        have h1 := zerosL_get (n := n.toNat) (z := ze) w ι per hi
        have hi1 : i < n.toNat * esz := by rw [zerosL_length] at hi; simpa [hzs] using hi
        have hi2 : i < m.toNat * j.size := by rw [hsz]; exact Nat.lt_of_lt_of_le hi1 (Nat.mul_le_mul_right _ hnm)
        simpa [hi2] using h1
      · have hroom : Room (w.alloc (.cells ((Array.range (m.toNat * j.size)).map (ze.cells[· % ze.cells.size]!)) et)) w.heap.size (0 + 0 + m.toNat * esz) :=
          ⟨_, et, (0, 0), by show (w.heap.push _)[w.heap.size]? = _; rw [Array.getElem?_push_size], by rw [hcs]; omega⟩
        exact VR.sl (per := per) (sz := esz) (off := 0) (vac_set hv (some (w.heap.size, 0))).2 hnm hroom
    · cases h
  · cases h

theorem putC_length {cs ds : List LV} {o : Nat} (h : o + ds.length ≤ cs.length) : (putC cs o ds).length = cs.length := by
  unfold putC
  split
  · simp
  · simp [putCells]; omega

theorem putC_get {cs ds : List LV} {o : Nat} (h : o + ds.length ≤ cs.length) (i : Nat) : (putC cs o ds)[i]? = if o ≤ i ∧ i < o + ds.length then ds[i - o]? else cs[i]? := by
  unfold putC
  split
  · rename_i d
    simp only [List.length_singleton] at h ⊢
    rw [List.getElem?_set]
    by_cases e : o = i
    · subst e
      simp; omega
    · rw [if_neg e, if_neg (by omega)]
  · unfold putCells
    by_cases h1 : i < o
    · rw [if_neg (by omega), List.append_assoc, List.getElem?_append_left (by simp; omega), List.getElem?_take, if_pos h1]
    · by_cases h2 : i < o + ds.length
      · rw [if_pos (by omega), List.getElem?_append_left (by simp; omega), List.getElem?_append_right (by simp; omega)]
        congr 1
        simp; omega
      · rw [if_neg (by omega), List.getElem?_append_right (by simp; omega), List.getElem?_drop]
        congr 1
        simp; omega

theorem eff_store (hst : ST cx N ι per F H a w) {t : TypeId} {y z : Operand} {dst ty pos after guard} (h : effOp (ttOf P) F H n (.store t y z) = some (x, ws)) :
    Does P cx N ι per n F (applyWs H ws) a x (execOp a.eval ⟨dst, .store t y z, ty, pos, after, guard⟩) w := by
  simp only [effOp] at h
  split at h
  · rename_i ti hh oo ds hti ey hds
    split at h
    · rename_i cs hrow
      split at h
      · rename_i hb
        simp only [Option.some.injEq, Prod.mk.injEq] at h
        obtain ⟨rfl, rfl⟩ := h
        obtain ⟨i, d, zz, hi, hd, hz, hzero, hsize, hzs, hagg, htd⟩ := ti_spec hti
        have hy := hst.fr.eval y
        rw [ey] at hy
        obtain ⟨b, o, hib, hyv⟩ := hy.ptr_inv
        have hcells := (hst.fr.eval z).cells hds
        obtain ⟨c, e2, h1, h2, h3, h4, h5⟩ := hst.rep.block (row_some hrow) hib
        have hvl : (a.eval z).cells.toList.length = ds.length := hcells.1.symm
        have hone : ∀ v ∈ (a.eval z).cells.toList, v.oneCell' = true := by
          intro v hv
          obtain ⟨k, hk, rfl⟩ := List.getElem_of_mem hv
          have hk2 : k < ds.length := by rw [← hvl]; exact hk
          have h6 := hcells.2 k hk2
          rw [List.getD_eq_getElem?_getD, List.getElem?_eq_getElem hk] at h6
          exact h6.one (List.all_eq_true.1 hb.2.2 _ (List.getElem_mem hk2))
        obtain ⟨c', hrun, hcs, hcg⟩ := run_storeCells (P := P) (b := b) (o := o + oo) (e := e2) (a.eval z).cells.toList 0 w c h3 (by rw [hvl]; omega) hone
        refine ⟨undef, setBlk w b (.cells c' e2.1 e2.2), ι, .inr ⟨?_, rfl⟩, hst.row (row_some hrow) hib h3 h1 h2 hcs (by rw [putC_length hb.2.1]; exact h4) (fun k hk => ?_), .und, fun _ _ h => h, fun _ _ => rfl⟩
        · simp only [execOp, Instr.storeAt, hyv, Instr.sureAddr, Sem.run_bind, Sem.run_pure, Result.andThen_ok, storeVar, run_sizeOf hi]
          rw [if_neg (by have := hb.1; simp at hvl; omega)]
          rw [hrun]
          simp
        · have hk2 : k < cs.length := by rw [putC_length hb.2.1] at hk; exact hk
          have hg := putC_get hb.2.1 k
          rw [List.getElem?_eq_getElem hk] at hg
          rw [hcg (o + k), hvl]
          by_cases hin : oo ≤ k ∧ k < oo + ds.length
          · rw [if_pos hin] at hg
            rw [if_pos (by omega)]
            have hk3 : k - oo < ds.length := by omega
            rw [List.getElem?_eq_getElem hk3] at hg
            rw [Option.some.inj hg]
            have := hcells.2 (k - oo) hk3
            have e1 : o + k - (o + oo + 0) = k - oo := by omega
            rw [e1]; exact this
          · rw [if_neg hin, List.getElem?_eq_getElem hk2] at hg
            rw [if_neg (by omega)]
            rw [Option.some.inj hg]
            exact h5 k hk2
      · cases h
    · cases h
  · cases h

end
end Go.Lite
