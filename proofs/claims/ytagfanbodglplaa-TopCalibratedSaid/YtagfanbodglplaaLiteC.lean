/- Lite, parts C. -/
import Derived.Test.YtagfanbodglplaaLiteB
set_option linter.unusedVariables false
set_option linter.unusedSimpArgs false

/- Lite, part C: the operations that only compute do what pureOp says. -/
namespace Go.Lite
open Go Go.RowKit
set_option linter.unusedVariables false

theorem add_plain (b o n : Nat) : (⟨b, o, none⟩ : Addr).add n = ⟨b, o + n, none⟩ := by
  unfold Addr.add
  split
  · rename_i h; subst h; rfl
  · rfl

/-- Lists of values. -/
def VL (w : World) (ι : Pl) (per : Nat → Prop) (cs : List LV) (vs : List Value) : Prop :=
  cs.length = vs.length ∧ ∀ i (h : i < cs.length), VR w per ι cs[i] (vs.getD i undef)

section
variable {w : World} {ι : Pl} {per : Nat → Prop}

theorem VR.agg_inv {cs : List LV} {v : Value} (h : VR w per ι (.agg cs) v) : ∃ vs : List Value, v = .agg vs.toArray ∧ VL w ι per cs vs := by
  cases h with
  | agg hn hv => exact ⟨_, rfl, hn, hv⟩

theorem VR.tup_inv {cs : List LV} {v : Value} (h : VR w per ι (.tup cs) v) : ∃ vs : List Value, v = .tuple vs.toArray ∧ VL w ι per cs vs := by
  cases h with
  | tup hn hv => exact ⟨_, rfl, hn, hv⟩

theorem VR.sl_inv {sz h off len : Nat} {v : Value} (hv : VR w per ι (.sl sz h off len) v) :
    (∃ b o cap, ι[h]? = some (some (b, o)) ∧ len ≤ cap ∧ Room w b (o + off + cap * sz) ∧ v = .slice (some ⟨b, o + off, none⟩) len cap) ∨ (len = 0 ∧ ∃ a, v = .slice a 0 0) := by
  cases hv with
  | sl h1 h2 h3 => exact .inl ⟨_, _, _, h1, h2, h3, rfl⟩
  | slz => exact .inr ⟨rfl, _, rfl⟩

theorem VR.ps_inv {sz len : Nat} {cs : List LV} {v : Value} (hv : VR w per ι (.ps sz len cs) v) :
    (∃ (b o cap : Nat) (vs : Nat → Value), per b ∧ cs.length = len * sz ∧ len ≤ cap ∧ (∀ i, i < cs.length → w.cell? ⟨b, o + i, none⟩ = some (vs i)) ∧ (∀ i (h : i < cs.length), VR w per [] cs[i] (vs i)) ∧
      v = .slice (some ⟨b, o, none⟩) len cap) ∨ (len = 0 ∧ cs = [] ∧ ∃ a cap, v = .slice a 0 cap) := by
  cases hv with
  | ps vs h1 h2 h3 h4 h5 => exact .inl ⟨_, _, _, vs, h1, h2, h3, h4, h5, rfl⟩
  | psz => exact .inr ⟨rfl, rfl, _, _, rfl⟩

theorem VR.pp_inv {cs : List LV} {v : Value} (hv : VR w per ι (.pp cs) v) :
    ∃ (b o : Nat) (vs : Nat → Value), per b ∧ (∀ i, i < cs.length → w.cell? ⟨b, o + i, none⟩ = some (vs i)) ∧ (∀ i (h : i < cs.length), VR w per [] cs[i] (vs i)) ∧ v = .pointer (some ⟨b, o, none⟩) := by
  cases hv with
  | pp vs h1 h2 h3 => exact ⟨_, _, vs, h1, h2, h3, rfl⟩

theorem VR.ptr_inv {h off : Nat} {v : Value} (hv : VR w per ι (.ptr h off) v) : ∃ b o, ι[h]? = some (some (b, o)) ∧ v = .pointer (some ⟨b, o + off, none⟩) := by
  cases hv with
  | ptr hi => exact ⟨_, _, hi, rfl⟩

theorem VL.get {cs : List LV} {vs : List Value} (h : VL w ι per cs vs) {i : Nat} {x : LV} (hx : cs[i]? = some x) : ∃ v, vs[i]? = some v ∧ VR w per ι x v := by
  obtain ⟨hi, rfl⟩ := List.getElem?_eq_some_iff.1 hx
  have hi' : i < vs.length := by rw [← h.1]; exact hi
  refine ⟨vs[i], by simp [hi'], ?_⟩
  have := h.2 i hi
  simpa [hi'] using this

theorem VL.nil : VL w ι per [] [] := ⟨rfl, fun i h => absurd h (by simp)⟩

theorem VL.one {x : LV} {v : Value} (h : VR w per ι x v) : VL w ι per [x] [v] :=
  ⟨rfl, fun i hi => by
    have : i = 0 := by simpa using hi
    subst this; simpa using h⟩

theorem VL.append {cs ds : List LV} {vs us : List Value} (h : VL w ι per cs vs) (k : VL w ι per ds us) : VL w ι per (cs ++ ds) (vs ++ us) := by
  refine ⟨by simp [h.1, k.1], fun i hi => ?_⟩
  by_cases hc : i < cs.length
  · have hv : i < vs.length := by rw [← h.1]; exact hc
    have := h.2 i hc
    simp only [List.getElem_append_left hc]
    simpa [List.getD_eq_getElem?_getD, List.getElem?_append_left hv] using this
  · have hc' : cs.length ≤ i := by omega
    have hi2 : i - cs.length < ds.length := by simp at hi; omega
    have := k.2 (i - cs.length) hi2
    rw [List.getElem_append_right hc']
    have hv : vs.length ≤ i := by rw [← h.1]; exact hc'
    rw [List.getD_eq_getElem?_getD, List.getElem?_append_right hv, ← h.1]
    simpa [List.getD_eq_getElem?_getD] using this

theorem VL.drop {cs : List LV} {vs : List Value} (h : VL w ι per cs vs) (n : Nat) : VL w ι per (cs.drop n) (vs.drop n) := by
  refine ⟨by simp [h.1], fun i hi => ?_⟩
  have hi2 : n + i < cs.length := by simp at hi; omega
  have := h.2 (n + i) hi2
  rw [List.getElem_drop]
  simpa [List.getD_eq_getElem?_getD] using this

theorem VL.take {cs : List LV} {vs : List Value} (h : VL w ι per cs vs) (n : Nat) : VL w ι per (cs.take n) (vs.take n) := by
  refine ⟨by simp [h.1], fun i hi => ?_⟩
  have hi2 : i < cs.length := by simp at hi; omega
  have hn : i < n := by simp at hi; omega
  have := h.2 i hi2
  rw [List.getElem_take]
  simpa [List.getD_eq_getElem?_getD, List.getElem?_take, hn] using this

theorem VL.put {cs ds : List LV} {vs us : List Value} (h : VL w ι per cs vs) (k : VL w ι per ds us) (off : Nat) : VL w ι per (putCells cs off ds) (vs.take off ++ us ++ vs.drop (off + us.length)) := by
  unfold putCells
  rw [k.1]
  exact ((h.take off).append k).append (h.drop _)

theorem VR.cells {x : LV} {v : Value} (h : VR w per ι x v) {cs : List LV} (hc : lcells x = some cs) : VL w ι per cs v.cells.toList := by
  cases h with
  | dead => cases hc
  | und => cases hc
  | tup => cases hc
  | agg hn hv => obtain rfl := Option.some.inj hc; exact ⟨hn, hv⟩
  | bool b => obtain rfl := Option.some.inj hc; exact .one (.bool b)
  | int k n => obtain rfl := Option.some.inj hc; exact .one (.int k n)
  | str s => obtain rfl := Option.some.inj hc; exact .one (.str s)
  | nilp => obtain rfl := Option.some.inj hc; exact .one .nilp
  | ptr hi => obtain rfl := Option.some.inj hc; exact .one (.ptr hi)
  | pp vs hp h1 h2 => obtain rfl := Option.some.inj hc; exact .one (.pp vs hp h1 h2)
  | nils => obtain rfl := Option.some.inj hc; exact .one .nils
  | sl h1 h2 h3 => obtain rfl := Option.some.inj hc; exact .one (.sl h1 h2 h3)
  | slz => obtain rfl := Option.some.inj hc; exact .one .slz
  | psz => obtain rfl := Option.some.inj hc; exact .one .psz
  | ps vs hp h0 h00 h1 h2 => obtain rfl := Option.some.inj hc; exact .one (.ps vs hp h0 h00 h1 h2)
  | nilf => obtain rfl := Option.some.inj hc; exact .one .nilf
  | fn h1 h2 => obtain rfl := Option.some.inj hc; rw [fnV_cells]; exact .one (.fn h1 h2)
  | yld l => obtain rfl := Option.some.inj hc; exact .one (.yld l)

theorem VL.scalars (vs : List Value) : VL w ι per (vs.map scalarLV) vs :=
  ⟨by simp, fun i hi => by
    have hi' : i < vs.length := by simpa using hi
    simp [hi']
    exact .scalar _⟩

theorem foldl_put (l : List Value) : ∀ (n off : Nat) (cells : Array Value), off + n + l.length ≤ cells.size →
    ((l.zipIdx n).foldl (fun cs (p : Value × Nat) => cs.setIfInBounds (off + p.2) p.1) cells).toList = cells.toList.take (off + n) ++ l ++ cells.toList.drop (off + n + l.length) := by
  induction l with
  | nil => intro n off cells h; simp
  | cons x r ih =>
    intro n off cells h
    simp only [List.length_cons] at h
    simp only [List.zipIdx_cons, List.foldl_cons]
    rw [ih (n + 1) off _ (by simp; omega)]
    have h1 : off + n < cells.toList.length := by simp; omega
    simp only [Array.toList_setIfInBounds]
    rw [show off + (n + 1) = (off + n) + 1 from by omega, List.take_succ_eq_append_getElem (by simpa using h1)]
    rw [List.take_set_of_le (Nat.le_refl _)]
    simp only [List.getElem_set_self, List.length_cons, List.append_assoc, List.singleton_append]
    congr 2
    rw [show off + n + 1 + r.length = off + n + (r.length + 1) from by omega]
    rw [List.drop_set_of_lt (by omega)]

theorem lfill_sound (place : Nat → Option (Nat × Nat)) (pl : Nat → Option (Nat × Nat)) (hpl : ∀ i, place i = pl i) : ∀ (parts : List (Nat × LV)) (vals : List (Nat × Value)),
    parts.length = vals.length → (∀ (i : Nat) (p : Nat × LV), parts[i]? = some p → ∃ v, vals[i]? = some (p.1, v) ∧ VR w per ι p.2 v) →
    ∀ (cells : List LV) (cvs : Array Value), VL w ι per cells cvs.toList → ∀ r, lfill place cells parts = some r →
    ∃ out, Instr.fill pl cvs vals = some out ∧ VL w ι per r out.toList := by
  intro parts
  induction parts with
  | nil =>
    intro vals hl _ cells cvs hc r h
    cases vals with
    | cons => simp at hl
    | nil => obtain rfl := Option.some.inj h; exact ⟨cvs, rfl, hc⟩
  | cons p ps ih =>
    intro vals hl hp cells cvs hc r h
    cases vals with
    | nil => simp at hl
    | cons q qs =>
      obtain ⟨i, x⟩ := p
      obtain ⟨v, hv, hxv⟩ := hp 0 (i, x) rfl
      simp only [List.getElem?_cons_zero, Option.some.injEq] at hv
      subst hv
      simp only [lfill] at h
      split at h
      · rename_i off size cs hpi hcs
        have hcv := hxv.cells hcs
        split at h
        · cases h
        · rename_i hn
          have hsz : v.cells.size = cs.length := by have := hcv.1; simpa using this.symm
          have hcl : cells.length = cvs.size := by have := hc.1; simpa using this
          have hn' : ¬ (v.cells.size ≠ size ∨ off + v.cells.size > cvs.size) := by
            rw [hsz, ← hcl]; exact hn
          simp only [Instr.fill, ← hpl, hpi]
          rw [if_neg (by simpa using hn')]
          refine ih qs (by simpa using hl) (fun j p hj => by simpa using hp (j + 1) p (by simpa using hj)) _ _ ?_ r h
          have hput := hc.put hcv off
          have hf := foldl_put v.cells.toList 0 off cvs (by simp only [not_or] at hn'; simp; omega)
          simp only [Nat.add_zero] at hf
          have e : (Array.foldl (fun cs (x : Value × Nat) => cs.setIfInBounds (off + x.2) x.1) cvs v.cells.zipIdx) = (v.cells.toList.zipIdx.foldl (fun cs (p : Value × Nat) => cs.setIfInBounds (off + p.2) p.1) cvs) := by
            rw [← Array.foldl_toList]; simp
          have e2 := congrArg Array.toList e
          rw [hf] at e2
          show VL w ι per _ (Array.foldl (fun cs (x : Value × Nat) => cs.setIfInBounds (off + x.2) x.1) cvs v.cells.zipIdx).toList
          rw [e2]
          simpa using hput
      · cases h

end

section
variable {P : Program} {w : World} {ι : Pl} {per : Nat → Prop}

theorem lpart_sound {t : TypeId} {j : TypeInfo} {d : TypeDesc} (hj : P.info? t = some j) (hd : P.underlying t = some d) {cs : List LV} {vs : List Value} (h : VL w ι per cs vs) {off : Nat} {x : LV}
    (hx : lpart (aggOf P t) j.size cs off = some x) : ∃ u, (∀ w', (part t vs.toArray off).run P w' = .ok u w') ∧ VR w per ι x u := by
  unfold lpart at hx
  unfold part
  simp only [Sem.run_bind, run_isAgg hd, Result.andThen_ok]
  split at hx
  · rename_i hagg
    split at hx
    · rename_i hl
      obtain rfl := Option.some.inj hx
      simp only [hagg, if_true]
      refine ⟨.agg (((vs.drop off).take j.size).toArray), ?_, ?_⟩
      · intro w'; simp [run_sizeOf hj, List.extract_eq_take_drop]
      · exact .agg (((h.drop off).take j.size).1) (((h.drop off).take j.size).2)
    · cases hx
  · rename_i hagg
    obtain ⟨v, hv, hr⟩ := h.get hx
    simp only [hagg]
    refine ⟨v, ?_, hr⟩
    intro w'; simp [hv]

theorem fieldsOf_spec (l : List Field) : ∀ fs, fieldsOf P l = some fs → fs.length = l.length ∧ ∀ (i : Nat) (o s : Nat) (g : Bool), fs[i]? = some (o, s, g) →
    ∃ f j d, l[i]? = some f ∧ P.info? f.type = some j ∧ P.underlying f.type = some d ∧ o = f.offset ∧ s = j.size ∧ g = aggOf P f.type := by
  induction l with
  | nil => intro fs h; obtain rfl := Option.some.inj h; exact ⟨rfl, fun i o s g hi => by simp at hi⟩
  | cons f r ih =>
    intro fs h
    simp only [fieldsOf] at h
    split at h
    · rename_i j d l hj hd hl
      obtain rfl := Option.some.inj h
      obtain ⟨h1, h2⟩ := ih l hl
      refine ⟨by simp [h1], fun i o s g hi => ?_⟩
      cases i with
      | zero =>
        simp only [List.getElem?_cons_zero, Option.some.injEq, Prod.mk.injEq] at hi
        exact ⟨f, j, d, rfl, hj, hd, hi.1.symm, hi.2.1.symm, hi.2.2.symm⟩
      | succ i => exact h2 i o s g (by simpa using hi)
    · cases h

/-- A struct's type, taken apart. -/
theorem struct_spec {t : TypeId} {fs : List (Nat × Nat × Bool)} {size : Nat} {agg : Bool} {z : List LV} (h : tiOf P t = some ⟨.struct fs, size, agg, z⟩) :
    ∃ fl, P.underlying t = some (.struct fl) ∧ fieldsOf P fl.toList = some fs := by
  obtain ⟨i, d, z', hi, hd, hz, _, _, _, _, htd⟩ := ti_spec h
  cases d <;> simp only [tdOf] at htd <;> try (first | cases htd | (split at htd <;> try cases htd) | skip)
  case struct fl =>
    cases hf : fieldsOf P fl.toList with
    | none => rw [hf] at htd; cases htd
    | some l =>
      rw [hf] at htd
      simp only [Option.map_some, Option.some.injEq, TD.struct.injEq] at htd
      subst htd
      exact ⟨fl, hd, hf⟩
  all_goals (repeat' split at htd) <;> first | cases htd | (simp at htd)

theorem slice_spec {t : TypeId} {esz eb : Nat} {ez : List LV} {size : Nat} {agg : Bool} {z : List LV} (h : tiOf P t = some ⟨.slice esz eb ez, size, agg, z⟩) :
    ∃ e j ze, P.underlying t = some (.slice e) ∧ P.info? e = some j ∧ j.size = esz ∧ j.bytes = eb ∧ j.zero = some ze ∧ ez = ze.cells.toList.map scalarLV ∧ ze.cells.size = esz ∧ 0 < esz := by
  obtain ⟨i, d, z', hi, hd, hz, _, _, _, _, htd⟩ := ti_spec h
  cases d
  case slice e =>
    simp only [tdOf] at htd
    split at htd
    · rename_i j hj
      split at htd
      · rename_i zz hzz
        split at htd
        · cases htd
        · rename_i hne
          simp only [Option.some.injEq, TD.slice.injEq] at htd
          obtain ⟨rfl, rfl, rfl⟩ := htd
          unfold zeroOf at hzz
          split at hzz
          · rename_i ze hze
            obtain rfl := Option.some.inj hzz
            simp only [not_or, ne_eq, Decidable.not_not] at hne
            refine ⟨e, j, ze, hd, hj, rfl, rfl, hze, rfl, by simpa using hne.2, by omega⟩
          · cases hzz
      · cases htd
    · cases htd
  all_goals (exfalso; simp only [tdOf] at htd; (repeat' split at htd) <;> first | cases htd | (simp at htd))

theorem arr_spec {t : TypeId} {n esz : Nat} {eagg : Bool} {size : Nat} {agg : Bool} {z : List LV} (h : tiOf P t = some ⟨.arr n esz eagg, size, agg, z⟩) :
    ∃ e j d, P.underlying t = some (.array n e) ∧ P.info? e = some j ∧ P.underlying e = some d ∧ j.size = esz ∧ eagg = aggOf P e ∧ 0 < esz := by
  obtain ⟨i, d, z', hi, hd, hz, _, _, _, _, htd⟩ := ti_spec h
  cases d
  case array m e =>
    simp only [tdOf] at htd
    split at htd
    · rename_i j dd hj hdd
      split at htd
      · cases htd
      · rename_i hne
        simp only [Option.some.injEq, TD.arr.injEq] at htd
        obtain ⟨rfl, rfl, rfl⟩ := htd
        exact ⟨e, j, dd, hd, hj, hdd, rfl, rfl, by omega⟩
    · cases htd
  all_goals (exfalso; simp only [tdOf] at htd; (repeat' split at htd) <;> first | cases htd | (simp at htd))

theorem str_spec {t : TypeId} {size : Nat} {agg : Bool} {z : List LV} (h : tiOf P t = some ⟨.str, size, agg, z⟩) : P.underlying t = some .string := by
  obtain ⟨i, d, z', hi, hd, hz, _, _, _, _, htd⟩ := ti_spec h
  cases d
  case string => exact hd
  all_goals (exfalso; simp only [tdOf] at htd; (repeat' split at htd) <;> first | cases htd | (simp at htd))

theorem int_spec {t : TypeId} {k : IntKind} {size : Nat} {agg : Bool} {z : List LV} (h : tiOf P t = some ⟨.int k, size, agg, z⟩) : P.underlying t = some (.int k) := by
  obtain ⟨i, d, z', hi, hd, hz, _, _, _, _, htd⟩ := ti_spec h
  cases d
  case int k' =>
    simp only [tdOf, Option.some.injEq, TD.int.injEq] at htd
    subst htd; exact hd
  all_goals (exfalso; simp only [tdOf] at htd; (repeat' split at htd) <;> first | cases htd | (simp at htd))

theorem bool_spec {t : TypeId} {size : Nat} {agg : Bool} {z : List LV} (h : tiOf P t = some ⟨.bool, size, agg, z⟩) : P.underlying t = some .bool := by
  obtain ⟨i, d, z', hi, hd, hz, _, _, _, _, htd⟩ := ti_spec h
  cases d
  case bool => exact hd
  all_goals (exfalso; simp only [tdOf] at htd; (repeat' split at htd) <;> first | cases htd | (simp at htd))

end
end Go.Lite
