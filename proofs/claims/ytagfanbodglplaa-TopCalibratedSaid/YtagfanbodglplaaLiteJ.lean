/- Lite, parts I J. -/
import Derived.Test.YtagfanbodglplaaLiteH
set_option linter.unusedVariables false
set_option linter.unusedSimpArgs false

/- Lite, part I: append and copy; every operation that makes or writes memory. -/
namespace Go.Lite
open Go Go.RowKit
set_option linter.unusedVariables false

section
variable {P : Program} {cx : Ctx} {N : Dim} {ι : Pl} {per : Nat → Prop} {F : Fr} {H : Hp} {a : Act} {w : World} {x : LV} {nn : Nat} {ws : List (Nat × Option (List LV))}

theorem Kept.heap {w' : World} (h : w'.heap = w.heap) (ho : w'.os = w.os) (ht : w'.tape = w.tape) (hp : w'.output = w.output) (hdr : w.drawn ≤ w'.drawn) : Kept cx.kp w w' :=
  ⟨ho, ht, hp, by rw [h]; exact Nat.le_refl _, Step.heap h, fun b o hb _ => by rw [h]; exact hb, hdr⟩

theorem zeroCells_size (z : Array Value) (n : Nat) : (Builtin.zeroCells z n).size = n * z.size := by simp [Builtin.zeroCells]

/-- append within the capacity. -/
theorem run_append_fits {t u e : TypeId} {j : TypeInfo} {d : TypeDesc} {args : Array Value} {argTypes : Array TypeId} {ty : TypeId} {m cap n : Nat} {ad : Option Addr} {v : Value} {vs : List Value} {w' : World}
    (ht : argTypes[0]? = some t) (hu : argTypes[1]? = some u) (hs : args[0]? = some (.slice ad m cap)) (hx : args[1]? = some v) (hut : P.underlying t = some (.slice e)) (hj : P.info? e = some j)
    (huu : P.underlying u = some d) (hd : ∀ k, d ≠ .int k) (hlen : (Builtin.lenOf v).run P w = .ok n w) (hcells : (Builtin.firstCells j.size n v).run P w = .ok vs.toArray w) (hfit : m + n ≤ cap)
    (hst : ∀ q, ad = some q → (storeCells (q.add (m * j.size)) vs).run P w = .ok () w') (hnone : ad = none → w' = w) :
    (Builtin.append_ argTypes ty args).run P w = .ok (.slice ad (m + n) cap) w' := by
  have hz : ((do pure ((← underlying u) matches .int _) : Sem Bool)).run P w = .ok false w := by
    simp only [Sem.run_bind, run_underlying huu, Result.andThen_ok, Sem.run_pure]
  unfold Builtin.append_
  simp only [ht, hs, hx, hu, Sem.run_bind, run_underlying hut, Result.andThen_ok, run_sizeOf hj]
  simp only [Sem.run_bind] at hz
  rw [run_underlying huu]
  simp only [Result.andThen_ok, Sem.run_pure]
  simp only [Bool.false_eq_true, if_false, Sem.run_bind, hlen, Result.andThen_ok, if_pos hfit, Bool.not_false, if_true, hcells]
  cases ad with
  | none => rw [hnone rfl]; simp
  | some q => simp only [Sem.run_bind, hst q rfl, Result.andThen_ok, Sem.run_pure]

/-- append that makes a new array. -/
theorem run_append_grows {t u e : TypeId} {j : TypeInfo} {d : TypeDesc} {z : Value} {args : Array Value} {argTypes : Array TypeId} {ty : TypeId} {m cap n : Nat} {ad : Option Addr} {v : Value} {vs old : List Value}
    (ht : argTypes[0]? = some t) (hu : argTypes[1]? = some u) (hs : args[0]? = some (.slice ad m cap)) (hx : args[1]? = some v) (hut : P.underlying t = some (.slice e)) (hj : P.info? e = some j) (hz : j.zero = some z)
    (hzs : z.cells.size = j.size) (huu : P.underlying u = some d) (hd : ∀ k, d ≠ .int k) (hlen : (Builtin.lenOf v).run P w = .ok n w) (hcells : ∀ w', Ext w w' → (Builtin.firstCells j.size n v).run P w' = .ok vs.toArray w')
    (hold : ∀ w', Ext w w' → (Builtin.firstCells j.size m (.slice ad m cap)).run P w' = .ok old.toArray w') (hfit : ¬ m + n ≤ cap) (hcap : (m + n) * j.bytes ≤ 140737488355328) (hbig : m + n ≤ 9223372036854775807) (hol : old.length = m * j.size)
    (hvl : vs.length = n * j.size) :
    ∃ (w1 : World) (nc : Nat) (c : Array Value), w1.heap = w.heap ∧ w1.os = w.os ∧ w1.tape = w.tape ∧ w1.output = w.output ∧ w.drawn ≤ w1.drawn ∧ m + n ≤ nc ∧ c.size = nc * j.size ∧ (∀ i, i < old.length + vs.length → c.getD i undef = (old ++ vs).getD i undef) ∧
      (Builtin.append_ argTypes ty args).run P w = .ok (.slice (some ⟨w.heap.size, 0, none⟩) (m + n) nc) (w1.alloc (.cells c e)) := by
  have hnf : (Question.appendCap (m + n) cap e).forced = false := rfl
  let nc := (Question.appendCap (m + n) cap e).cut (w.tape w.drawn (.appendCap (m + n) cap e))
  have hnc : m + n ≤ nc := by show _ ≤ m + n + _; omega
  let w1 : World := { w with drawn := w.drawn + 1 }
  refine ⟨w1, nc, old.toArray ++ vs.toArray ++ Builtin.zeroCells z.cells (nc - (m + n)), rfl, rfl, rfl, rfl, Nat.le_succ _, hnc, ?_, fun i hi => ?_, ?_⟩
  · simp only [Array.size_append, List.size_toArray, zeroCells_size, hzs, hol, hvl]
    rw [← Nat.add_mul, ← Nat.add_mul]
    congr 1; omega
  · simp only [Array.getD_eq_getD_getElem?, List.getD_eq_getElem?_getD]
    rw [Array.getElem?_append_left (by simp; omega)]
    congr 1
    simp
  · have hzz : (match d with | .int k => true | _ => false) = false := by
      cases d <;> first | rfl | exact absurd rfl (hd _)
    have hcap2 : ¬ (Builtin.nextslicecap (m + n) cap * j.bytes > 2 ^ 48) := by
      have := nextslicecap_le (need := m + n) (old := cap) (by omega)
      have h2 : Builtin.nextslicecap (m + n) cap * j.bytes ≤ 2 * (m + n) * j.bytes := Nat.mul_le_mul_right _ this
      rw [Nat.mul_assoc] at h2
      omega
    have hmax : ¬ (((m + n : Nat) : Int) > IntKind.i64.max ∧ (false = true ∨ j.bytes = 0)) := by
      have : IntKind.i64.max = 9223372036854775807 := rfl
      rw [this]; omega
    unfold Builtin.append_
    simp only [ht, hs, hx, hu, Sem.run_bind, run_underlying hut, Result.andThen_ok, run_sizeOf hj]
    rw [run_underlying huu]
    simp only [Result.andThen_ok, Sem.run_pure, Bool.false_eq_true, if_false, Sem.run_bind, hlen, if_neg hfit, run_typeInfo hj]
    simp only [Bool.false_eq_true, false_or] at hmax
    rw [if_neg (by simpa using hmax)]
    have hext : Ext w w1 := fun _ _ => rfl
    simp only [Sem.run_bind, run_typeInfo hj, Result.andThen_ok, if_neg hcap2, run_choose, hnf, Bool.false_eq_true, if_false, run_askRoom]
    rw [show ({ w with drawn := w.drawn + 1 } : World) = w1 from rfl, hold w1 hext]
    simp only [Result.andThen_ok, Bool.not_false, if_true, hcells w1 hext, run_zeroValue hj hz, newRow, Sem.run_bind, run_newObj, Sem.run_pure]
    rfl

theorem eff_append (hst : ST cx N ι per F H a w) (hv : Vac N ι H nn) {args argTypes} {dst ty pos after guard} (h : effOp (ttOf P) F H nn (.call ⟨.builtin .append, args, argTypes⟩) = some (x, ws)) :
    Does P cx N ι per nn F (applyWs H ws) a x (execOp a.eval ⟨dst, .call ⟨.builtin .append, args, argTypes⟩, ty, pos, after, guard⟩) w := by
  simp only [effOp] at h
  split at h
  · rename_i t u y z ht hu hy hz
    split at h
    · rename_i esz eb ez _ _ _ ud _ _ _ htt htu
      obtain ⟨et, j, ze, hut, hj, hsz, hby, hze, hez, hzs, hpos⟩ := slice_spec htt
      obtain ⟨iu, du, zu, hiu, hdu, _, _, _, _, _, htd⟩ := ti_spec htu
      have hd : (∀ k, ud ≠ .int k) → ∀ k, du ≠ .int k := by
        intro hne k e
        subst e
        simp only [tdOf, Option.some.injEq] at htd
        exact hne k htd.symm
      have hargs1 : (args.map a.eval)[0]? = some (a.eval y) := by simp [hy]
      have hargs2 : (args.map a.eval)[1]? = some (a.eval z) := by simp [hz]
      have hexec : ∀ r w', (Builtin.append_ argTypes ty (args.map a.eval)).run P w = .ok r w' →
          (execOp a.eval ⟨dst, .call ⟨.builtin .append, args, argTypes⟩, ty, pos, after, guard⟩).run P w = .ok (.value r) w' := by
        intro r w' hr
        simp only [execOp, resolve, invoke, builtin, Sem.run_bind, Sem.run_pure, Result.andThen_ok, hr]
      have hyv := hst.fr.eval y
      have hzv := hst.fr.eval z
      split at h
      · cases h
      · rename_i hnint
        have hd' := hd (fun k e => hnint k e)
        split at h
        · rename_i n xs hsrc ey
          rw [ey] at hyv
          obtain ⟨vs, hvl, hxl, hlen, hfc⟩ := src_sound (P := P) hst hzv hsrc
          have hvsl : vs.length = n * esz := by rw [← hvl.1]; exact hxl
          generalize hyy : a.eval y = yv at hyv hargs1
          cases hyv
          split at h
          · rename_i hcap
            simp only [Option.some.injEq, Prod.mk.injEq] at h
            obtain ⟨rfl, rfl⟩ := h
            by_cases hn0 : n = 0
            · subst hn0
              have hx0 : xs = [] := List.eq_nil_of_length_eq_zero (by simpa using hxl)
              have hv0 : vs = [] := List.eq_nil_of_length_eq_zero (by simpa using hvsl)
              subst hx0 hv0
              have hrun := run_append_fits (P := P) (w := w) (ty := ty) (w' := w) (m := 0) (cap := 0) (n := 0) (vs := []) ht hu hargs1 hargs2 hut hj hdu hd' (hlen w) (by have := hfc w 0 (Ext.refl w) (Nat.le_refl _); rw [hsz]; simpa using this)
                (Nat.le_refl _) (fun q e => by cases e) (fun _ => rfl)
              refine ⟨_, _, _, .inl (hexec _ _ hrun), hst.place (k := none) (x := none) hv (Step.refl _ _) (Kept.refl _ _) (.inl ⟨rfl, rfl⟩) (fun _ _ _ _ _ _ _ => rfl), .slz, (vac_set hv _).1, set_oth _ _⟩
            · obtain ⟨w1, nc, c, e1, e2, e3, e4, e5, hnc, hcs, hcg, hrun⟩ := run_append_grows (P := P) (w := w) (ty := ty) (m := 0) (cap := 0) (ad := none) (vs := vs) (old := []) ht hu hargs1 hargs2 hut hj hze (by rw [hzs, hsz]) hdu hd' (hlen w)
                (fun w' hw' => by rw [hsz]; have := hfc w' n hw' (Nat.le_refl _); rw [← hvsl, List.take_length] at this; exact this) (fun w' _ => by simp [Builtin.firstCells]) (by omega) (by rw [hby]; simpa using hcap.1) (by omega) (by simp) (by rw [hsz]; exact hvsl)
              have hst1 := hst.same e1 e2 e3 e4 e5
              have hcsz : xs.length ≤ c.size := by rw [hcs, hsz, hxl]; exact Nat.mul_le_mul_right _ (by omega)
              have hal := hst1.alloc (c := c) (e := et) (cs := xs) hv hcsz (fun i hi => by
                have h1 := hvl.2 i hi
                rw [hcg i (by rw [← hvl.1]; simp; exact hi)]
                exact h1.step (Step.heap e1) (fun _ h => h) (fun _ _ h => h))
              refine ⟨_, _, _, .inl (hexec _ _ hrun), hal, ?_, (vac_set hv _).1, set_oth _ _⟩
              have hroom : Room (w1.alloc (.cells c et)) w1.heap.size (0 + 0 + nc * esz) := ⟨c, et, (0, 0), by show (w1.heap.push _)[w1.heap.size]? = _; rw [Array.getElem?_push_size], by rw [hcs, hsz]; omega⟩
              have := VR.sl (w := w1.alloc (.cells c et)) (per := per) (sz := esz) (off := 0) (len := n) (cap := nc) (vac_set hv (some (w1.heap.size, 0))).2 (by omega) hroom
              rw [Nat.zero_add, ← e1]
              exact this
          · cases h
        · rename_i n xs sz hh oo m hsrc ey
          rw [ey] at hyv
          obtain ⟨vs, hvl, hxl, hlen, hfc⟩ := src_sound (P := P) hst hzv hsrc
          have hvsl : vs.length = n * esz := by rw [← hvl.1]; exact hxl
          split at h
          · rename_i cs hrow
            split at h
            · rename_i hb
              simp only [Option.some.injEq, Prod.mk.injEq] at h
              obtain ⟨rfl, rfl⟩ := h
              obtain ⟨rfl, hle, hcap, hbig, hsol⟩ := hb
              have hH := row_some hrow
              have hlt := lt_row hH
              have hιl : hh < ι.length := by rw [hst.rep.len]; exact hlt
              generalize hyy : a.eval y = yv at hyv hargs1
              have hsrcy : srcCells H sz (.sl sz hh oo m) = some (m, (cs.drop oo).take (m * sz)) := by simp [srcCells, hrow, hle]
              obtain ⟨vo, hvo, hol, hleno, hfo⟩ := src_sound (P := P) hst hyv hsrcy
              have hvol : vo.length = m * sz := by rw [← hvo.1]; exact hol
              have hall := hvo.append hvl
              have hol2 : (((cs.drop oo).take (m * sz)) ++ xs).length = (m + n) * sz := by rw [List.length_append, hol, hxl, Nat.add_mul]
              -- a new array
              have grows : ∀ ad cap, yv = .slice ad m cap → ¬ m + n ≤ cap → Does P cx N ι per nn F ((H.set hh none).set nn (some (((cs.drop oo).take (m * sz)) ++ xs))) a (.sl sz nn 0 (m + n))
                  (execOp a.eval ⟨dst, .call ⟨.builtin .append, args, argTypes⟩, ty, pos, after, guard⟩) w := by
                intro ad cap hyv2 hnf
                subst hyv2
                obtain ⟨w1, nc, c, e1, e2, e3, e4, e5, hnc, hcs, hcg, hrun⟩ := run_append_grows (P := P) (w := w) (ty := ty) (m := m) (cap := cap) (ad := ad) (vs := vs) (old := vo) ht hu hargs1 hargs2 hut hj hze (by rw [hzs, hsz]) hdu hd' (hlen w)
                  (fun w' hw' => by rw [hsz]; have := hfc w' n hw' (Nat.le_refl _); rw [← hvsl, List.take_length] at this; exact this) (fun w' hw' => by rw [hsz]; have := hfo w' m hw' (Nat.le_refl _); rw [← hvol, List.take_length] at this; exact this)
                  hnf (by rw [hby]; exact hcap) (by omega) (by rw [hsz]; exact hvol) (by rw [hsz]; exact hvsl)
                have hst1 := hst.same e1 e2 e3 e4 e5
                have hstep : Step per w (w1.alloc (.cells c et)) := (Step.heap e1).trans (Step.alloc hst1.rep.perlt _)
                have hbel : Kept cx.kp w (w1.alloc (.cells c et)) := (Kept.heap e1 e2 e3 e4 e5).trans (Kept.alloc hst1.bs _)
                have hnew : (w1.alloc (.cells c et)).heap[w.heap.size]? = some (.cells c et (0, 0)) := by
                  rw [← e1]; show (w1.heap.push _)[w1.heap.size]? = _; rw [Array.getElem?_push_size]
                have hcsz : (m + n) * sz ≤ c.size := by rw [hcs, hsz]; exact Nat.mul_le_mul_right _ (by omega)
                refine ⟨_, _, _, .inl (hexec _ _ hrun), hst.place (k := some hh) (x := some (w.heap.size, 0)) hv hstep hbel (.inr ⟨w.heap.size, 0, c, (et, 0, 0), rfl, fun hp => absurd (hst.bs _ hp) (by omega), fun hp => absurd (hst.rep.perlt _ hp) (by omega), .of hnew, by rw [hol2, Nat.zero_add]; exact hcsz, fun i hi => ?_, fun k ds p q hk hkH hkι => ?_⟩) (fun k ds p q hk hkH hkι => ?_), ?_, (vac_set hv _).1, set_oth _ _⟩
                · have h1 := hall.2 i hi
                  rw [Nat.zero_add, hcg i (by rw [← hvo.1, ← hvl.1]; simpa using hi)]
                  exact h1.step hstep (fun _ h => h) (fun _ _ h => h)
                · obtain ⟨c3, e3, h1, h2, h3, h4, h5⟩ := hst.rep.block hkH hkι
                  have := lt_of_get h3.1
                  omega
                · obtain ⟨c3, e3, h1, h2, h3, h4, h5⟩ := hst.rep.block hkH hkι
                  have := lt_of_get h3.1
                  rw [Below.heap_alloc _ _ _ (by rw [e1]; exact this), e1]
                · have hroom : Room (w1.alloc (.cells c et)) w.heap.size (0 + 0 + nc * sz) := ⟨c, et, (0, 0), hnew, by rw [hcs, hsz]; omega⟩
                  exact VR.sl (per := per) (sz := sz) (off := 0) (vac_set hv (some (w.heap.size, 0))).2 hnc hroom
              rcases hyv.sl_inv with ⟨b, o, cap, hib, hml, hr, hyv2⟩ | ⟨hm0, aa, hyv2⟩
              · by_cases hfit : m + n ≤ cap
                · obtain ⟨c, e2, h1, h2, h3, h4, h5⟩ := hst.rep.block hH hib
                  obtain ⟨c3, e3, fz3, hr1, hr2⟩ := hr
                  rw [h3.1] at hr1
                  simp only [Option.some.injEq, Obj.cells.injEq] at hr1
                  obtain ⟨rfl, rfl, _⟩ := hr1
                  have hmn : m * sz + n * sz ≤ cap * sz := by rw [← Nat.add_mul]; exact Nat.mul_le_mul_right _ hfit
                  have hone : ∀ v ∈ vs, v.oneCell' = true := by
                    intro v hv
                    obtain ⟨k, hk, rfl⟩ := List.getElem_of_mem hv
                    have hk2 : k < xs.length := by rw [hvl.1]; exact hk
                    have h6 := hvl.2 k hk2
                    rw [List.getD_eq_getElem?_getD, List.getElem?_eq_getElem hk] at h6
                    exact h6.one (List.all_eq_true.1 hsol _ (List.getElem_mem hk2))
                  obtain ⟨c', hrun, hcs, hcg⟩ := run_storeCells (P := P) (b := b) (o := o + oo + m * sz) (e := e2) vs 0 w c h3 (by rw [hvsl]; omega) hone
                  subst hyv2
                  have hrun2 := run_append_fits (P := P) (w := w) (ty := ty) (w' := setBlk w b (.cells c' e2.1 e2.2)) ht hu hargs1 hargs2 hut hj hdu hd' (hlen w)
                    (by rw [hsz]; have := hfc w n (Ext.refl w) (Nat.le_refl _); rw [← hvsl, List.take_length] at this; exact this) hfit (fun q hq => by cases hq; rw [hsz, add_plain]; exact hrun) (fun e => by cases e)
                  have hstep := Step.blk (per := per) h3.1 h2 hcs
                  have hblt := lt_of_get h3.1
                  have hbel : Kept cx.kp w (setBlk w b (.cells c' e2.1 e2.2)) := ⟨rfl, rfl, rfl, by rw [setBlk_size]; exact Nat.le_refl _, Step.blk h3.1 h1 hcs, fun k o' hk ho => by rw [setBlk_get, if_neg (fun e' => by subst e'; rw [h3.1] at hk; cases hk; cases ho)]; exact hk, Nat.le_refl _⟩
                  have hnew : Live (setBlk w b (.cells c' e2.1 e2.2)) b c' e2 := ⟨by rw [setBlk_get]; simp [hblt], by rw [hcs]; exact h3.2⟩
                  have hfin : o + oo + (m + n) * sz ≤ c'.size := by rw [hcs, Nat.add_mul]; omega
                  refine ⟨_, _, _, .inl (hexec _ _ hrun2), hst.place (k := some hh) (x := some (b, o + oo)) hv hstep hbel (.inr ⟨b, o + oo, c', e2, rfl, h1, h2, hnew, by rw [hol2]; exact hfin, fun i hi => ?_, fun k ds p q hk hkH hkι => fun e => hk (congrArg some (hst.rep.inj k hh ds cs p q b o hkH hH hkι hib e).symm)⟩) (fun k ds p q hk hkH hkι => ?_), ?_, (vac_set hv _).1, set_oth _ _⟩
                  · rw [hcg (o + oo + i)]
                    by_cases him : i < m * sz
                    · rw [if_neg (by omega), List.getElem_append_left (by rw [hol]; exact him), List.getElem_take, List.getElem_drop]
                      have := h5 (oo + i) (by omega)
                      rw [← Nat.add_assoc] at this
                      exact this.step hstep (fun _ h => h) (fun _ _ h => h)
                    · have hix : i - m * sz < xs.length := by rw [List.length_append, hol] at hi; omega
                      rw [if_pos (by rw [← hvl.1]; omega), List.getElem_append_right (by rw [hol]; omega)]
                      have h6 := hvl.2 (i - m * sz) hix
                      have e5 : o + oo + i - (o + oo + m * sz + 0) = i - m * sz := by omega
                      rw [e5]
                      simp only [hol]
                      exact h6.step hstep (fun _ h => h) (fun _ _ h => h)
                  · rw [setBlk_get, if_neg]
                    intro e
                    exact hk (congrArg some (hst.rep.inj k hh ds cs p q b o hkH hH hkι hib e.symm).symm)
                  · have hroom : Room (setBlk w b (.cells c' e2.1 e2.2)) b (o + oo + 0 + cap * sz) := ⟨c', e2.1, e2.2, hnew.1, by rw [hcs]; omega⟩
                    exact VR.sl (per := per) (sz := sz) (off := 0) (vac_set hv (some (b, o + oo))).2 hfit hroom
                · exact grows _ _ hyv2 hfit
              · subst hm0
                by_cases hn0 : n = 0
                · subst hn0
                  have hx0 : xs = [] := List.eq_nil_of_length_eq_zero (by simpa using hxl)
                  have hv0 : vs = [] := List.eq_nil_of_length_eq_zero (by simpa using hvsl)
                  subst hx0 hv0 hyv2
                  have hrun2 := run_append_fits (P := P) (w := w) (ty := ty) (w' := w) (vs := []) ht hu hargs1 hargs2 hut hj hdu hd' (hlen w)
                    (by have := hfc w 0 (Ext.refl w) (Nat.le_refl _); rw [hsz]; simpa using this) (Nat.le_refl _) (fun q hq => by simp [storeCells]) (fun _ => rfl)
                  refine ⟨_, _, _, .inl (hexec _ _ hrun2), hst.place (k := some hh) (x := none) hv (Step.refl _ _) (Kept.refl _ _) (.inl ⟨rfl, by simp⟩) (fun _ _ _ _ _ _ _ => rfl), .slz, (vac_set hv _).1, set_oth _ _⟩
                · exact grows _ _ hyv2 (by omega)
            · cases h
          · cases h
        · cases h
    · cases h
  · cases h

theorem putCells_length {cs ds : List LV} {o : Nat} (h : o + ds.length ≤ cs.length) : (putCells cs o ds).length = cs.length := by
  simp [putCells]; omega

theorem putCells_get {cs ds : List LV} {o : Nat} (h : o + ds.length ≤ cs.length) (i : Nat) : (putCells cs o ds)[i]? = if o ≤ i ∧ i < o + ds.length then ds[i - o]? else cs[i]? := by
  unfold putCells
  by_cases h1 : i < o
  · rw [if_neg (by omega), List.append_assoc, List.getElem?_append_left (by simp; omega), List.getElem?_take, if_pos h1]
  · by_cases h2 : i < o + ds.length
    · rw [if_pos (by omega), List.getElem?_append_left (by simp; omega), List.getElem?_append_right (by simp; omega)]
      congr 1
      simp; omega
    · rw [if_neg (by omega), List.getElem?_append_right (by simp; omega), List.getElem?_drop]
      congr 1
      simp; omega

theorem eff_copy (hst : ST cx N ι per F H a w) {args argTypes} {dst ty pos after guard} (h : effOp (ttOf P) F H nn (.call ⟨.builtin .copy, args, argTypes⟩) = some (x, ws)) :
    Does P cx N ι per nn F (applyWs H ws) a x (execOp a.eval ⟨dst, .call ⟨.builtin .copy, args, argTypes⟩, ty, pos, after, guard⟩) w := by
  simp only [effOp] at h
  split at h
  · rename_i t y z ht hy hz
    split at h
    · rename_i esz eb ez _ _ _ htt
      obtain ⟨et, j, ze, hut, hj, hsz, hby, hze, hez, hzs, hpos⟩ := slice_spec htt
      have hargs1 : (args.map a.eval)[0]? = some (a.eval y) := by simp [hy]
      have hargs2 : (args.map a.eval)[1]? = some (a.eval z) := by simp [hz]
      have hyv := hst.fr.eval y
      have hzv := hst.fr.eval z
      split at h
      · rename_i sz hh oo m n xs ey hsrc
        rw [ey] at hyv
        split at h
        · rename_i cs hrow
          split at h
          · rename_i hb
            simp only [Option.some.injEq, Prod.mk.injEq] at h
            obtain ⟨rfl, rfl⟩ := h
            obtain ⟨rfl, hle, hsol⟩ := hb
            obtain ⟨vs, hvl, hxl, hlen, hfc⟩ := src_sound (P := P) hst hzv hsrc
            have hvsl : vs.length = n * sz := by rw [← hvl.1]; exact hxl
            have hH := row_some hrow
            have hkn : Nat.min n m ≤ n := Nat.min_le_left n m
            have hkm : Nat.min n m ≤ m := Nat.min_le_right n m
            have hkn2 : Nat.min n m * sz ≤ n * sz := Nat.mul_le_mul_right _ hkn
            have hkm2 : Nat.min n m * sz ≤ m * sz := Nat.mul_le_mul_right _ hkm
            have hxtl : (xs.take (Nat.min n m * sz)).length = Nat.min n m * sz := by simp; omega
            have hvtl : (vs.take (Nat.min n m * sz)).length = Nat.min n m * sz := by simp; omega
            generalize hyy : a.eval y = yv at hyv hargs1
            have hfirst := hfc w (Nat.min n m) (Ext.refl w) hkn
            have hbound : oo + (xs.take (Nat.min n m * sz)).length ≤ cs.length := by rw [hxtl]; omega
            rcases hyv.sl_inv with ⟨b, o, cap, hib, hml, hr, hyv2⟩ | ⟨hm0, aa, hyv2⟩
            · obtain ⟨c, e2, h1, h2, h3, h4, h5⟩ := hst.rep.block hH hib
              have hone : ∀ v ∈ vs.take (Nat.min n m * sz), v.oneCell' = true := by
                intro v hv
                obtain ⟨k, hk, rfl⟩ := List.getElem_of_mem (List.mem_of_mem_take hv)
                have hk2 : k < xs.length := by rw [hvl.1]; exact hk
                have h6 := hvl.2 k hk2
                rw [List.getD_eq_getElem?_getD, List.getElem?_eq_getElem hk] at h6
                exact h6.one (List.all_eq_true.1 hsol _ (List.getElem_mem hk2))
              obtain ⟨c', hrun, hcs, hcg⟩ := run_storeCells (P := P) (b := b) (o := o + oo) (e := e2) (vs.take (Nat.min n m * sz)) 0 w c h3 (by rw [hvtl]; omega) hone
              have hrow2 := hst.row (cs' := putCells cs oo (xs.take (Nat.min n m * sz))) hH hib h3 h1 h2 hcs (by rw [putCells_length hbound]; exact h4) (fun k hk => by
                have hk2 : k < cs.length := by rw [putCells_length hbound] at hk; exact hk
                have hg := putCells_get hbound k
                rw [List.getElem?_eq_getElem hk] at hg
                rw [hcg (o + k), hvtl]
                rw [hxtl] at hg
                by_cases hin : oo ≤ k ∧ k < oo + Nat.min n m * sz
                · rw [if_pos hin] at hg
                  rw [if_pos (by omega)]
                  have hk3 : k - oo < (xs.take (Nat.min n m * sz)).length := by rw [hxtl]; omega
                  rw [List.getElem?_eq_getElem hk3] at hg
                  rw [Option.some.inj hg]
                  have := (hvl.take (Nat.min n m * sz)).2 (k - oo) hk3
                  have e1 : o + k - (o + oo + 0) = k - oo := by omega
                  rw [e1]; exact this
                · rw [if_neg hin, List.getElem?_eq_getElem hk2] at hg
                  rw [if_neg (by omega)]
                  rw [Option.some.inj hg]
                  exact h5 k hk2)
              subst hyv2
              refine ⟨.int .i64 (Nat.min n m), _, ι, .inl ?_, hrow2, .int _ _, fun _ _ h => h, fun _ _ => rfl⟩
              simp only [execOp, resolve, invoke, builtin, Builtin.copy_, ht, hargs1, hargs2, Sem.run_bind, Sem.run_pure, Result.andThen_ok, run_underlying hut, hlen w, run_sizeOf hj, hsz, hfirst, hrun, goInt]
            · subst hm0 hyv2
              have hmin : Nat.min n 0 = 0 := Nat.min_eq_right (Nat.zero_le _)
              rw [hmin] at hfirst
              simp only [Nat.zero_mul, List.take_zero] at hfirst
              have hput : putCells cs oo (xs.take (Nat.min n 0 * sz)) = cs := by simp [putCells, hmin]
              have hHH : H.set hh (some (putCells cs oo (xs.take (Nat.min n 0 * sz)))) = H := by
                rw [hput]
                apply List.ext_getElem?
                intro k
                rw [List.getElem?_set]
                split
                · rename_i e; subst e; rw [if_pos (lt_row hH)]; exact hH.symm
                · rfl
              simp only [applyWs]
              rw [hHH]
              refine ⟨.int .i64 (Nat.min n 0), w, ι, .inl ?_, hst, .int _ _, fun _ _ h => h, fun _ _ => rfl⟩
              cases aa <;> simp [execOp, resolve, invoke, builtin, Builtin.copy_, ht, hargs1, hargs2, run_underlying hut, hlen w, run_sizeOf hj, hsz, hfirst, hmin, goInt, storeCells]
          · cases h
        · cases h
      · cases h
    · cases h
  · cases h

theorem zerosL_solid {n : Nat} {zs : List LV} (h : zs.all solid = true) : (zerosL n zs).all solid = true := by
  rw [List.all_eq_true] at h ⊢
  intro x hx
  obtain ⟨i, hi, rfl⟩ := List.getElem_of_mem hx
  have hi2 : i < n * zs.length := by rw [zerosL_length] at hi; exact hi
  have h1 := zerosL_get? hi2
  rw [List.getElem?_eq_getElem hi] at h1
  have hm : i % zs.length < zs.length := Nat.mod_lt _ (by rcases Nat.eq_zero_or_pos zs.length with h | h
                                                          · rw [h] at hi2; simp at hi2
                                                          · exact h)
  rw [List.getElem?_eq_getElem hm] at h1
  rw [Option.some.inj h1]
  exact h _ (List.getElem_mem hm)

theorem eff_clear (hst : ST cx N ι per F H a w) {args argTypes} {dst ty pos after guard} (h : effOp (ttOf P) F H nn (.call ⟨.builtin .clear, args, argTypes⟩) = some (x, ws)) :
    Does P cx N ι per nn F (applyWs H ws) a x (execOp a.eval ⟨dst, .call ⟨.builtin .clear, args, argTypes⟩, ty, pos, after, guard⟩) w := by
  simp only [effOp] at h
  split at h
  · rename_i t y ht hy
    split at h
    · rename_i esz eb ez _ _ _ sz hh oo m htt ey
      obtain ⟨et, j, ze, hut, hj, hsz, hby, hze, hez, hzs, hpos⟩ := slice_spec htt
      have hargs1 : (args.map a.eval)[0]? = some (a.eval y) := by simp [hy]
      have hyv := hst.fr.eval y
      rw [ey] at hyv
      split at h
      · rename_i cs hrow
        split at h
        · rename_i hb
          simp only [Option.some.injEq, Prod.mk.injEq] at h
          obtain ⟨rfl, rfl⟩ := h
          obtain ⟨rfl, hle, hsol⟩ := hb
          have hH := row_some hrow
          have ezl : ez.length = sz := by rw [hez]; simp [hzs]
          have hxl : (zerosL m ez).length = m * sz := by rw [zerosL_length, ezl]
          obtain ⟨vs, hvs⟩ : ∃ vs, vs = (Builtin.zeroCells ze.cells m).toList := ⟨_, rfl⟩
          have hvsl : vs.length = m * sz := by rw [hvs]; simp [zeroCells_size, hzs]
          have hvl : VL w ι per (zerosL m ez) vs := by
            refine ⟨by rw [hxl, hvsl], fun i hi => ?_⟩
            subst hez
            have h1 := zerosL_get (n := m) (z := ze) w ι per hi
            have hi2 : i < m * ze.cells.size := by rw [hxl] at hi; rw [hzs]; exact hi
            have e1 : vs.getD i undef = ze.cells[i % ze.cells.size]! := by
              rw [hvs]; simp [Builtin.zeroCells, hi2]
            rw [e1]; exact h1
          generalize hyy : a.eval y = yv at hyv hargs1
          have hbound : oo + (zerosL m ez).length ≤ cs.length := by rw [hxl]; omega
          rcases hyv.sl_inv with ⟨b, o, cap, hib, hml, hr, hyv2⟩ | ⟨hm0, aa, hyv2⟩
          · obtain ⟨c, e2, h1, h2, h3, h4, h5⟩ := hst.rep.block hH hib
            have hsol2 := zerosL_solid (n := m) hsol
            have hone : ∀ v ∈ vs, v.oneCell' = true := by
              intro v hv
              obtain ⟨k, hk, rfl⟩ := List.getElem_of_mem hv
              have hk2 : k < (zerosL m ez).length := by rw [hvl.1]; exact hk
              have h6 := hvl.2 k hk2
              rw [List.getD_eq_getElem?_getD, List.getElem?_eq_getElem hk] at h6
              exact h6.one (List.all_eq_true.1 hsol2 _ (List.getElem_mem hk2))
            obtain ⟨c', hrun, hcs, hcg⟩ := run_storeCells (P := P) (b := b) (o := o + oo) (e := e2) vs 0 w c h3 (by rw [hvsl]; omega) hone
            have hrow2 := hst.row (cs' := putCells cs oo (zerosL m ez)) hH hib h3 h1 h2 hcs (by rw [putCells_length hbound]; exact h4) (fun k hk => by
              have hk2 : k < cs.length := by rw [putCells_length hbound] at hk; exact hk
              have hg := putCells_get hbound k
              rw [List.getElem?_eq_getElem hk] at hg
              rw [hcg (o + k), hvsl]
              rw [hxl] at hg
              by_cases hin : oo ≤ k ∧ k < oo + m * sz
              · rw [if_pos hin] at hg
                rw [if_pos (by omega)]
                have hk3 : k - oo < (zerosL m ez).length := by rw [hxl]; omega
                rw [List.getElem?_eq_getElem hk3] at hg
                rw [Option.some.inj hg]
                have := hvl.2 (k - oo) hk3
                have e1 : o + k - (o + oo + 0) = k - oo := by omega
                rw [e1]; exact this
              · rw [if_neg hin, List.getElem?_eq_getElem hk2] at hg
                rw [if_neg (by omega)]
                rw [Option.some.inj hg]
                exact h5 k hk2)
            subst hyv2
            refine ⟨.tuple #[], _, ι, .inl ?_, hrow2, .tup (cs := []) (vs := []) rfl (fun i hi => by simp at hi), fun _ _ h => h, fun _ _ => rfl⟩
            rcases Nat.eq_zero_or_pos m with hm0 | hm0
            · subst hm0
              have hv0 : vs = [] := List.eq_nil_of_length_eq_zero (by rw [hvsl]; simp)
              rw [hv0] at hrun
              simp only [storeCells, Sem.run_pure, Result.ok.injEq, true_and] at hrun
              simp only [execOp, resolve, invoke, builtin, Builtin.clear_, ht, hargs1, Sem.run_bind, Sem.run_pure, Result.andThen_ok, run_underlying hut, Result.ok.injEq, true_and]
              exact hrun
            · obtain ⟨m', rfl⟩ : ∃ m', m = m' + 1 := ⟨m - 1, by omega⟩
              simp only [execOp, resolve, invoke, builtin, Builtin.clear_, ht, hargs1, Sem.run_bind, Sem.run_pure, Result.andThen_ok, run_underlying hut, run_zeroValue hj hze, ← hvs, hrun]
          · subst hm0 hyv2
            have hput : putCells cs oo (zerosL 0 ez) = cs := by
              have : zerosL 0 ez = [] := List.eq_nil_of_length_eq_zero (by rw [hxl]; simp)
              rw [this]; simp [putCells]
            have hHH : H.set hh (some (putCells cs oo (zerosL 0 ez))) = H := by
              rw [hput]
              apply List.ext_getElem?
              intro k
              rw [List.getElem?_set]
              split
              · rename_i e; subst e; rw [if_pos (lt_row hH)]; exact hH.symm
              · rfl
            simp only [applyWs]
            rw [hHH]
            refine ⟨.tuple #[], w, ι, .inl ?_, hst, .tup (cs := []) (vs := []) rfl (fun i hi => by simp at hi), fun _ _ h => h, fun _ _ => rfl⟩
            cases aa <;> simp [execOp, resolve, invoke, builtin, Builtin.clear_, ht, hargs1, run_underlying hut]
        · cases h
      · cases h
    · cases h
  · cases h

theorem eff_sound (hst : ST cx N ι per F H a w) {o : Oper} (hv : makes o.op = true → Vac N ι H nn) (h : effOp (ttOf P) F H nn o.op = some (x, ws)) : Does P cx N ι per nn F (applyWs H ws) a x (execOp a.eval o) w := by
  obtain ⟨dst, op, ty, pos, after, guard⟩ := o
  cases op with
  | alloc t => exact eff_alloc hst (hv rfl) h
  | box t y => exact eff_box hst (hv rfl) h
  | buildSlice t len parts => exact eff_buildSlice hst (hv rfl) h
  | store t y z => exact eff_store hst h
  | makeSlice t l c => exact eff_makeSlice hst (hv rfl) h
  | call c =>
    obtain ⟨callee, args, argTypes⟩ := c
    cases callee with
    | builtin b =>
      cases b with
      | append => exact eff_append hst (hv rfl) h
      | copy => exact eff_copy hst h
      | clear => exact eff_clear hst h
      | _ => cases h
    | _ => cases h
  | _ => cases h

/-- The same where the next number is taken. -/
theorem effN_sound (hst : ST cx N ι per F H a w) {o : Oper} {H' : Hp} (h : effN (ttOf P) F H o.op = some (x, H')) : ∃ ι1, Does P cx N ι1 per H.length F H' a x (execOp a.eval o) w := by
  unfold effN at h
  cases he : effOp (ttOf P) F (more o.op H) H.length o.op with
  | none => rw [he] at h; cases h
  | some r =>
    obtain ⟨y, ws⟩ := r
    rw [he] at h
    simp only [Option.some.injEq, Prod.mk.injEq] at h
    obtain ⟨rfl, rfl⟩ := h
    unfold more at he ⊢
    split
    · rename_i hm
      rw [if_pos hm] at he
      exact ⟨_, eff_sound hst.ext1.1 (fun _ => hst.ext1.2) he⟩
    · rename_i hm
      rw [if_neg hm] at he
      exact ⟨_, eff_sound hst (fun e => absurd e hm) he⟩

end
end Go.Lite

/- Lite, part J: contracts of functions, calls, regions. -/
namespace Go.Lite
open Go Go.RowKit
set_option linter.unusedVariables false

/-- The function can be entered. -/
def callable (P : Program) (f : Nat) : Bool :=
  match P.funcs[f]? with
  | some fn => !(fn.name == "runtime.NumGoroutine") && !fn.body.isNone
  | none => false

/-- What a call hands back, and the rows behind it: those that came in keep their numbers. -/
def LEnd (R : LV → Hp → Prop) (kp per : Nat → Prop) (ι : Pl) (w : World) (e : Ending) (w' : World) : Prop :=
  ∃ v res H' ι' per', e = .returned v ∧ R res H' ∧ Kept kp w w' ∧ Rep kp w' ι' per' H' ∧ VR w' per' ι' res v ∧
    (∀ b, per' b → per b ∨ ¬ kp b) ∧ (∀ b, per b → per' b) ∧ ∀ h, h < ι.length → ι'[h]? = ι[h]?

/-- A function's contract: the arguments may hold the rows of H. -/
def LC (P : Program) (f : Nat) (args : List LV) (H : Hp) (R : LV → Hp → Prop) : Prop :=
  callable P f = true ∧ ∀ (kp per : Nat → Prop) (ι : Pl) (w : World) (vs : List Value), Rep kp w ι per H → (∀ b, kp b → b < w.heap.size) → (∀ b, per b → kp b) → VL w ι per args vs →
    Calls P f vs.toArray w (LEnd R kp per ι w)

/-- A contract where the function may ask for rounds of a loop of its caller's. -/
def LCY (P : Program) (f : Nat) (y : Option YY) (args : List LV) (H : Hp) (R : LV → Hp → Prop) : Prop :=
  callable P f = true ∧ ∀ (kp per : Nat → Prop) (ι : Pl) (w : World) (vs : List Value), Rep kp w ι per H → (∀ b, kp b → b < w.heap.size) → (∀ b, per b → kp b) → (∀ z, y = some z → YRec kp per ι w z) → VL w ι per args vs →
    Calls P f vs.toArray w (LEnd R kp per ι w)

theorem LCY.lc {P : Program} {f : Nat} {args : List LV} {H : Hp} {R : LV → Hp → Prop} (h : LCY P f none args H R) : LC P f args H R :=
  ⟨h.1, fun kp per ι w vs h1 h2 h3 h4 => h.2 kp per ι w vs h1 h2 h3 (fun z hz => by cases hz) h4⟩

theorem LC.mono {P : Program} {f : Nat} {args : List LV} {H : Hp} {R R' : LV → Hp → Prop} (h : LC P f args H R) (hr : ∀ x H, R x H → R' x H) : LC P f args H R' :=
  ⟨h.1, fun kp per ι w vs h1 h2 h3 h4 => (h.2 kp per ι w vs h1 h2 h3 h4).mono fun e w' ⟨v, res, H', ι', per', g1, g2, g3⟩ => ⟨v, res, H', ι', per', g1, hr _ _ g2, g3⟩⟩

def frameOf : Nat → List LV → Fr
  | _, [] => []
  | k, x :: r => (k, x) :: frameOf (k + 1) r

theorem fget_frameOf (l : List LV) : ∀ (k t : Nat), fget (frameOf k l) t = if k ≤ t then (l[t - k]?).getD .dead else .dead := by
  induction l with
  | nil => intro k t; simp [frameOf, fget]
  | cons x r ih =>
    intro k t
    simp only [frameOf, fget_cons]
    by_cases h : k = t
    · subst h; simp
    · rw [if_neg h, ih]
      by_cases h2 : k + 1 ≤ t
      · rw [if_pos h2, if_pos (by omega)]
        have : t - k = (t - (k + 1)) + 1 := by omega
        rw [this, List.getElem?_cons_succ]
      · rw [if_neg h2, if_neg (by omega)]

def lresL (τ : TT) (F : Fr) (H : Hp) : List ResultVar → Option (List LV)
  | [] => some []
  | .tmp t :: r => (lresL τ F H r).map (fget F t :: ·)
  | .cell a t :: r => match τ t, fget F a with
    | some ti, .ptr h o => (match row H h with
      | some cs => (match lpart ti.agg ti.size cs o, lresL τ F H r with | some x, some l => some (x :: l) | _, _ => none)
      | none => none)
    | _, _ => none

def lres (τ : TT) (fn : Func) (F : Fr) (H : Hp) : Option LV :=
  match lresL τ F H fn.results.toList with
  | some [x] => some x
  | some l => some (.tup l)
  | none => none

def retQ (P : Program) (fn : Func) (R : LV → Hp → Prop) : LPost
  | .normal, F, H | .ret, F, H => ∃ x, lres (ttOf P) fn F H = some x ∧ R x H
  | _, _, _ => False

section
variable {P : Program} {cx : Ctx} {N : Dim} {ι : Pl} {per : Nat → Prop} {F F' : Fr} {H H' : Hp} {a : Act} {w : World} {x : LV}

theorem loadVar_sound (hst : ST cx N ι per F H a w) {t : TypeId} {ti : TI} {h o : Nat} {cs : List LV} {v : Value} (hti : tiOf P t = some ti) (hv : VR w per ι (.ptr h o) v) (hrow : row H h = some cs)
    (hp : lpart ti.agg ti.size cs o = some x) : ∃ u, (do loadVar t (← asAddr v) : Sem Value).run P w = .ok u w ∧ VR w per ι x u := by
  have hst2 : ST cx ⟨a.tmps.size + 1, N.m, N.rd, N.y⟩ ι per (fset F a.tmps.size (.ptr h o)) H ⟨a.tmps.push v, a.defers⟩ w := by
    refine ⟨hst.rep, hst.p1, hst.p2, fun t => ?_, by simp, hst.defers, hst.below, hst.bs, hst.grow⟩
    rw [fget_fset]
    by_cases ht : a.tmps.size = t
    · subst ht; simp; exact hv
    · rw [if_neg ht]
      have := hst.fr t
      have e : (a.tmps.push v).getD t undef = a.tmps.getD t undef := by
        simp only [Array.getD_eq_getD_getElem?, Array.getElem?_push]
        rw [if_neg (fun e => ht e.symm)]
      simp only [e]; exact this
  obtain ⟨u, hu, hr⟩ := load_sound (P := P) (x := x) hst2 (o := ⟨none, .load t (.tmp a.tmps.size), 0, "", #[], none⟩) (by simp [loadOp, ttOf, hti, evalO, fget_fset, hrow, hp])
  refine ⟨u, ?_, hr⟩
  have h1 := hu w (Ext.refl w)
  obtain ⟨b, oo, _, rfl⟩ := hv.ptr_inv
  simp only [execOp, Act.eval, Instr.loadAt, Sem.run_bind, Sem.run_pure] at h1
  simp only [Array.getD_eq_getD_getElem?, Array.getElem?_push_size, Option.getD_some, Instr.sureAddr, Sem.run_pure, Result.andThen_ok] at h1
  simp only [Sem.run_bind, asAddr, Sem.run_pure, Result.andThen_ok]
  cases hr2 : (loadVar t ⟨b, oo + o, none⟩).run P w with
  | ok y w1 => rw [hr2] at h1; simp only [Result.andThen_ok, Result.ok.injEq, Next.value.injEq] at h1; obtain ⟨rfl, rfl⟩ := h1; rfl
  | halt y w1 => rw [hr2] at h1; simp only [Result.andThen_halt, reduceCtorEq] at h1

theorem lresL_sound (hst : ST cx N ι per F H a w) (l : List ResultVar) : ∀ (xs : List LV) (acc : Array Value), lresL (ttOf P) F H l = some xs →
    ∃ us : List Value, (l.foldlM (fun (bs : Array Value) (r : ResultVar) => bs.push <$> (match r with | .tmp t => pure (a.tmps.getD t undef) | .cell c t => do loadVar t (← asAddr (a.tmps.getD c undef)) : Sem Value)) acc).run P w = .ok (acc ++ us.toArray) w ∧ VL w ι per xs us := by
  induction l with
  | nil => intro xs acc h; obtain rfl := Option.some.inj h; exact ⟨[], by simp, .nil⟩
  | cons r l ih =>
    intro xs acc h
    cases r with
    | tmp t =>
      simp only [lresL, Option.map_eq_some_iff] at h
      obtain ⟨ys, hys, rfl⟩ := h
      obtain ⟨us, hus, hl⟩ := ih ys (acc.push (a.tmps.getD t undef)) hys
      refine ⟨a.tmps.getD t undef :: us, ?_, (VL.one (hst.fr t)).append hl⟩
      simp only [List.foldlM_cons, Sem.run_bind, Sem.run_map, Sem.run_pure, Result.andThen_ok, hus]
      simp
    | cell c t =>
      simp only [lresL] at h
      split at h
      · rename_i ti hh oo hti e
        split at h
        · rename_i cs hrow
          split at h
          · rename_i y ys hy hys
            obtain rfl := Option.some.inj h
            have hv := hst.fr c
            rw [e] at hv
            obtain ⟨u, hu, hr⟩ := loadVar_sound (P := P) hst hti hv hrow hy
            obtain ⟨us, hus, hl⟩ := ih ys (acc.push u) hys
            refine ⟨u :: us, ?_, (VL.one hr).append hl⟩
            simp only [List.foldlM_cons, Sem.run_bind, Sem.run_map] at hu ⊢
            rw [hu]
            simp only [Result.andThen_ok, hus]
            simp
          · cases h
        · cases h
      · cases h

theorem lres_sound (hst : ST cx N ι per F H a w) {fn : Func} (h : lres (ttOf P) fn F H = some x) : ∃ u, (results fn a.tmps).run P w = .ok u w ∧ VR w per ι x u := by
  unfold lres at h
  have key : ∀ xs, lresL (ttOf P) F H fn.results.toList = some xs → ∃ us : List Value, (fn.results.mapM fun | .tmp t => pure (a.tmps.getD t undef) | .cell c t => do loadVar t (← asAddr (a.tmps.getD c undef)) : Sem (Array Value)).run P w = .ok us.toArray w ∧ VL w ι per xs us := by
    intro xs hxs
    obtain ⟨us, hus, hl⟩ := lresL_sound (P := P) hst fn.results.toList xs #[] hxs
    refine ⟨us, ?_, hl⟩
    rw [Array.mapM_eq_foldlM, ← Array.foldlM_toList]
    simpa using hus
  split at h
  · rename_i y hy
    obtain rfl := Option.some.inj h
    obtain ⟨us, hus, hl⟩ := key _ hy
    have h1 : us.length = 1 := by have := hl.1; simpa using this.symm
    obtain ⟨u, rfl⟩ := List.length_eq_one_iff.1 h1
    refine ⟨u, ?_, ?_⟩
    · simp only [results, Sem.run_bind]
      erw [hus]
      simp
    · have := hl.2 0 (by simp)
      simpa using this
  · rename_i l hn hl
    obtain rfl := Option.some.inj h
    obtain ⟨us, hus, hvl⟩ := key _ hl
    refine ⟨.tuple us.toArray, ?_, .tup hvl.1 hvl.2⟩
    have hne : ¬ us.length = 1 := by
      intro h1
      rw [← hvl.1] at h1
      obtain ⟨y, rfl⟩ := List.length_eq_one_iff.1 h1
      exact hn y rfl
    simp only [results, Sem.run_bind]
    erw [hus]
    simp [hne]
  · cases h

end

/-- The marks are come to, one after the other. -/
theorem leaves_marks {P : Program} {fn : Func} {R : Ending → World → Prop} {tmps : Array Value} : ∀ (Ds : List Nat) (w : World), Ds.Nodup → (∀ D ∈ Ds, w.heap[D]? = some (.deferred (some []))) →
    (∀ w', w'.os = w.os → w'.tape = w.tape → w'.output = w.output → w'.drawn = w.drawn → w'.heap.size = w.heap.size → (∀ b, b ∉ Ds → w'.heap[b]? = w.heap[b]?) → ∃ v, (results fn tmps).run P w' = .ok v w' ∧ R (.returned v) w') →
    LeavesInM Fence.wide 0 P fn tmps R (Ds.map fun D => { target := .collected D, args := #[] }) .returning w := by
  intro Ds
  induction Ds with
  | nil => intro w _ _ h; exact h w rfl rfl rfl rfl rfl (fun _ _ => rfl)
  | cons D Ds ih =>
    intro w hn hD h
    have hn' := List.nodup_cons.1 hn
    have h0 := hD D (List.mem_cons_self ..)
    rw [List.map_cons, LeavesInM]
    refine ⟨fun e => (by cases e), .inl ⟨D, _, rfl, run_takeDeferred h0, ih _ hn'.2 (fun E hE => ?_) fun w' h1 h2 h3 hdr h4 h5 => ?_⟩⟩
    · rw [World.putObj_heap_other (fun e => hn'.1 (by subst e; exact hE))]; exact hD E (List.mem_cons_of_mem _ hE)
    · refine h w' h1 h2 h3 hdr (by simpa using h4) fun b hb => ?_
      simp only [List.mem_cons, not_or] at hb
      rw [h5 b hb.2, World.putObj_heap_other hb.1]

/-- A contract out of a walk of the body. -/
theorem lcallsY_of_lwp {P : Program} {f : Nat} {fn : Func} {c : Code} {y : Option YY} {args : List LV} {H : Hp} {R : LV → Hp → Prop} (hf : P.funcs[f]? = some fn) (hb : fn.body = some c) (hc : callable P f = true)
    (h : Lwp P ⟨args.length + (fn.ntmps - args.length), H.length, false, y⟩ c (retQ P fn R) (frameOf 0 args) H) : LCY P f y args H R := by
  refine ⟨hc, fun kp per ι w vs hrep hkp hper hy hvl => ?_⟩
  refine (callsIn_wide (n := 0)).1 (callsIn_of_wp_marks hf hb trivial ?_)
  have hs : SR ⟨kp, per, w, ι, none⟩ ⟨args.length + (fn.ntmps - args.length), H.length, false, y⟩ (frameOf 0 args) H { tmps := vs.toArray ++ Array.replicate (fn.ntmps - vs.toArray.size) undef, defers := [] } w := by
    refine ⟨ι, per, hrep, fun b hb => .inl hb, fun b hb => hb, fun t => ?_, by simp [hvl.1], ⟨⟨[], rfl, List.nodup_nil, fun D hD => by simp at hD⟩, fun _ => rfl, fun _ => rfl, hy⟩, Kept.refl _ _, hkp, hrep.len, fun h _ => rfl⟩
    rw [fget_frameOf]
    simp only [Nat.zero_le, if_true, Nat.sub_zero]
    cases ht : args[t]? with
    | none => exact .dead _
    | some x =>
      obtain ⟨v, hv, hr⟩ := hvl.get ht
      have hlt : t < vs.length := by
        rcases Nat.lt_or_ge t vs.length with h' | h'
        · exact h'
        · simp [List.getElem?_eq_none h'] at hv
      have e : (vs.toArray ++ Array.replicate (fn.ntmps - vs.toArray.size) undef).getD t undef = v := by
        simp only [Array.getD_eq_getD_getElem?]
        rw [Array.getElem?_append_left (by simpa using hlt)]
        simp [hv]
      simp only [Option.getD_some]
      show VR w per ι x ((vs.toArray ++ Array.replicate (fn.ntmps - vs.toArray.size) undef).getD t undef)
      rw [e]
      exact hr
  refine wpIn_mono (h _ _ w hs) fun e a' w' ⟨F', H', q, s⟩ => ?_
  obtain ⟨ι', per', hst⟩ := s.st
  have fin : (∃ x, lres (ttOf P) fn F' H' = some x ∧ R x H') → LeavesInM Fence.wide 0 P fn a'.tmps (LEnd R kp per ι w) a'.defers .returning w' := by
    intro ⟨x, hx, hR⟩
    obtain ⟨⟨Ds, hd, hnd, hDs⟩, _, _, _⟩ := hst.defers
    rw [hd]
    refine leaves_marks Ds w' hnd (fun D hD => (hDs D hD).2.2) fun w2 h1 h2 h3 hdr h4 h5 => ?_
    have hsc : SameCells w' w2 := fun b c e fz hb => by
      rw [h5 b (fun hD => by rw [(hDs b hD).2.2] at hb; cases hb)]; exact hb
    have hk2 : Kept kp w w2 := ⟨h1.trans hst.below.os, h2.trans hst.below.tape, h3.trans hst.below.output, by rw [h4]; exact hst.below.size,
      ⟨fun b hb => by rw [h5 b (fun hD => (hDs b hD).2.1 hb)]; exact hst.below.step.same b hb, fun b n hr => hsc.room (hst.below.step.room b n hr)⟩,
      fun b o hb ho => by rw [h5 b (fun hD => by have := (hDs b hD).1; have := lt_of_get hb; simp only at *; omega)]; exact hst.below.oth b o hb ho, Nat.le_trans hst.below.drawn (Nat.le_of_eq hdr.symm)⟩
    have hst2 : ST ⟨kp, per, w, ι, none⟩ ⟨args.length + (fn.ntmps - args.length), H.length, false, y⟩ ι' per' F' H' { a' with defers := [] } w2 :=
      hst.nc hsc (by rw [h4]; exact Nat.le_refl _) rfl ⟨⟨[], rfl, List.nodup_nil, fun D hD => by simp at hD⟩, fun _ => rfl, fun _ => rfl, hst.defers.2.2.2⟩ hk2
    obtain ⟨u, hu, hr⟩ := lres_sound (P := P) hst2 hx
    exact ⟨u, hu, u, x, H', ι', per', rfl, hR, hst2.below, hst2.rep, hr, hst2.p1, hst2.p2, fun h hh => hst2.grow.2 h (by rw [← hst2.grow.1]; exact hh)⟩
  cases e with
  | normal => exact fin q
  | ret => exact fin q
  | _ => exact q.elim

theorem lcalls_of_lwp {P : Program} {f : Nat} {fn : Func} {c : Code} {args : List LV} {H : Hp} {R : LV → Hp → Prop} (hf : P.funcs[f]? = some fn) (hb : fn.body = some c) (hc : callable P f = true)
    (h : Lwp P ⟨args.length + (fn.ntmps - args.length), H.length, false, none⟩ c (retQ P fn R) (frameOf 0 args) H) : LC P f args H R := (lcallsY_of_lwp hf hb hc h).lc

end Go.Lite
