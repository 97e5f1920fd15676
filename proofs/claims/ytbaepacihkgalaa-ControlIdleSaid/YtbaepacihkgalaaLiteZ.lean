/- Lite, parts Z. -/
import Derived.Test.YtbaepacihkgalaaLiteN
set_option linter.unusedVariables false
set_option linter.unusedSimpArgs false

/- Lite, part Z: loops over functions: the statement, and the calls that ask for a round. -/
namespace Go.Lite
open Go Go.RowKit
set_option linter.unusedVariables false

def putPs : List Nat → List LV → Fr → Fr
  | p :: ps, v :: vs, F => putPs ps vs (fset F p v)
  | _, _, F => F

theorem foldl_ps {w : World} {per : Nat → Prop} {ι : Pl} : ∀ (ps : List Nat) (xs : List LV) (vs : List Value) (F : Fr) (T : Array Value), xs.length = ps.length → VL w ι per xs vs → (∀ p ∈ ps, p < T.size) → (∀ t, VR w per ι (fget F t) (T.getD t undef)) →
    ((ps.zip vs).foldl (fun (t : Array Value) (p : Nat × Value) => t.setIfInBounds p.1 p.2) T).size = T.size ∧ ∀ t, VR w per ι (fget (putPs ps xs F) t) (((ps.zip vs).foldl (fun (t : Array Value) (p : Nat × Value) => t.setIfInBounds p.1 p.2) T).getD t undef) := by
  intro ps
  induction ps with
  | nil => intro xs vs F T hl _ _ hF; cases xs <;> exact ⟨rfl, hF⟩
  | cons p ps ih =>
    intro xs vs F T hl hv hp hF
    cases xs with
    | nil => cases hl
    | cons x xs =>
      cases vs with
      | nil => cases hv.1
      | cons v vs =>
        have hx := hv.2 0 (by simp)
        simp only [List.getElem_cons_zero, List.getD_cons_zero] at hx
        have hr : VL w ι per xs vs := ⟨by simpa using hv.1, fun i hi => by have := hv.2 (i + 1) (by simpa using hi); simpa using this⟩
        have hpl := hp p (List.mem_cons_self ..)
        have := ih xs vs (fset F p x) (T.setIfInBounds p v) (by simpa using hl) hr (fun q hq => by simpa using hp q (List.mem_cons_of_mem _ hq)) fun t => ?_
        · simp only [List.zip_cons_cons, List.foldl_cons, putPs]
          exact ⟨by simpa using this.1, this.2⟩
        · rw [fget_fset]
          by_cases h : p = t
          · subst h
            rw [if_pos rfl]
            have : (T.setIfInBounds p v).getD p undef = v := by simp [hpl]
            rw [this]; exact hx
          · rw [if_neg h]
            have : (T.setIfInBounds p v).getD t undef = T.getD t undef := by
              simp only [Array.getD_eq_getD_getElem?, Array.getElem?_setIfInBounds]
              rw [if_neg h]
            rw [this]; exact hF t

section
variable {P : Program} {N : Dim} {Q : LPost} {F : Fr} {H : Hp}

/-- The statement: the function's contract, at a loop whose slots are these. -/
theorem lwp_rangeFunc {g : Operand} {ps : Array Nat} {assign body : Code} {f : Nat} {cap : List LV} (hrd : N.rd = false) (hu : isUnd cap = false) (hg : evalO F g = .fn f cap)
    (h : ∀ y : YY, y.n = N.n → y.ps = ps.toList → y.assign = assign → y.body = body → y.F = F → LCY P f (some y) (.yld y.l :: cap) H (fun _ H' => Q .normal F H')) : Lwp P N (.rangeFunc g ps assign body) Q F H := by
  intro cx a w hs
  obtain ⟨ι, per, hst⟩ := hs.st
  have hro : (fen cx).round = none := hst.defers.2.2.1 hrd
  have hgv := hst.fr.eval g
  rw [hg] at hgv
  generalize hgg : a.eval g = gv at hgv
  cases hgv with
  | @fn _ _ _ vs hn hv =>
    rw [fnV_off hu] at hgg
    refine wpIn_rangeFunc fun fn hfn => ?_
    rw [hro]
    obtain ⟨y, hy⟩ : ∃ y : YY, y = { l := w.heap.size + 1, fn := fn, n := N.n, ps := ps.toList, assign := assign, body := body, D := w.heap.size, F := F } := ⟨_, rfl⟩
    have hc := h y (by rw [hy]) (by rw [hy]) (by rw [hy]) (by rw [hy]) (by rw [hy])
    obtain ⟨W1, hW1⟩ : ∃ W1, (w.alloc (.deferred (some []))).alloc (.loop (y.lp a.tmps)) = W1 := ⟨_, rfl⟩
    have hL1 : W1.heap[w.heap.size + 1]? = some (.loop (y.lp a.tmps)) := by
      rw [← hW1]; have := World.alloc_heap_new (w.alloc (.deferred (some []))) (.loop (y.lp a.tmps)); rwa [World.size_alloc] at this
    have hD1 : W1.heap[w.heap.size]? = some (.deferred (some [])) := by
      rw [← hW1]; exact (Below.heap_alloc _ _ _ (by simp)).trans (World.alloc_heap_new w _)
    have hsz1 : W1.heap.size = w.heap.size + 2 := by rw [← hW1]; simp
    have old1 : ∀ b, b < w.heap.size → W1.heap[b]? = w.heap[b]? := fun b hb => by
      rw [← hW1]; exact (Below.heap_alloc _ _ _ (by simp; omega)).trans (Below.heap_alloc _ _ _ hb)
    have sc1 : SameCells w W1 := fun b c e fz hb => (old1 b (lt_of_get hb)).trans hb
    have keep1 : ∀ kp : Nat → Prop, (∀ b, kp b → b < w.heap.size) → Kept kp w W1 := fun kp hk =>
      ⟨by rw [← hW1]; rfl, by rw [← hW1]; rfl, by rw [← hW1]; rfl, by omega, ⟨fun b hb => old1 b (hk b hb), fun b n hr => sc1.room hr⟩, fun b o hb _ => (old1 b (lt_of_get hb)).trans hb, by rw [← hW1]; exact Nat.le_refl _⟩
    have henter : (callFunc f (#[.func (.yield (w.heap.size + 1)) #[] #[]] ++ vs.toArray)).run P W1 = .ok (.enter f (#[.func (.yield (w.heap.size + 1)) #[] #[]] ++ vs.toArray)) W1 := by
      have hcal := hc.1
      unfold callable at hcal
      split at hcal
      · rename_i fn hfn
        simp only [Bool.and_eq_true, Bool.not_eq_eq_eq_not, Bool.not_true] at hcal
        simp only [callFunc, Sem.run_bind, run_program, Result.andThen_ok, hfn, hcal.1, hcal.2, Bool.false_eq_true, if_false, Sem.run_pure]
      · cases hcal
    refine ⟨w.heap.size + 1, [{ target := .collected w.heap.size, args := #[] }], W1, { target := .fn (.func f) vs.toArray, args := #[.func (.yield (w.heap.size + 1)) #[] #[]] }, W1, f,
      #[.func (.yield (w.heap.size + 1)) #[] #[]] ++ vs.toArray, W1, ?_, ?_, fun _ _ => trivial, ?_, fun hd => (by cases hd), ?_⟩
    · rw [← hW1]
      have := run_enterLoop_outer (P := P) (w := w) fn a.tmps ps assign body
      rw [this]
      congr 3
      rw [hy]; simp [YY.lp]
    · simp only [resolve, hgg]
      simp [go_sem]
    · show (callFunc f _).run P W1 = _
      exact henter
    · have hrep : Rep (fun b => cx.kp b ∨ per b) W1 ι per H := by
        refine Rep.nc sc1 (by omega) ⟨hst.rep.len, hst.rep.perlt, fun k cs hh => ?_, hst.rep.inj⟩
        rcases hst.rep.live k cs hh with h1 | ⟨b, o, c, e, h1, h2, h3, h4⟩
        · exact .inl h1
        · exact .inr ⟨b, o, c, e, h1, fun hp => hp.elim h2 h3, h3, h4⟩
      have hvl : VL W1 ι per (.yld y.l :: cap) (.func (.yield (w.heap.size + 1)) #[] #[] :: vs) := by
        refine ⟨by simp [hn], fun i hi => ?_⟩
        cases i with
        | zero => rw [hy]; exact .yld _
        | succ i => simpa using (hv i (by simpa using hi)).nc sc1
      have hcalls := hc.2 (fun b => cx.kp b ∨ per b) per ι W1 _ hrep (fun b hb => Nat.lt_of_lt_of_le (hb.elim (hst.bs b) (hst.rep.perlt b)) (by omega)) (fun b hb => .inr hb)
        (fun z hz => by
          obtain rfl := Option.some.inj hz
          exact ⟨fun b hb => .inr hb, a.tmps, by rw [hy] at hL1 ⊢; exact hL1, by rw [hy]; exact hst.size, fun t => by rw [hy]; exact (hst.fr t).nc sc1⟩) hvl
      have e1 : (.func (.yield (w.heap.size + 1)) #[] #[] :: vs : List Value).toArray = #[.func (.yield (w.heap.size + 1)) #[] #[]] ++ vs.toArray := by apply Array.ext'; simp
      rw [e1] at hcalls
      refine CallsIn.mono ((callsIn_wide (n := 0)).2 hcalls) fun e w' ⟨v, res, H', ι', per', he, q, g3, g4, g5, g6, g7, g8⟩ => ?_
      subst he
      have hl' : w'.heap[w.heap.size + 1]? = some (.loop (y.lp a.tmps)) := g3.oth _ _ hL1 rfl
      have hD' : w'.heap[w.heap.size]? = some (.deferred (some [])) := g3.oth _ _ hD1 rfl
      refine ⟨none, _, run_endLoop hl' (by rw [hy]; simp [YY.lp]), ?_⟩
      have hk1 : Kept cx.kp w w' := (keep1 cx.kp hst.bs).trans (g3.mono fun b hb => .inl hb)
      have hk2 : Kept cx.kp w (w'.putObj (w.heap.size + 1) (.loop { y.lp a.tmps with state := .exhausted })) := hk1.put hl' rfl (by omega) (fun hb => by have := hst.bs _ hb; omega) _
      have sc2 : SameCells w' (w'.putObj (w.heap.size + 1) (.loop { y.lp a.tmps with state := .exhausted })) := SameCells.putObj hl' rfl _
      have hp2 : ∀ kp : Nat → Prop, (∀ b, kp b → b < w.heap.size) → Kept (fun b => cx.kp b ∨ per b) W1 w' → (∀ b, kp b → cx.kp b ∨ per b) → Kept kp w (w'.putObj (w.heap.size + 1) (.loop { y.lp a.tmps with state := .exhausted })) := fun kp hk g hsub =>
        ((keep1 kp hk).trans (g.mono hsub)).put hl' rfl (by omega) (fun hb => by have := hk _ hb; omega) _
      refine ⟨F, H', q, SR.of (ι := ι') (per := per') ⟨(g4.weaken fun b hb => .inl hb).nc sc2 (by simp), fun b hb => ?_, fun b hb => g7 b (hst.p2 b hb), fun t => ?_, hst.size, ?_, hst.below.trans hk2, fun b hb => ?_, hst.grow.1, fun k hk => ?_⟩⟩
      · rcases g6 b hb with h1 | h1
        · exact hst.p1 b h1
        · exact .inr fun hp => h1 (.inl hp)
      · refine (hst.fr t).step (hp2 per hst.rep.perlt g3 fun b hb => .inr hb).step g7 fun k b hb => ?_
        have hl : k < ι.length := by
          rcases Nat.lt_or_ge k ι.length with h' | h'
          · exact h'
          · simp [List.getElem?_eq_none h'] at hb
        rw [g8 k hl]; exact hb
      · obtain ⟨⟨Ds, hd, hnd, hDs⟩, h2, h3, h4⟩ := hst.defers
        refine ⟨⟨w.heap.size :: Ds, by simp [hd], List.nodup_cons.2 ⟨fun hm => by have := lt_of_get (hDs _ hm).2.2; omega, hnd⟩, fun D hD => ?_⟩, fun hr => (by rw [hrd] at hr; cases hr), h3, h4⟩
        rcases List.mem_cons.1 hD with rfl | hD
        · exact ⟨hst.below.size, fun hb => by have := hst.bs _ hb; omega, by rw [World.putObj_heap_other (by omega)]; exact hD'⟩
        · obtain ⟨k1, k2, k3⟩ := hDs D hD
          refine ⟨k1, k2, ?_⟩
          have := lt_of_get k3
          rw [World.putObj_heap_other (by omega)]
          exact g3.oth _ _ ((old1 D this).trans k3) rfl
      · exact Nat.lt_of_lt_of_le (hst.bs b hb) hk2.size
      · rw [g8 k (Nat.lt_of_lt_of_le hk hst.mle)]
        exact hst.grow.2 k hk

/-- What is to be shown of a round: the loop's variables, then the body. -/
def YRound (P : Program) (y : YY) (args : List LV) (H : Hp) (K : Hp → Prop) : Prop :=
  Lwp P ⟨y.n, H.length, true, none⟩ y.assign (fun e F1 H1 => e = .normal ∧ Lwp P ⟨y.n, H.length, true, none⟩ y.body (fun e _ H2 => e = .normal ∧ K H2) F1 H1) (putPs y.ps args y.F) H

/-- A round is asked for. -/
theorem OpsW.yld {o : SO} {r : List SO} {K : Fr → Hp → Prop} {g : Operand} {args : Array Operand} {tys : Array TypeId} {y : YY} (hw : wantS o.g F = some true) (hop : o.op = .call ⟨.value g, args, tys⟩) (hg : evalO F g = .yld y.l) (hy : N.y = some y)
    (hn : args.size = y.ps.length) (hps : y.ps.all (fun p => decide (p < y.n)) = true)
    (h : YRound P y (args.toList.map (evalO F)) H fun H' => OpsW P N r K (lput o.dst (.bool true) F) H') : OpsW P N (o :: r) K F H := by
  intro ops l0 hs hd cx a w hsr
  obtain ⟨o', l1, rfl, hs1, e1, e2, e3⟩ := slim_cons hs
  obtain ⟨hd1, hd2⟩ := dsts_cons hd
  obtain ⟨ι, per, hst⟩ := hsr.st
  refine wpListIn_step fun C hC => ?_
  rw [wanted_sound hst (by rw [e3]; exact hw)]
  simp only [if_true]
  obtain ⟨hper0, T, hrec0, hTs, hTv⟩ := hst.defers.2.2.2 y hy
  have hrec : w.heap[y.l]? = some (.loop (y.lp T)) := hst.below.oth _ _ hrec0 rfl
  have hT : ∀ t, VR w per ι (fget y.F t) (T.getD t undef) := fun t => (hTv t).step ⟨fun b hb => hst.below.step.same b (hper0 b hb), hst.below.step.room⟩ hst.p2 fun k b hb => by
    have hl : k < cx.ι0.length := by
      rcases Nat.lt_or_ge k cx.ι0.length with h' | h'
      · exact h'
      · simp [List.getElem?_eq_none h'] at hb
    rw [hst.grow.2 k (by rw [← hst.grow.1]; exact hl)]; exact hb
  have hgv := hst.fr.eval g
  rw [hg] at hgv
  generalize hgg : a.eval g = gv at hgv
  cases hgv with
  | yld _ =>
  have hvl := evalL hst.fr args.toList
  have hop' : o'.op = .call ⟨.value g, args, tys⟩ := e2.trans hop
  have hyl := run_yield (P := P) (args := args.map a.eval) hrec (by simp [YY.lp, hn])
  have hrun : (execOp a.eval o').run P w = .ok (.round y.l y.fn (((y.ps.zip (args.toList.map a.eval)).foldl (fun (t : Array Value) (p : Nat × Value) => t.setIfInBounds p.1 p.2) T)) y.assign y.body) w := by
    obtain ⟨dst, op, ty, pos, after, guard⟩ := o'
    simp only at hop'
    subst hop'
    simp only [execOp, resolve, hgg, Deferred.ofValue, Sem.run_bind, Sem.run_pure, Result.andThen_ok, invoke]
    have e : (#[] ++ args.map a.eval : Array Value) = args.map a.eval := by simp
    rw [e, hyl]
    simp only [YY.lp]
    congr 2
    rw [← Array.foldl_toList]
    simp
  have hlen : (args.toList.map (evalO F)).length = y.ps.length := by simp [hn]
  obtain ⟨hsz, hfr⟩ := foldl_ps y.ps (args.toList.map (evalO F)) (args.toList.map a.eval) y.F T hlen hvl (fun p hp => by rw [hTs]; simpa using List.all_eq_true.1 hps p hp) hT
  refine runIn (fun c hc => by rw [hop'] at hc; cases hc) hrun ?_
  rw [Oper.uponIn_round]
  refine ⟨fun hd => (by cases hd), roundIn_of_wpIn trivial ?_⟩
  let kp' : Nat → Prop := fun b => cx.kp b ∨ per b
  have kplt : ∀ b, kp' b → b < w.heap.size := fun b hb => hb.elim (hst.bs b) (hst.rep.perlt b)
  have hrep : Rep kp' w ι per H := ⟨hst.rep.len, hst.rep.perlt, fun k cs hh => by
    rcases hst.rep.live k cs hh with h1 | ⟨b, o, c, e, h1, h2, h3, h4⟩
    · exact .inl h1
    · exact .inr ⟨b, o, c, e, h1, fun hp => hp.elim h2 h3, h3, h4⟩, hst.rep.inj⟩
  have hs0 : SR ⟨kp', per, w, ι, some y.l⟩ ⟨y.n, H.length, true, none⟩ (putPs y.ps (args.toList.map (evalO F)) y.F) H { tmps := ((y.ps.zip (args.toList.map a.eval)).foldl (fun (t : Array Value) (p : Nat × Value) => t.setIfInBounds p.1 p.2) T), defers := [] } w :=
    ⟨ι, per, hrep, fun b hb => .inl hb, fun b hb => hb, hfr, hsz.trans hTs, .none' (fun e => by cases e), .refl _ _, kplt, hst.rep.len, fun _ _ => rfl⟩
  refine wpIn_mono (h ⟨kp', per, w, ι, some y.l⟩ _ w hs0) fun e a1 w1 ⟨F1, H1, ⟨he, hbody⟩, hsr1⟩ => ?_
  subst he
  obtain ⟨ι1, per1, hst1⟩ := hsr1.st
  have hrec1 : w1.heap[y.l]? = some (.loop (y.lp T)) := hst1.below.oth _ _ hrec rfl
  refine ⟨_, run_beginRound hrec1 rfl, ?_⟩
  obtain ⟨wb, hwb⟩ : ∃ wb, wb = w1.putObj y.l (.loop { y.lp T with state := .busy }) := ⟨_, rfl⟩
  rw [← hwb]
  have hyl1 := lt_of_get hrec1
  have scb : SameCells w1 wb := by rw [hwb]; exact SameCells.putObj hrec1 rfl _
  have szb : wb.heap.size = w1.heap.size := by rw [hwb]; simp
  have hrecb : wb.heap[y.l]? = some (.loop { y.lp T with state := .busy }) := by rw [hwb]; exact World.putObj_heap_same hyl1
  have othb : ∀ b, b ≠ y.l → wb.heap[b]? = w1.heap[b]? := fun b hb => by rw [hwb]; exact World.putObj_heap_other hb
  have hsb : SR ⟨kp', per, wb, ι, some y.l⟩ ⟨y.n, H.length, true, none⟩ F1 H1 a1 wb :=
    ⟨ι1, per1, hst1.rep.nc scb (by omega), hst1.p1, hst1.p2, fun t => (hst1.fr t).nc scb, hst1.size, by rw [hst1.defers.2.1 rfl]; exact .none' (fun e => by cases e), .refl _ _,
      fun b hb => by rw [szb]; exact hst1.bs b hb, hst1.grow⟩
  refine wpIn_mono (hbody ⟨kp', per, wb, ι, some y.l⟩ a1 wb hsb) fun e a2 w2 ⟨F2, H2, ⟨he, hK⟩, hsr2⟩ => ?_
  subst he
  obtain ⟨ι2, per2, hst2⟩ := hsr2.st
  have hrec2 : w2.heap[y.l]? = some (.loop { y.lp T with state := .busy }) := hst2.below.oth _ _ hrecb rfl
  refine ⟨_, _, run_endRound none hrec2, ?_⟩
  obtain ⟨w3, hw3⟩ : ∃ w3, w3 = w2.putObj y.l (.loop (y.lp T)) := ⟨_, rfl⟩
  show C (a.put o'.dst (.bool true)) (w2.putObj y.l (.loop (y.lp T)))
  rw [← hw3]
  have hyl2 := lt_of_get hrec2
  have sc3 : SameCells w2 w3 := by rw [hw3]; exact SameCells.putObj hrec2 rfl _
  have sz3 : w3.heap.size = w2.heap.size := by rw [hw3]; simp
  have hrec3 : w3.heap[y.l]? = some (.loop (y.lp T)) := by rw [hw3]; exact World.putObj_heap_same hyl2
  have oth3 : ∀ b, b ≠ y.l → w3.heap[b]? = w2.heap[b]? := fun b hb => by rw [hw3]; exact World.putObj_heap_other hb
  have k01 := hst1.below
  have kb2 := hst2.below
  have hk : Kept kp' w w3 := by
    refine ⟨?_, ?_, ?_, ?_, ⟨fun b hb => ?_, fun b n hr => ?_⟩, fun b o hb ho => ?_, ?_⟩
    · rw [show w3.os = w2.os by rw [hw3]; rfl, kb2.os, show (wb).os = w1.os by rw [hwb]; rfl]; exact k01.os
    · rw [show w3.tape = w2.tape by rw [hw3]; rfl, kb2.tape, show (wb).tape = w1.tape by rw [hwb]; rfl]; exact k01.tape
    · rw [show w3.output = w2.output by rw [hw3]; rfl, kb2.output, show (wb).output = w1.output by rw [hwb]; rfl]; exact k01.output
    · have h1 := k01.size; have h2 := kb2.size; simp only at h1 h2; omega
    · by_cases e : b = y.l
      · subst e; rw [hrec3, hrec]
      · rw [oth3 b e, kb2.step.same b hb, othb b e]; exact k01.step.same b hb
    · exact sc3.room (kb2.step.room _ _ (scb.room (k01.step.room _ _ hr)))
    · by_cases e : b = y.l
      · subst e; rw [hrec] at hb; rw [hrec3]; exact hb
      · rw [oth3 b e]
        refine kb2.oth b o ?_ ho
        rw [othb b e]; exact k01.oth b o hb ho
    · have e1 : w3.drawn = w2.drawn := by rw [hw3]; rfl
      have e2 : wb.drawn = w1.drawn := by rw [hwb]; rfl
      have h1 := k01.drawn; have h2 := kb2.drawn; simp only at h1 h2; omega
  have hkc : Kept cx.kp w w3 := hk.mono fun b hb => .inl hb
  have hst3 : ST cx N ι2 per2 F H2 a w3 := by
    refine ⟨(hst2.rep.nc sc3 (by omega)).weaken fun b hb => .inl hb, fun b hb => ?_, fun b hb => hst2.p2 b (hst.p2 b hb), fun t => ?_, hst.size, hst.defers.keep hkc, hst.below.trans hkc, fun b hb => Nat.lt_of_lt_of_le (hst.bs b hb) hkc.size, hst.grow.1, fun k hk => ?_⟩
    · rcases hst2.p1 b hb with h1 | h1
      · exact hst.p1 b h1
      · exact .inr fun hp => h1 (.inl hp)
    · refine (hst.fr t).step ⟨fun b hb => hk.step.same b (.inr hb), hk.step.room⟩ hst2.p2 fun k b hb => ?_
      have hl : k < H.length := by
        rw [← hst.rep.len]
        rcases Nat.lt_or_ge k ι.length with h' | h'
        · exact h'
        · simp [List.getElem?_eq_none h'] at hb
      rw [hst2.grow.2 k hl]; exact hb
    · rw [hst2.grow.2 k (by show k < H.length; rw [← hst.rep.len]; exact Nat.lt_of_lt_of_le hk hst.mle)]
      exact hst.grow.2 k hk
  refine hC _ _ (hK ops l1 hs1 hd2 cx _ _ ?_)
  rw [← e1]
  exact .of (hst3.put hd1 (.bool true))

end
end Go.Lite
