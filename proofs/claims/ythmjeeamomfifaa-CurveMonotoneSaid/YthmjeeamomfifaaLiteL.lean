/- Lite, part L: regions; forgetting and moving rows. -/
import Derived.Test.YthmjeeamomfifaaLiteK
namespace Go.Lite
open Go Go.RowKit
set_option linter.unusedVariables false

def lput : Option Nat → LV → Fr → Fr
  | none, _, F => F
  | some d, x, F => fset F d x

/-- Does the operation come up? -/
def wantedL (ops : Array Oper) (o : Oper) (F : Fr) : Option Bool :=
  match o.guard with
  | none => some true
  | some (j, want) => match (ops[j]?).bind (·.dst) with
    | none => some false
    | some s => match fget F s with
      | .bool b => some (b == want)
      | .und => some false
      | _ => none

/-- One operation. -/
def stepOp (P : Program) (o : Op) (K : LV → Fr → Hp → Prop) (F : Fr) (H : Hp) : Prop :=
  match pureOp (ttOf P) F o with
  | some x => K x F H
  | none => match loadOp (ttOf P) F H o with
    | some x => K x F H
    | none => match effN (ttOf P) F H o with
      | some (x, H') => K x F H'
      | none => match o with
        | .call ⟨.value g, args, _⟩ => match evalO F g with
          | .fn f cap => callK P f (args.toList.map (evalO F) ++ cap) H fun x H' => K x F H'
          | _ => False
        | _ => False

def dstsOk (N : Nat) (ops : List Oper) : Bool := ops.all fun o => match o.dst with | some d => decide (d < N) | none => true

section
variable {P : Program} {cx : Ctx} {N : Dim} {ι : Pl} {per : Nat → Prop} {F F' : Fr} {H H' : Hp} {a : Act} {w : World} {x : LV}

theorem ST.put (hst : ST cx N ι per F H a w) {d : Option Nat} (hd : ∀ k, d = some k → k < N.n) {v : Value} (hv : VR w per ι x v) : ST cx N ι per (lput d x F) H (a.put d v) w := by
  cases d with
  | none => exact hst
  | some k =>
    have hk := hd k rfl
    refine ⟨hst.rep, hst.p1, hst.p2, fun t => ?_, by simp [Act.put, hst.size], hst.defers, hst.below, hst.bs, hst.grow⟩
    show VR w per ι (fget (fset F k x) t) ((a.tmps.setIfInBounds k v).getD t undef)
    rw [fget_fset]
    by_cases h : k = t
    · subst h
      rw [if_pos rfl]
      have : (a.tmps.setIfInBounds k v).getD k undef = v := by
        have : k < a.tmps.size := by rw [hst.size]; exact hk
        simp [this]
      rw [this]; exact hv
    · rw [if_neg h]
      have : (a.tmps.setIfInBounds k v).getD t undef = a.tmps.getD t undef := by
        simp only [Array.getD_eq_getD_getElem?, Array.getElem?_setIfInBounds]
        rw [if_neg h]
      rw [this]; exact hst.fr t

theorem wanted_sound (hst : ST cx N ι per F H a w) {ops : Array Oper} {o : Oper} {b : Bool} (h : wantedL ops o F = some b) : Region.wanted o (yielded ops a.tmps) = b := by
  unfold wantedL at h
  unfold Region.wanted
  split at h
  · rename_i hg; simp only [Option.some.injEq] at h; subst h; simp [hg]
  · rename_i j want hg
    simp only [hg]
    split at h
    · rename_i hd
      simp only [Option.some.injEq] at h; subst h
      simp [yielded, hd]
    · rename_i s hs
      have hv := hst.fr s
      have hcase : ∀ c, VR w per ι (.bool c) (a.tmps.getD s undef) → a.tmps[s]? = some (.bool c) := by
        intro c hc
        generalize hz : a.tmps.getD s undef = z at hc
        cases hc
        simp only [Array.getD_eq_getD_getElem?] at hz
        cases hq : a.tmps[s]? with
        | none => rw [hq] at hz; simp [undef] at hz
        | some q => rw [hq] at hz; simp at hz; rw [hz]
      split at h
      · rename_i c hc
        rw [hc] at hv
        have := hcase c hv
        simp only [Option.some.injEq] at h; subst h
        simp only [yielded, hs, Option.bind_some, this]
        cases c <;> cases want <;> rfl
      · rename_i hc
        rw [hc] at hv
        simp only [Option.some.injEq] at h; subst h
        generalize hz : a.tmps.getD s undef = z at hv
        cases hv
        simp only [Array.getD_eq_getD_getElem?] at hz
        cases hq : a.tmps[s]? with
        | none => simp [yielded, hs, hq]
        | some q =>
          rw [hq] at hz
          simp only [Option.getD_some] at hz
          subst hz
          simp [yielded, hs, hq, undef]
      · cases h

theorem callFunc_enter {f : Nat} (hc : callable P f = true) (args : Array Value) : (callFunc f args).run P w = .ok (.enter f args) w := by
  unfold callable at hc
  split at hc
  · rename_i fn hfn
    simp only [Bool.and_eq_true, Bool.not_eq_eq_eq_not, Bool.not_true] at hc
    simp only [callFunc, Sem.run_bind, run_program, Result.andThen_ok, hfn, hc.1, hc.2, Bool.false_eq_true, if_false, Sem.run_pure]
  · cases hc

/-- One operation, carried out. -/
theorem step_sound {ops : Array Oper} {o : Oper} {K : LV → Fr → Hp → Prop} {next : Act → World → Prop} {Q : Exit → Act → World → Prop} (hd : ∀ k, o.dst = some k → k < N.n)
    (hnext : ∀ x F' H' ι' per' v w', K x F' H' → ST cx N ι' per' F' H' a w' → VR w' per' ι' x v → next (a.put o.dst v) w')
    (hst : ST cx N ι per F H a w) (h : stepOp P o.op K F H) : o.wp P a w next Q := by
  unfold stepOp at h
  unfold Oper.wp
  split at h
  · rename_i x hx
    obtain ⟨u, hu, hr⟩ := pure_sound (P := P) hst.fr hx
    rw [hu w]
    exact hnext _ _ _ _ _ _ _ h hst hr
  · split at h
    · rename_i x hx
      obtain ⟨u, hu, hr⟩ := load_sound (P := P) hst hx
      rw [hu w (Ext.refl w)]
      exact hnext _ _ _ _ _ _ _ h hst hr
    · split at h
      · rename_i x H' hx
        obtain ⟨_, u, w', ι', hu, hst', hr, _⟩ := effN_sound (P := P) hst hx
        rcases hu with hu | ⟨hu, rfl⟩
        · rw [hu]; exact hnext _ _ _ _ _ _ _ h hst' hr
        · rw [hu]; exact hnext _ _ _ _ _ _ _ h hst' hr
      · split at h
        · rename_i g args tys hop
          split at h
          · rename_i f cap hg
            have hgv := hst.fr.eval g
            rw [hg] at hgv
            generalize hgg : a.eval g = gv at hgv
            cases hgv with
            | @fn _ _ _ vs hn hv =>
              have hvl := (evalL hst.fr args.toList).append ⟨hn, hv⟩
              obtain ⟨hc, hcalls⟩ := call_sound (P := P) hst hvl h
              have hrun : (execOp a.eval o).run P w = .ok (.enter f (args.toList.map a.eval ++ vs).toArray) w := by
                obtain ⟨dst, op, ty, pos, after, guard⟩ := o
                simp only at hop
                subst hop
                simp only [execOp, resolve, hgg, Deferred.ofValue, Sem.run_bind, Sem.run_pure, Result.andThen_ok, invoke]
                have e : (#[] ++ args.map a.eval ++ vs.toArray : Array Value) = (args.toList.map a.eval ++ vs).toArray := by apply Array.ext'; simp
                rw [e]
                exact callFunc_enter hc _
              rw [hrun, Oper.upon_enter]
              refine hcalls.mono fun e w' ⟨v, x, H', ι', per', he, hK, hst', hr⟩ => ?_
              subst he
              exact hnext _ _ _ _ _ _ _ hK hst' hr
          · exact h.elim
        · exact h.elim

end

end Go.Lite
