/- Lite, part J: contracts of functions, calls, regions. -/
import Derived.Test.YthmjeeamomfifaaLiteI
namespace Go.Lite
open Go Go.RowKit
set_option linter.unusedVariables false

/-- The function can be entered. -/
def callable (P : Program) (f : Nat) : Bool :=
  match P.funcs[f]? with
  | some fn => !(fn.name == "runtime.NumGoroutine") && !fn.body.isNone
  | none => false

/-- What a call hands back, and the rows behind it: those that came in keep their numbers. -/
def LEnd (R : LV → Hp → Prop) (kp per : Nat → Prop) (ι : Pl) (w : World) (e : Ending) (w' : World) : Prop :=
  ∃ v res H' ι' per', e = .returned v ∧ R res H' ∧ Kept kp w w' ∧ Rep kp w' ι' per' H' ∧ VR w' per' ι' res v ∧
    (∀ b, per' b → per b ∨ ¬ kp b) ∧ (∀ b, per b → per' b) ∧ ∀ h, h < ι.length → ι'[h]? = ι[h]?

/-- A function's contract: the arguments may hold the rows of H. -/
def LC (P : Program) (f : Nat) (args : List LV) (H : Hp) (R : LV → Hp → Prop) : Prop :=
  callable P f = true ∧ ∀ (kp per : Nat → Prop) (ι : Pl) (w : World) (vs : List Value), Rep kp w ι per H → (∀ b, kp b → b < w.heap.size) → (∀ b, per b → kp b) → VL w ι per args vs →
    Calls P f vs.toArray w (LEnd R kp per ι w)

/-- A contract where the arguments hold no rows. -/
abbrev LCalls (P : Program) (f : Nat) (args : List LV) (R : LV → Hp → Prop) : Prop := LC P f args [] R

theorem LC.mono {P : Program} {f : Nat} {args : List LV} {H : Hp} {R R' : LV → Hp → Prop} (h : LC P f args H R) (hr : ∀ x H, R x H → R' x H) : LC P f args H R' :=
  ⟨h.1, fun kp per ι w vs h1 h2 h3 h4 => (h.2 kp per ι w vs h1 h2 h3 h4).mono fun e w' ⟨v, res, H', ι', per', g1, g2, g3⟩ => ⟨v, res, H', ι', per', g1, hr _ _ g2, g3⟩⟩

def frameOf : Nat → List LV → Fr
  | _, [] => []
  | k, x :: r => (k, x) :: frameOf (k + 1) r

theorem fget_frameOf (l : List LV) : ∀ (k t : Nat), fget (frameOf k l) t = if k ≤ t then (l[t - k]?).getD .dead else .dead := by
  induction l with
  | nil => intro k t; simp [frameOf, fget]
  | cons x r ih =>
    intro k t
    simp only [frameOf, fget_cons]
    by_cases h : k = t
    · subst h; simp
    · rw [if_neg h, ih]
      by_cases h2 : k + 1 ≤ t
      · rw [if_pos h2, if_pos (by omega)]
        have : t - k = (t - (k + 1)) + 1 := by omega
        rw [this, List.getElem?_cons_succ]
      · rw [if_neg h2, if_neg (by omega)]

def lresL (τ : TT) (F : Fr) (H : Hp) : List ResultVar → Option (List LV)
  | [] => some []
  | .tmp t :: r => (lresL τ F H r).map (fget F t :: ·)
  | .cell a t :: r => match τ t, fget F a with
    | some ti, .ptr h o => (match row H h with
      | some cs => (match lpart ti.agg ti.size cs o, lresL τ F H r with | some x, some l => some (x :: l) | _, _ => none)
      | none => none)
    | _, _ => none

def lres (τ : TT) (fn : Func) (F : Fr) (H : Hp) : Option LV :=
  match lresL τ F H fn.results.toList with
  | some [x] => some x
  | some l => some (.tup l)
  | none => none

def retQ (P : Program) (fn : Func) (R : LV → Hp → Prop) : LPost
  | .normal, F, H | .ret, F, H => ∃ x, lres (ttOf P) fn F H = some x ∧ R x H
  | _, _, _ => False

section
variable {P : Program} {cx : Ctx} {N : Dim} {ι : Pl} {per : Nat → Prop} {F F' : Fr} {H H' : Hp} {a : Act} {w : World} {x : LV}

theorem loadVar_sound (hst : ST cx N ι per F H a w) {t : TypeId} {ti : TI} {h o : Nat} {cs : List LV} {v : Value} (hti : tiOf P t = some ti) (hv : VR w per ι (.ptr h o) v) (hrow : row H h = some cs)
    (hp : lpart ti.agg ti.size cs o = some x) : ∃ u, (do loadVar t (← asAddr v) : Sem Value).run P w = .ok u w ∧ VR w per ι x u := by
  have hst2 : ST cx ⟨a.tmps.size + 1, N.m⟩ ι per (fset F a.tmps.size (.ptr h o)) H ⟨a.tmps.push v, a.defers⟩ w := by
    refine ⟨hst.rep, hst.p1, hst.p2, fun t => ?_, by simp, hst.defers, hst.below, hst.bs, hst.grow⟩
    rw [fget_fset]
    by_cases ht : a.tmps.size = t
    · subst ht; simp; exact hv
    · rw [if_neg ht]
      have := hst.fr t
      have e : (a.tmps.push v).getD t undef = a.tmps.getD t undef := by
        simp only [Array.getD_eq_getD_getElem?, Array.getElem?_push]
        rw [if_neg (fun e => ht e.symm)]
      simp only [e]; exact this
  obtain ⟨u, hu, hr⟩ := load_sound (P := P) (x := x) hst2 (o := ⟨none, .load t (.tmp a.tmps.size), 0, "", #[], none⟩) (by simp [loadOp, ttOf, hti, evalO, fget_fset, hrow, hp])
  refine ⟨u, ?_, hr⟩
  have h1 := hu w (Ext.refl w)
  obtain ⟨b, oo, _, rfl⟩ := hv.ptr_inv
  simp only [execOp, Act.eval, Instr.loadAt, Sem.run_bind, Sem.run_pure] at h1
  simp only [Array.getD_eq_getD_getElem?, Array.getElem?_push_size, Option.getD_some, Instr.sureAddr, Sem.run_pure, Result.andThen_ok] at h1
  simp only [Sem.run_bind, asAddr, Sem.run_pure, Result.andThen_ok]
  cases hr2 : (loadVar t ⟨b, oo + o, none⟩).run P w with
  | ok y w1 => rw [hr2] at h1; simp only [Result.andThen_ok, Result.ok.injEq, Next.value.injEq] at h1; obtain ⟨rfl, rfl⟩ := h1; rfl
  | halt y w1 => rw [hr2] at h1; simp only [Result.andThen_halt, reduceCtorEq] at h1

theorem lresL_sound (hst : ST cx N ι per F H a w) (l : List ResultVar) : ∀ (xs : List LV) (acc : Array Value), lresL (ttOf P) F H l = some xs →
    ∃ us : List Value, (l.foldlM (fun (bs : Array Value) (r : ResultVar) => bs.push <$> (match r with | .tmp t => pure (a.tmps.getD t undef) | .cell c t => do loadVar t (← asAddr (a.tmps.getD c undef)) : Sem Value)) acc).run P w = .ok (acc ++ us.toArray) w ∧ VL w ι per xs us := by
  induction l with
  | nil => intro xs acc h; obtain rfl := Option.some.inj h; exact ⟨[], by simp, .nil⟩
  | cons r l ih =>
    intro xs acc h
    cases r with
    | tmp t =>
      simp only [lresL, Option.map_eq_some_iff] at h
      obtain ⟨ys, hys, rfl⟩ := h
      obtain ⟨us, hus, hl⟩ := ih ys (acc.push (a.tmps.getD t undef)) hys
      refine ⟨a.tmps.getD t undef :: us, ?_, (VL.one (hst.fr t)).append hl⟩
      simp only [List.foldlM_cons, Sem.run_bind, Sem.run_map, Sem.run_pure, Result.andThen_ok, hus]
      simp
    | cell c t =>
      simp only [lresL] at h
      split at h
      · rename_i ti hh oo hti e
        split at h
        · rename_i cs hrow
          split at h
          · rename_i y ys hy hys
            obtain rfl := Option.some.inj h
            have hv := hst.fr c
            rw [e] at hv
            obtain ⟨u, hu, hr⟩ := loadVar_sound (P := P) hst hti hv hrow hy
            obtain ⟨us, hus, hl⟩ := ih ys (acc.push u) hys
            refine ⟨u :: us, ?_, (VL.one hr).append hl⟩
            simp only [List.foldlM_cons, Sem.run_bind, Sem.run_map] at hu ⊢
            rw [hu]
            simp only [Result.andThen_ok, hus]
            simp
          · cases h
        · cases h
      · cases h

theorem lres_sound (hst : ST cx N ι per F H a w) {fn : Func} (h : lres (ttOf P) fn F H = some x) : ∃ u, (results fn a.tmps).run P w = .ok u w ∧ VR w per ι x u := by
  unfold lres at h
  have key : ∀ xs, lresL (ttOf P) F H fn.results.toList = some xs → ∃ us : List Value, (fn.results.mapM fun | .tmp t => pure (a.tmps.getD t undef) | .cell c t => do loadVar t (← asAddr (a.tmps.getD c undef)) : Sem (Array Value)).run P w = .ok us.toArray w ∧ VL w ι per xs us := by
    intro xs hxs
    obtain ⟨us, hus, hl⟩ := lresL_sound (P := P) hst fn.results.toList xs #[] hxs
    refine ⟨us, ?_, hl⟩
    rw [Array.mapM_eq_foldlM, ← Array.foldlM_toList]
    simpa using hus
  split at h
  · rename_i y hy
    obtain rfl := Option.some.inj h
    obtain ⟨us, hus, hl⟩ := key _ hy
    have h1 : us.length = 1 := by have := hl.1; simpa using this.symm
    obtain ⟨u, rfl⟩ := List.length_eq_one_iff.1 h1
    refine ⟨u, ?_, ?_⟩
    · simp only [results, Sem.run_bind]
      erw [hus]
      simp
    · have := hl.2 0 (by simp)
      simpa using this
  · rename_i l hn hl
    obtain rfl := Option.some.inj h
    obtain ⟨us, hus, hvl⟩ := key _ hl
    refine ⟨.tuple us.toArray, ?_, .tup hvl.1 hvl.2⟩
    have hne : ¬ us.length = 1 := by
      intro h1
      rw [← hvl.1] at h1
      obtain ⟨y, rfl⟩ := List.length_eq_one_iff.1 h1
      exact hn y rfl
    simp only [results, Sem.run_bind]
    erw [hus]
    simp [hne]
  · cases h

end

/-- A contract out of a walk of the body. -/
theorem lcalls_of_lwp {P : Program} {f : Nat} {fn : Func} {c : Code} {args : List LV} {H : Hp} {R : LV → Hp → Prop} (hf : P.funcs[f]? = some fn) (hb : fn.body = some c) (hc : callable P f = true)
    (h : Lwp P ⟨args.length + (fn.ntmps - args.length), H.length⟩ c (retQ P fn R) (frameOf 0 args) H) : LC P f args H R := by
  refine ⟨hc, fun kp per ι w vs hrep hkp hper hvl => ?_⟩
  refine calls_of_wp hf hb ?_
  have hs : SR ⟨kp, per, w, ι⟩ ⟨args.length + (fn.ntmps - args.length), H.length⟩ (frameOf 0 args) H { tmps := vs.toArray ++ Array.replicate (fn.ntmps - vs.toArray.size) undef, defers := [] } w := by
    refine ⟨ι, per, hrep, fun b hb => .inl hb, fun b hb => hb, fun t => ?_, by simp [hvl.1], rfl, Kept.refl _ _, hkp, hrep.len, fun h _ => rfl⟩
    rw [fget_frameOf]
    simp only [Nat.zero_le, if_true, Nat.sub_zero]
    cases ht : args[t]? with
    | none => exact .dead _
    | some x =>
      obtain ⟨v, hv, hr⟩ := hvl.get ht
      have hlt : t < vs.length := by
        rcases Nat.lt_or_ge t vs.length with h' | h'
        · exact h'
        · simp [List.getElem?_eq_none h'] at hv
      have e : (vs.toArray ++ Array.replicate (fn.ntmps - vs.toArray.size) undef).getD t undef = v := by
        simp only [Array.getD_eq_getD_getElem?]
        rw [Array.getElem?_append_left (by simpa using hlt)]
        simp [hv]
      simp only [Option.getD_some]
      show VR w per ι x ((vs.toArray ++ Array.replicate (fn.ntmps - vs.toArray.size) undef).getD t undef)
      rw [e]
      exact hr
  refine wp_mono (h _ _ w hs) fun e a' w' ⟨F', H', q, s⟩ => ?_
  obtain ⟨ι', per', hst⟩ := s.st
  have fin : (∃ x, lres (ttOf P) fn F' H' = some x ∧ R x H') → a'.defers = [] ∧ ∃ v, (results fn a'.tmps).run P w' = .ok v w' ∧ LEnd R kp per ι w (.returned v) w' := by
    intro ⟨x, hx, hR⟩
    obtain ⟨u, hu, hr⟩ := lres_sound (P := P) hst hx
    exact ⟨hst.defers, u, hu, u, x, H', ι', per', rfl, hR, hst.below, hst.rep, hr, hst.p1, hst.p2, fun h hh => hst.grow.2 h (by rw [← hst.grow.1]; exact hh)⟩
  cases e with
  | normal => exact fin q
  | ret => exact fin q
  | _ => exact q.elim

end Go.Lite
