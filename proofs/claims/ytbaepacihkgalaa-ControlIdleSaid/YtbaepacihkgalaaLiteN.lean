/- Lite, parts L M N. -/
import Derived.Test.YtbaepacihkgalaaLiteK
import Derived.Scope
set_option linter.unusedVariables false
set_option linter.unusedSimpArgs false

/- Lite, part L: regions; forgetting and moving rows. -/
namespace Go.Lite
open Go Go.RowKit
set_option linter.unusedVariables false

def lput : Option Nat → LV → Fr → Fr
  | none, _, F => F
  | some d, x, F => fset F d x

/-- Does the operation come up? -/
def wantedL (ops : Array Oper) (o : Oper) (F : Fr) : Option Bool :=
  match o.guard with
  | none => some true
  | some (j, want) => match (ops[j]?).bind (·.dst) with
    | none => some false
    | some s => match fget F s with
      | .bool b => some (b == want)
      | .und => some false
      | _ => none

/-- What a function is handed: its first arguments, if they are given, or what it has captured. -/
def callArgs (cap as : List LV) : List LV := match isUnd cap with
  | true => cap.drop 1 ++ as
  | false => as ++ cap
theorem callArgs_on {cap as : List LV} (h : isUnd cap = true) : callArgs cap as = cap.drop 1 ++ as := by unfold callArgs; rw [h]
theorem callArgs_off {cap as : List LV} (h : isUnd cap = false) : callArgs cap as = as ++ cap := by unfold callArgs; rw [h]
/-- One operation. -/
def stepOp (P : Program) (o : Op) (K : LV → Fr → Hp → Prop) (F : Fr) (H : Hp) : Prop :=
  match pureOp (ttOf P) F o with
  | some x => K x F H
  | none => match loadOp (ttOf P) F H o with
    | some x => K x F H
    | none => match effN (ttOf P) F H o with
      | some (x, H') => K x F H'
      | none => match o with
        | .call ⟨.value g, args, _⟩ => match evalO F g with
          | .fn f cap => callK P f (callArgs cap (args.toList.map (evalO F))) H fun x H' => K x F H'
          | _ => False
        | _ => False

def dstsOk (N : Nat) (ops : List Oper) : Bool := ops.all fun o => match o.dst with | some d => decide (d < N) | none => true

section
variable {P : Program} {cx : Ctx} {N : Dim} {ι : Pl} {per : Nat → Prop} {F F' : Fr} {H H' : Hp} {a : Act} {w : World} {x : LV}

theorem ST.put (hst : ST cx N ι per F H a w) {d : Option Nat} (hd : ∀ k, d = some k → k < N.n) {v : Value} (hv : VR w per ι x v) : ST cx N ι per (lput d x F) H (a.put d v) w := by
  cases d with
  | none => exact hst
  | some k =>
    have hk := hd k rfl
    refine ⟨hst.rep, hst.p1, hst.p2, fun t => ?_, by simp [Act.put, hst.size], hst.defers, hst.below, hst.bs, hst.grow⟩
    show VR w per ι (fget (fset F k x) t) ((a.tmps.setIfInBounds k v).getD t undef)
    rw [fget_fset]
    by_cases h : k = t
    · subst h
      rw [if_pos rfl]
      have : (a.tmps.setIfInBounds k v).getD k undef = v := by
        have : k < a.tmps.size := by rw [hst.size]; exact hk
        simp [this]
      rw [this]; exact hv
    · rw [if_neg h]
      have : (a.tmps.setIfInBounds k v).getD t undef = a.tmps.getD t undef := by
        simp only [Array.getD_eq_getD_getElem?, Array.getElem?_setIfInBounds]
        rw [if_neg h]
      rw [this]; exact hst.fr t

theorem wanted_sound (hst : ST cx N ι per F H a w) {ops : Array Oper} {o : Oper} {b : Bool} (h : wantedL ops o F = some b) : Region.wanted o (yielded ops a.tmps) = b := by
  unfold wantedL at h
  unfold Region.wanted
  split at h
  · rename_i hg; simp only [Option.some.injEq] at h; subst h; simp [hg]
  · rename_i j want hg
    simp only [hg]
    split at h
    · rename_i hd
      simp only [Option.some.injEq] at h; subst h
      simp [yielded, hd]
    · rename_i s hs
      have hv := hst.fr s
      have hcase : ∀ c, VR w per ι (.bool c) (a.tmps.getD s undef) → a.tmps[s]? = some (.bool c) := by
        intro c hc
        generalize hz : a.tmps.getD s undef = z at hc
        cases hc
        simp only [Array.getD_eq_getD_getElem?] at hz
        cases hq : a.tmps[s]? with
        | none => rw [hq] at hz; simp [undef] at hz
        | some q => rw [hq] at hz; simp at hz; rw [hz]
      split at h
      · rename_i c hc
        rw [hc] at hv
        have := hcase c hv
        simp only [Option.some.injEq] at h; subst h
        simp only [yielded, hs, Option.bind_some, this]
        cases c <;> cases want <;> rfl
      · rename_i hc
        rw [hc] at hv
        simp only [Option.some.injEq] at h; subst h
        generalize hz : a.tmps.getD s undef = z at hv
        cases hv
        simp only [Array.getD_eq_getD_getElem?] at hz
        cases hq : a.tmps[s]? with
        | none => simp [yielded, hs, hq]
        | some q =>
          rw [hq] at hz
          simp only [Option.getD_some] at hz
          subst hz
          simp [yielded, hs, hq, undef]
      · cases h

theorem callFunc_enter {f : Nat} (hc : callable P f = true) (args : Array Value) : (callFunc f args).run P w = .ok (.enter f args) w := by
  unfold callable at hc
  split at hc
  · rename_i fn hfn
    simp only [Bool.and_eq_true, Bool.not_eq_eq_eq_not, Bool.not_true] at hc
    simp only [callFunc, Sem.run_bind, run_program, Result.andThen_ok, hfn, hc.1, hc.2, Bool.false_eq_true, if_false, Sem.run_pure]
  · cases hc

theorem stepOp_defer {c : Call} {K : LV → Fr → Hp → Prop} (h : stepOp P (.defer c) K F H) : False := by
  unfold stepOp at h
  simp [pureOp, loadOp, effN, effOp] at h

theorem sem_round {o : Oper} {l : Nat} {ρ : Operand → Value} (h : ∀ c, o.op ≠ .defer c) : o.semAt (some l) ρ = execOp ρ o := by
  unfold Oper.semAt
  split
  · rename_i l' c h1 hc; exact absurd hc (h c)
  · rfl

theorem runIn {o : Oper} {next : Act → World → Prop} {Q : Exit → Act → World → Prop} {r : Result Next} (hnd : ∀ c, o.op ≠ .defer c) (hr : (execOp a.eval o).run P w = r) (hu : o.uponIn (fen cx) 0 P a next Q r) : o.wpIn (fen cx) 0 P a w next Q :=
  ⟨fun _ _ => trivial, by
    have : o.semAt (fen cx).round a.eval = execOp a.eval o := by
      cases hrd : (fen cx).round with
      | none => rfl
      | some l => exact sem_round hnd
    rw [this, hr]; exact hu⟩

/-- One operation, carried out. -/
theorem step_sound {ops : Array Oper} {o : Oper} {K : LV → Fr → Hp → Prop} {next : Act → World → Prop} {Q : Exit → Act → World → Prop} (hd : ∀ k, o.dst = some k → k < N.n)
    (hnext : ∀ x F' H' ι' per' v w', K x F' H' → ST cx N ι' per' F' H' a w' → VR w' per' ι' x v → next (a.put o.dst v) w')
    (hst : ST cx N ι per F H a w) (h : stepOp P o.op K F H) : o.wpIn (fen cx) 0 P a w next Q := by
  have hsem : ∀ {r : Result Next}, (execOp a.eval o).run P w = r → o.uponIn (fen cx) 0 P a next Q r → o.wpIn (fen cx) 0 P a w next Q := fun hr hu => runIn (fun c hc => by rw [hc] at h; exact stepOp_defer h) hr hu
  unfold stepOp at h
  split at h
  · rename_i x hx
    obtain ⟨u, hu, hr⟩ := pure_sound (P := P) hst.fr hx
    refine hsem (hu w) ?_
    exact hnext _ _ _ _ _ _ _ h hst hr
  · split at h
    · rename_i x hx
      obtain ⟨u, hu, hr⟩ := load_sound (P := P) hst hx
      refine hsem (hu w (Ext.refl w)) ?_
      exact hnext _ _ _ _ _ _ _ h hst hr
    · split at h
      · rename_i x H' hx
        obtain ⟨_, u, w', ι', hu, hst', hr, _⟩ := effN_sound (P := P) hst hx
        rcases hu with hu | ⟨hu, rfl⟩
        · refine hsem hu ?_; exact hnext _ _ _ _ _ _ _ h hst' hr
        · refine hsem hu ?_; exact hnext _ _ _ _ _ _ _ h hst' hr
      · split at h
        · rename_i g args tys hop
          split at h
          · rename_i f cap hg
            have hgv := hst.fr.eval g
            rw [hg] at hgv
            generalize hgg : a.eval g = gv at hgv
            cases hgv with
            | @fn _ _ _ vs hn hv =>
              cases hu : isUnd cap with
              | true =>
                rw [callArgs_on hu] at h
                have hvl : VL w ι per (cap.drop 1 ++ args.toList.map (evalO F)) (vs.drop 1 ++ args.toList.map a.eval) := VL.append ⟨by simp only [List.length_drop, hn], fun i hi => by
                  have hi' : i < cap.length - 1 := by simpa using hi
                  rw [List.getElem_drop]
                  have := hv (1 + i) (by omega)
                  rw [List.getD_eq_getElem?_getD, List.getElem?_drop, ← List.getD_eq_getElem?_getD]
                  exact this⟩ (evalL hst.fr args.toList)
                obtain ⟨hc, hcalls⟩ := call_sound (P := P) hst hvl h
                have hrun : (execOp a.eval o).run P w = .ok (.enter f (vs.drop 1 ++ args.toList.map a.eval).toArray) w := by
                  obtain ⟨dst, op, ty, pos, after, guard⟩ := o
                  simp only at hop
                  subst hop
                  rw [fnV_on hu] at hgg
                  simp only [execOp, resolve, hgg, Deferred.ofValue, Sem.run_bind, Sem.run_pure, Result.andThen_ok, invoke]
                  have e : ((vs.drop 1).toArray ++ args.map a.eval ++ #[] : Array Value) = (vs.drop 1 ++ args.toList.map a.eval).toArray := by apply Array.ext'; simp
                  rw [e]
                  exact callFunc_enter hc _
                refine hsem hrun ?_
                rw [Oper.uponIn_enter]
                refine ⟨fun hd => (by cases hd), CallsIn.mono ((callsIn_wide (n := 0)).2 hcalls) fun e w' ⟨v, x, H', ι', per', he, hK, hst', hr⟩ => ?_⟩
                subst he
                exact hnext _ _ _ _ _ _ _ hK hst' hr
              | false =>
              rw [callArgs_off hu] at h
              rw [fnV_off hu] at hgg
              have hvl := (evalL hst.fr args.toList).append ⟨hn, hv⟩
              obtain ⟨hc, hcalls⟩ := call_sound (P := P) hst hvl h
              have hrun : (execOp a.eval o).run P w = .ok (.enter f (args.toList.map a.eval ++ vs).toArray) w := by
                obtain ⟨dst, op, ty, pos, after, guard⟩ := o
                simp only at hop
                subst hop
                simp only [execOp, resolve, hgg, Deferred.ofValue, Sem.run_bind, Sem.run_pure, Result.andThen_ok, invoke]
                have e : (#[] ++ args.map a.eval ++ vs.toArray : Array Value) = (args.toList.map a.eval ++ vs).toArray := by apply Array.ext'; simp
                rw [e]
                exact callFunc_enter hc _
              refine hsem hrun ?_
              rw [Oper.uponIn_enter]
              refine ⟨fun hd => (by cases hd), CallsIn.mono ((callsIn_wide (n := 0)).2 hcalls) fun e w' ⟨v, x, H', ι', per', he, hK, hst', hr⟩ => ?_⟩
              subst he
              exact hnext _ _ _ _ _ _ _ hK hst' hr
          · exact h.elim
        · exact h.elim

end

end Go.Lite

/- Lite, part M: code in few words; what is to be shown of it. -/
namespace Go.Lite
open Go Go.RowKit
set_option linter.unusedVariables false

structure SO where
  dst : Option Nat
  op : Op
  g : Option (Nat × Bool)

inductive SC where
  | skip
  | reg (ops : List SO)
  | regd (ops : List SO) (af : List (List Nat))
  | seq (a b : SC)
  | cond (c : Operand) (a b : SC)
  | block (id : Nat) (c : SC)
  | loop (c : SC)
  | scope (c : SC)
  | exit (id : Nat)
  | ret
  | rf (g : Operand) (ps : List Nat) (a b : SC)

def slimOps (ops : Array Oper) : List Oper → Option (List SO)
  | [] => some []
  | o :: r => match o.guard, slimOps ops r with
    | none, some l => some (⟨o.dst, o.op, none⟩ :: l)
    | some (j, b), some l => (match (ops[j]?).bind (·.dst) with | some s => some (⟨o.dst, o.op, some (s, b)⟩ :: l) | none => none)
    | _, none => none

/-- The operations that this one waits for. -/
def waits (o : Oper) : List Nat := (o.after.toList.filter (Region.binds .any)).map (·.on)

def slim (N : Nat) : Code → Option SC
  | .region _ ops false => if dstsOk N ops.toList then (slimOps ops ops.toList).map .reg else none
  | .region _ ops true => if dstsOk N ops.toList then (slimOps ops ops.toList).map fun l => .regd l (ops.toList.map waits) else none
  | .seq a b => match slim N a, slim N b with | some x, some y => some (.seq x y) | _, _ => none
  | .cond c a b => match slim N a, slim N b with | some x, some y => some (.cond c x y) | _, _ => none
  | .block id c => (slim N c).map (.block id)
  | .loop c => (slim N c).map .loop
  | .scope c => (slim N c).map .scope
  | .rangeFunc g ps a b => match slim N a, slim N b with | some x, some y => some (.rf g ps.toList x y) | _, _ => none
  | .exit id => some (.exit id)
  | .ret => some .ret
  | .skip => some .skip
  | .label _ => some .skip
  | _ => none

def wantS (g : Option (Nat × Bool)) (F : Fr) : Option Bool :=
  match g with
  | none => some true
  | some (s, want) => match fget F s with
    | .bool b => some (b == want)
    | .und => some false
    | _ => none

theorem lwp_cond {P : Program} {N : Dim} {c : Operand} {x y : Code} {Q : LPost} {F : Fr} {H : Hp} {t : Bool} (hc : evalO F c = .bool t) (h1 : t = true → Lwp P N x Q F H) (h2 : t = false → Lwp P N y Q F H) :
    Lwp P N (.cond c x y) Q F H := by
  intro cx a w hs
  obtain ⟨ι, per, hst⟩ := hs.st
  have hv := hst.fr.eval c
  rw [hc] at hv
  generalize hz : a.eval c = z at hv
  cases hv
  exact wpIn_cond_split hz (fun e => h1 e cx a w hs) (fun e => h2 e cx a w hs)


section scope
variable {P : Program} {Fe : Fence} {n : Nat} {b : Frame} {a : Act} {k : List Item} {cs : List Frame} {w : World} {Q : Exit → Act → World → Prop}
theorem stepR_scope {c : Code} : step P (lone (b.atR a (.code (.scope c) :: k)) cs w) = .next (lone (b.atR a (.code c :: .inScope c :: k)) cs w) :=
  step_lone_go (by simp [stepG, stepG.exec, Frame.atR])
theorem stepR_inScope {c : Code} : step P (lone (b.atR a (.inScope c :: k)) cs w) = .next (lone (b.atR a k) cs w) :=
  step_lone_go (by simp [stepG, stepG.exec, Frame.atR])
theorem wpIn_scope_straight {c : Code} (h : c.wpIn Fe n P (Exit.noGoto Q) a w) : (Code.scope c).wpIn Fe n P Q a w := by
  intro b k cs hro hb hr
  have h0 : (lone (b.atR a (.code (.scope c) :: k)) cs w).fenced P Fe := fenced_calm hb hr rfl
  obtain ⟨e, a₁, w₁, hq, harr⟩ := h b (.inScope c :: k) cs hro hb hr
  cases e with
  | normal => exact ⟨.normal, a₁, w₁, hq, .head h0 stepR_scope (StepsIn.trans harr (.one (fenced_calm hb hr rfl) stepR_inScope))⟩
  | exit id => exact ⟨.exit id, a₁, w₁, hq, .of_steps (.one h0 stepR_scope) ⟨fun k' hk => harr.1 k' (by simp [exitTo, hk]), fun hi hk => harr.2 hi (by simp [exitTo, hk])⟩⟩
  | goto l => exact hq.elim
  | ret => exact ⟨_, a₁, w₁, hq, .of_steps (.one h0 stepR_scope) harr⟩
  | panic ch => exact ⟨_, a₁, w₁, hq, .of_steps (.one h0 stepR_scope) harr⟩
  | outgrown => exact ⟨_, a₁, w₁, hq, .of_steps (.one h0 stepR_scope) harr⟩
end scope

theorem lwp_scope {P : Program} {N : Dim} {c : Code} {Q : LPost} {F : Fr} {H : Hp} (h : Lwp P N c (fun e F H => match e with | .goto _ => False | e => Q e F H) F H) : Lwp P N (.scope c) Q F H := by
  intro cx a w hs
  refine wpIn_scope_straight (wpIn_mono (h cx a w hs) fun e a' w' ⟨F', H', q, s⟩ => ?_)
  cases e <;> first | exact q.elim | exact ⟨F', H', q, s⟩

theorem wantS_eq {ops : Array Oper} {o : Oper} {F : Fr} {j s : Nat} {b : Bool} (hg : o.guard = some (j, b)) (hs : (ops[j]?).bind (·.dst) = some s) : wantedL ops o F = wantS (some (s, b)) F := by
  unfold wantedL wantS
  rw [hg]
  simp only [hs]
  all_goals (cases fget F s <;> rfl)

/-- F', H' says no more of the state than F, H. -/
def Wk (N : Dim) (F' : Fr) (H' : Hp) (F : Fr) (H : Hp) : Prop := ∀ cx a w, SR cx N F H a w → SR cx N F' H' a w

theorem Wk.refl {N : Dim} (F : Fr) (H : Hp) : Wk N F H F H := fun _ _ _ h => h
theorem Wk.trans {N : Dim} {F F' F'' : Fr} {H H' H'' : Hp} (h : Wk N F'' H'' F' H') (k : Wk N F' H' F H) : Wk N F'' H'' F H := fun b a w' s => h b a w' (k b a w' s)
theorem Wk.frame {N : Dim} {F F' : Fr} {H : Hp} (h : ∀ t, fget F' t = fget F t ∨ fget F' t = .dead) : Wk N F' H F H := fun _ _ _ s => s.weaken h

/-- Each of the slots of F' stands in F. -/
def subF : Fr → Fr → Prop
  | [], _ => True
  | (t, v) :: r, F => fget F t = v ∧ subF r F

theorem subF_get {F F' : Fr} (h : subF F' F) (t : Nat) : fget F' t = fget F t ∨ fget F' t = .dead := by
  induction F' with
  | nil => exact .inr rfl
  | cons p r ih =>
    obtain ⟨s, v⟩ := p
    rw [fget_cons]
    split
    · rename_i e; subst e; exact .inl h.1.symm
    · exact ih h.2

theorem Wk.sub {N : Dim} {F F' : Fr} {H : Hp} (h : subF F' F) : Wk N F' H F H := .frame (subF_get h)

/-- What is to be shown of a list of operations. -/
def OpsW (P : Program) (N : Dim) (l : List SO) (Q : Fr → Hp → Prop) (F : Fr) (H : Hp) : Prop :=
  ∀ (ops : Array Oper) (l0 : List Oper), slimOps ops l0 = some l → dstsOk N.n l0 = true → ∀ cx a w, SR cx N F H a w →
    wpListIn (fen cx) 0 P ops (fun e a w => e = .normal ∧ ∃ F' H', Q F' H' ∧ SR cx N F' H' a w) l0 a w

/-- What is to be shown of a piece of code. -/
def Lw (P : Program) (N : Dim) (s : SC) (Q : LPost) (F : Fr) (H : Hp) : Prop := ∀ c, slim N.n c = some s → Lwp P N c Q F H

theorem slim_nil {ops : Array Oper} {l0 : List Oper} (h : slimOps ops l0 = some []) : l0 = [] := by
  cases l0 with
  | nil => rfl
  | cons o r =>
    simp only [slimOps] at h
    split at h
    · cases h
    · split at h <;> cases h
    · cases h

theorem slim_cons {ops : Array Oper} {l0 : List Oper} {s : SO} {r : List SO} (h : slimOps ops l0 = some (s :: r)) :
    ∃ o l1, l0 = o :: l1 ∧ slimOps ops l1 = some r ∧ o.dst = s.dst ∧ o.op = s.op ∧ ∀ F, wantedL ops o F = wantS s.g F := by
  cases l0 with
  | nil => cases h
  | cons o l1 =>
    simp only [slimOps] at h
    split at h
    · rename_i l' hg hl'
      simp only [Option.some.injEq, List.cons.injEq] at h
      obtain ⟨rfl, rfl⟩ := h
      exact ⟨o, l1, rfl, hl', rfl, rfl, fun F => by unfold wantedL wantS; rw [hg]⟩
    · rename_i j b l' hg hl'
      split at h
      · rename_i s' hs
        simp only [Option.some.injEq, List.cons.injEq] at h
        obtain ⟨rfl, rfl⟩ := h
        exact ⟨o, l1, rfl, hl', rfl, rfl, fun F => wantS_eq hg hs⟩
      · cases h
    · cases h

theorem dsts_cons {N : Nat} {o : Oper} {r : List Oper} (h : dstsOk N (o :: r) = true) : (∀ k, o.dst = some k → k < N) ∧ dstsOk N r = true := by
  simp only [dstsOk, List.all_cons, Bool.and_eq_true] at h
  refine ⟨fun k hk => ?_, h.2⟩
  have := h.1
  rw [hk] at this
  simpa using this

section
variable {P : Program} {N : Dim} {l r : List SO} {F : Fr} {H : Hp}

theorem OpsW.nil {Q : Fr → Hp → Prop} (h : Q F H) : OpsW P N [] Q F H := by
  intro ops l0 hs _ cx a w hst
  rw [slim_nil hs]
  exact wpListIn_nil ⟨rfl, F, H, h, hst⟩

theorem OpsW.weaken {Q : Fr → Hp → Prop} {F' : Fr} {H' : Hp} (hw : Wk N F' H' F H) (h : OpsW P N l Q F' H') : OpsW P N l Q F H :=
  fun ops l0 hs hd cx a w hst => h ops l0 hs hd cx a w (hw _ _ _ hst)

theorem OpsW.step {Q : Fr → Hp → Prop} {o : SO} (hw : wantS o.g F = some true) (h : stepOp P o.op (fun x F' H' => OpsW P N r Q (lput o.dst x F') H') F H) : OpsW P N (o :: r) Q F H := by
  intro ops l0 hs hd cx a w hsr
  obtain ⟨o', l1, rfl, hs1, e1, e2, e3⟩ := slim_cons hs
  obtain ⟨hd1, hd2⟩ := dsts_cons hd
  obtain ⟨ι, per, hst⟩ := hsr.st
  refine wpListIn_step fun K hK => ?_
  rw [wanted_sound hst (by rw [e3]; exact hw)]
  simp only [if_true]
  rw [← e2] at h
  refine step_sound (ops := ops) hd1 (fun x F' H' ι' per' v w' hk hst' hr => hK _ _ ?_) hst h
  refine hk ops l1 hs1 hd2 cx _ _ ?_
  rw [← e1]
  exact .of (hst'.put hd1 hr)

theorem OpsW.skip {Q : Fr → Hp → Prop} {o : SO} (hw : wantS o.g F = some false) (h : OpsW P N r Q (lput o.dst .und F) H) : OpsW P N (o :: r) Q F H := by
  intro ops l0 hs hd cx a w hsr
  obtain ⟨o', l1, rfl, hs1, e1, e2, e3⟩ := slim_cons hs
  obtain ⟨hd1, hd2⟩ := dsts_cons hd
  obtain ⟨ι, per, hst⟩ := hsr.st
  refine wpListIn_step fun K hK => ?_
  rw [wanted_sound hst (by rw [e3]; exact hw)]
  simp only [Bool.false_eq_true, if_false]
  refine ⟨fun _ _ => trivial, hK _ _ (h ops l1 hs1 hd2 cx _ _ ?_)⟩
  rw [← e1]
  exact .of (hst.put hd1 .und)

theorem subF_bool {s : Nat} {b : Bool} (h : fget F s = .bool b) (t : Nat) : fget ((s, .bool b) :: F) t = fget F t ∨ fget ((s, .bool b) :: F) t = .dead := by
  rw [fget_cons]
  split
  · rename_i e; subst e; exact .inl h.symm
  · exact .inl rfl

theorem ST.frame {cx : Ctx} {ι : Pl} {per : Nat → Prop} {F' : Fr} {a : Act} {w : World} (h : ∀ t, fget F' t = fget F t ∨ fget F' t = .dead)
    (hst : ST cx N ι per F H a w) : ST cx N ι per F' H a w :=
  ⟨hst.rep, hst.p1, hst.p2, fun t => by rcases h t with e | e; · rw [e]; exact hst.fr t
                                        · rw [e]; exact .dead _, hst.size, hst.defers, hst.below, hst.bs, hst.grow⟩

end
end Go.Lite

/- Lite, part N: how a piece of code is walked; contracts. -/
namespace Go.Lite
open Go Go.RowKit
set_option linter.unusedVariables false

/-- There is a value, and what is asked holds of it. -/
def ocase {α : Type} (x : Option α) (K : α → Prop) : Prop :=
  match x with
  | some a => K a
  | none => False

section
variable {P : Program} {N : Dim} {Q Q' : LPost} {F : Fr} {H : Hp}

theorem Lw.mono {s : SC} (h : Lw P N s Q F H) (hq : ∀ e F H, Q e F H → Q' e F H) : Lw P N s Q' F H := fun c hc => (h c hc).mono hq

theorem Lw.weaken {s : SC} {F' : Fr} {H' : Hp} (hw : Wk N F' H' F H) (h : Lw P N s Q F' H') : Lw P N s Q F H :=
  fun c hc cx a w hs => h c hc cx a w (hw _ _ _ hs)

theorem slim_inv {N : Nat} {c : Code} {s : SC} (h : slim N c = some s) : match s with
    | .skip => c = .skip ∨ ∃ l, c = .label l
    | .reg l => ∃ id ops, c = .region id ops false ∧ dstsOk N ops.toList = true ∧ slimOps ops ops.toList = some l
    | .regd l af => ∃ id ops, c = .region id ops true ∧ dstsOk N ops.toList = true ∧ slimOps ops ops.toList = some l ∧ af = ops.toList.map waits
    | .seq a b => ∃ x y, c = .seq x y ∧ slim N x = some a ∧ slim N y = some b
    | .cond o a b => ∃ x y, c = .cond o x y ∧ slim N x = some a ∧ slim N y = some b
    | .block id a => ∃ x, c = .block id x ∧ slim N x = some a
    | .loop a => ∃ x, c = .loop x ∧ slim N x = some a
    | .scope a => ∃ x, c = .scope x ∧ slim N x = some a
    | .exit id => c = .exit id
    | .ret => c = .ret
    | .rf g ps a b => ∃ ps' x y, c = .rangeFunc g ps' x y ∧ ps'.toList = ps ∧ slim N x = some a ∧ slim N y = some b := by
  cases c with
  | skip => obtain rfl := Option.some.inj h; exact .inl rfl
  | label l => obtain rfl := Option.some.inj h; exact .inr ⟨l, rfl⟩
  | exit id => obtain rfl := Option.some.inj h; rfl
  | ret => obtain rfl := Option.some.inj h; rfl
  | region id ops draw =>
    cases draw with
    | false =>
      simp only [slim] at h
      split at h
      · rename_i hN
        obtain ⟨sl, hsl, rfl⟩ := Option.map_eq_some_iff.1 h
        exact ⟨id, ops, rfl, hN, hsl⟩
      · cases h
    | true =>
      simp only [slim] at h
      split at h
      · rename_i hN
        obtain ⟨sl, hsl, rfl⟩ := Option.map_eq_some_iff.1 h
        exact ⟨id, ops, rfl, hN, hsl, rfl⟩
      · cases h
  | seq a b =>
    simp only [slim] at h
    split at h
    · rename_i x y hx hy
      obtain rfl := Option.some.inj h
      exact ⟨a, b, rfl, hx, hy⟩
    · cases h
  | cond o a b =>
    simp only [slim] at h
    split at h
    · rename_i x y hx hy
      obtain rfl := Option.some.inj h
      exact ⟨a, b, rfl, hx, hy⟩
    · cases h
  | rangeFunc g ps a b =>
    simp only [slim] at h
    split at h
    · rename_i x y hx hy
      obtain rfl := Option.some.inj h
      exact ⟨ps, a, b, rfl, rfl, hx, hy⟩
    · cases h
  | block id c =>
    obtain ⟨x, hx, rfl⟩ := Option.map_eq_some_iff.1 h
    exact ⟨c, rfl, hx⟩
  | loop c =>
    obtain ⟨x, hx, rfl⟩ := Option.map_eq_some_iff.1 h
    exact ⟨c, rfl, hx⟩
  | scope c =>
    obtain ⟨x, hx, rfl⟩ := Option.map_eq_some_iff.1 h
    exact ⟨c, rfl, hx⟩
  | _ => cases h

theorem Lw.skip (h : Q .normal F H) : Lw P N .skip Q F H := by
  intro c hc
  rcases slim_inv hc with rfl | ⟨l, rfl⟩
  · exact lwp_skip h
  · exact lwp_label h

theorem Lw.exit {id : Nat} (h : Q (.exit id) F H) : Lw P N (.exit id) Q F H := by
  intro c hc
  have e : c = .exit id := slim_inv hc
  subst e
  exact lwp_exit h

theorem Lw.ret (h : Q .ret F H) : Lw P N .ret Q F H := by
  intro c hc
  have e : c = .ret := slim_inv hc
  subst e
  exact lwp_ret h

theorem Lw.ops {l : List SO} (h : OpsW P N l (fun F H => Q .normal F H) F H) : Lw P N (.reg l) Q F H := by
  intro c hc
  obtain ⟨id, ops, rfl, hN, hs⟩ := slim_inv hc
  intro cx a w hst
  refine wpIn_mono (wpIn_region_list (h ops _ hs hN cx a w hst)) fun e a' w' ⟨he, F', H', hq, hst'⟩ => ?_
  subst he
  exact ⟨F', H', hq, hst'⟩

theorem Lw.scope {x : SC} (h : Lw P N x (fun e F H => match e with | .goto _ => False | e => Q e F H) F H) : Lw P N (.scope x) Q F H := by
  intro c hc
  obtain ⟨a, rfl, ha⟩ := slim_inv hc
  exact lwp_scope (h a ha)

theorem Lw.seq {x y : SC} (h : Lw P N x (seqQ (fun F H => Lw P N y Q F H) Q) F H) : Lw P N (.seq x y) Q F H := by
  intro c hc
  obtain ⟨a, b, rfl, ha, hb⟩ := slim_inv hc
  refine lwp_seq ((h a ha).mono fun e F' H' hq => ?_)
  cases e with
  | normal => exact hq b hb
  | _ => exact hq

/-- A piece, then what is known behind it, then the rest. -/
theorem Lw.cut {x y : SC} {α : Sort _} (I : α → Prop) (Fi : α → Fr) (Hi : α → Hp) (h : Lw P N x (seqQ (fun F H => ∃ i, I i ∧ Wk N (Fi i) (Hi i) F H) Q) F H)
    (k : ∀ i, I i → Lw P N y Q (Fi i) (Hi i)) : Lw P N (.seq x y) Q F H := by
  refine .seq (h.mono fun e F' H' hq => ?_)
  cases e with
  | normal =>
    obtain ⟨i, hi, hw⟩ := hq
    exact (k i hi).weaken hw
  | _ => exact hq

theorem Lw.cond {c : Operand} {x y : SC} {t : Bool} (hc : evalO F c = .bool t) (h1 : t = true → Lw P N x Q F H) (h2 : t = false → Lw P N y Q F H) : Lw P N (.cond c x y) Q F H := by
  intro c' hc'
  obtain ⟨a, b, rfl, ha, hb⟩ := slim_inv hc'
  exact lwp_cond hc (fun e => h1 e a ha) (fun e => h2 e b hb)

theorem Lw.block {id : Nat} {x : SC} (h : Lw P N x (blockQ id Q) F H) : Lw P N (.block id x) Q F H := by
  intro c hc
  obtain ⟨a, rfl, ha⟩ := slim_inv hc
  exact lwp_block (h a ha)

/-- A loop: at the head of each round the state is one of a family of states; each round that goes on lowers the number. -/
theorem Lw.loop {x : SC} {α : Sort _} (I : α → Prop) (m : α → Nat) (Fi : α → Fr) (Hi : α → Hp) (h0 : ∃ i, I i ∧ Wk N (Fi i) (Hi i) F H)
    (round : ∀ i, I i → Lw P N x (seqQ (fun F' H' => ∃ j, I j ∧ m j < m i ∧ Wk N (Fi j) (Hi j) F' H') Q) (Fi i) (Hi i)) : Lw P N (.loop x) Q F H := by
  obtain ⟨i0, hi0, hw0⟩ := h0
  intro c hc
  obtain ⟨a, rfl, ha⟩ := slim_inv hc
  refine lwp_loop (fun n F H => ∃ i, I i ∧ m i = n ∧ Wk N (Fi i) (Hi i) F H) ⟨i0, hi0, rfl, hw0⟩ fun n F H ⟨i, hi, hm, hw⟩ => ?_
  have := (round i hi).weaken hw
  refine (this a ha).mono fun e F' H' hq => ?_
  cases e with
  | normal =>
    obtain ⟨j, hj, hlt, hw'⟩ := hq
    exact ⟨m j, by omega, j, hj, rfl, hw'⟩
  | _ => exact hq

end

structure SF where
  n : Nat
  code : SC
  rs : List ResultVar

def slimF (P : Program) (f : Nat) : Option SF :=
  match P.funcs[f]? with
  | some fn => match fn.body with
    | some c => if fn.name == "runtime.NumGoroutine" then none else (slim fn.ntmps c).map fun s => ⟨fn.ntmps, s, fn.results.toList⟩
    | none => none
  | none => none

def resS (τ : TT) (rs : List ResultVar) (F : Fr) (H : Hp) : Option LV :=
  match lresL τ F H rs with
  | some [x] => some x
  | some l => some (.tup l)
  | none => none

/-- The way back. -/
def retS (P : Program) (rs : List ResultVar) (R : LV → Hp → Prop) : LPost
  | .normal, F, H => ocase (resS (ttOf P) rs F H) fun x => R x H
  | .ret, F, H => ocase (resS (ttOf P) rs F H) fun x => R x H
  | _, _, _ => False

/-- A contract, shown of the code in few words. -/
theorem lc {P : Program} {f : Nat} {sf : SF} {args : List LV} {H : Hp} {R : LV → Hp → Prop} (h : slimF P f = some sf) (ha : args.length ≤ sf.n)
    (hl : Lw P ⟨sf.n, H.length, false, none⟩ sf.code (retS P sf.rs R) (frameOf 0 args) H) : LC P f args H R := by
  unfold slimF at h
  split at h
  · rename_i fn hf
    split at h
    · rename_i c hb
      split at h
      · cases h
      · rename_i hname
        obtain ⟨s, hs, rfl⟩ := Option.map_eq_some_iff.1 h
        refine lcalls_of_lwp hf hb ?_ ?_
        · unfold callable
          simp only [hf, hb, Option.isNone_some, Bool.not_false, Bool.and_true]
          simpa using hname
        · have hN : args.length + (fn.ntmps - args.length) = fn.ntmps := by have : args.length ≤ fn.ntmps := ha; omega
          rw [hN]
          refine (hl c hs).mono fun e F H hq => ?_
          cases e with
          | normal =>
            simp only [retS] at hq
            unfold ocase at hq
            split at hq
            · rename_i x hx; exact ⟨x, hx, hq⟩
            · exact hq.elim
          | ret =>
            simp only [retS] at hq
            unfold ocase at hq
            split at hq
            · rename_i x hx; exact ⟨x, hx, hq⟩
            · exact hq.elim
          | _ => exact hq
    · cases h
  · cases h

end Go.Lite
