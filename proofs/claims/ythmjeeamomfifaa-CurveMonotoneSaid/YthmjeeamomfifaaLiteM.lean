/- Lite, part M: code in few words; what is to be shown of it. -/
import Derived.Test.YthmjeeamomfifaaLiteL
import Derived.Scope
namespace Go.Lite
open Go Go.RowKit
set_option linter.unusedVariables false

structure SO where
  dst : Option Nat
  op : Op
  g : Option (Nat × Bool)

inductive SC where
  | skip
  | reg (ops : List SO)
  | regd (ops : List SO) (af : List (List Nat))
  | seq (a b : SC)
  | cond (c : Operand) (a b : SC)
  | block (id : Nat) (c : SC)
  | loop (c : SC)
  | scope (c : SC)
  | exit (id : Nat)
  | ret

def slimOps (ops : Array Oper) : List Oper → Option (List SO)
  | [] => some []
  | o :: r => match o.guard, slimOps ops r with
    | none, some l => some (⟨o.dst, o.op, none⟩ :: l)
    | some (j, b), some l => (match (ops[j]?).bind (·.dst) with | some s => some (⟨o.dst, o.op, some (s, b)⟩ :: l) | none => none)
    | _, none => none

/-- The operations that this one waits for. -/
def waits (o : Oper) : List Nat := (o.after.toList.filter (Region.binds .any)).map (·.on)

def slim (N : Nat) : Code → Option SC
  | .region _ ops false => if dstsOk N ops.toList then (slimOps ops ops.toList).map .reg else none
  | .region _ ops true => if dstsOk N ops.toList then (slimOps ops ops.toList).map fun l => .regd l (ops.toList.map waits) else none
  | .seq a b => match slim N a, slim N b with | some x, some y => some (.seq x y) | _, _ => none
  | .cond c a b => match slim N a, slim N b with | some x, some y => some (.cond c x y) | _, _ => none
  | .block id c => (slim N c).map (.block id)
  | .loop c => (slim N c).map .loop
  | .scope c => (slim N c).map .scope
  | .exit id => some (.exit id)
  | .ret => some .ret
  | .skip => some .skip
  | .label _ => some .skip
  | _ => none

def wantS (g : Option (Nat × Bool)) (F : Fr) : Option Bool :=
  match g with
  | none => some true
  | some (s, want) => match fget F s with
    | .bool b => some (b == want)
    | .und => some false
    | _ => none

theorem lwp_cond {P : Program} {N : Dim} {c : Operand} {x y : Code} {Q : LPost} {F : Fr} {H : Hp} {t : Bool} (hc : evalO F c = .bool t) (h1 : t = true → Lwp P N x Q F H) (h2 : t = false → Lwp P N y Q F H) :
    Lwp P N (.cond c x y) Q F H := by
  intro cx a w hs
  obtain ⟨ι, per, hst⟩ := hs.st
  have hv := hst.fr.eval c
  rw [hc] at hv
  generalize hz : a.eval c = z at hv
  cases hv
  exact wp_cond_split hz (fun e => h1 e cx a w hs) (fun e => h2 e cx a w hs)


theorem lwp_scope {P : Program} {N : Dim} {c : Code} {Q : LPost} {F : Fr} {H : Hp} (h : Lwp P N c (fun e F H => match e with | .goto _ => False | e => Q e F H) F H) : Lwp P N (.scope c) Q F H := by
  intro cx a w hs
  refine wp_scope_straight (wp_mono (h cx a w hs) fun e a' w' ⟨F', H', q, s⟩ => ?_)
  cases e <;> first | exact q.elim | exact ⟨F', H', q, s⟩

theorem wantS_eq {ops : Array Oper} {o : Oper} {F : Fr} {j s : Nat} {b : Bool} (hg : o.guard = some (j, b)) (hs : (ops[j]?).bind (·.dst) = some s) : wantedL ops o F = wantS (some (s, b)) F := by
  unfold wantedL wantS
  rw [hg]
  simp only [hs]
  all_goals (cases fget F s <;> rfl)

/-- F', H' says no more of the state than F, H. -/
def Wk (N : Dim) (F' : Fr) (H' : Hp) (F : Fr) (H : Hp) : Prop := ∀ cx a w, SR cx N F H a w → SR cx N F' H' a w

theorem Wk.refl {N : Dim} (F : Fr) (H : Hp) : Wk N F H F H := fun _ _ _ h => h
theorem Wk.trans {N : Dim} {F F' F'' : Fr} {H H' H'' : Hp} (h : Wk N F'' H'' F' H') (k : Wk N F' H' F H) : Wk N F'' H'' F H := fun b a w' s => h b a w' (k b a w' s)
theorem Wk.frame {N : Dim} {F F' : Fr} {H : Hp} (h : ∀ t, fget F' t = fget F t ∨ fget F' t = .dead) : Wk N F' H F H := fun _ _ _ s => s.weaken h

/-- Each of the slots of F' stands in F. -/
def subF : Fr → Fr → Prop
  | [], _ => True
  | (t, v) :: r, F => fget F t = v ∧ subF r F

theorem subF_get {F F' : Fr} (h : subF F' F) (t : Nat) : fget F' t = fget F t ∨ fget F' t = .dead := by
  induction F' with
  | nil => exact .inr rfl
  | cons p r ih =>
    obtain ⟨s, v⟩ := p
    rw [fget_cons]
    split
    · rename_i e; subst e; exact .inl h.1.symm
    · exact ih h.2

theorem Wk.sub {N : Dim} {F F' : Fr} {H : Hp} (h : subF F' F) : Wk N F' H F H := .frame (subF_get h)

/-- What is to be shown of a list of operations. -/
def OpsW (P : Program) (N : Dim) (l : List SO) (Q : Fr → Hp → Prop) (F : Fr) (H : Hp) : Prop :=
  ∀ (ops : Array Oper) (l0 : List Oper), slimOps ops l0 = some l → dstsOk N.n l0 = true → ∀ cx a w, SR cx N F H a w →
    wpList P ops (fun e a w => e = .normal ∧ ∃ F' H', Q F' H' ∧ SR cx N F' H' a w) l0 a w

/-- What is to be shown of a piece of code. -/
def Lw (P : Program) (N : Dim) (s : SC) (Q : LPost) (F : Fr) (H : Hp) : Prop := ∀ c, slim N.n c = some s → Lwp P N c Q F H

theorem slim_nil {ops : Array Oper} {l0 : List Oper} (h : slimOps ops l0 = some []) : l0 = [] := by
  cases l0 with
  | nil => rfl
  | cons o r =>
    simp only [slimOps] at h
    split at h
    · cases h
    · split at h <;> cases h
    · cases h

theorem slim_cons {ops : Array Oper} {l0 : List Oper} {s : SO} {r : List SO} (h : slimOps ops l0 = some (s :: r)) :
    ∃ o l1, l0 = o :: l1 ∧ slimOps ops l1 = some r ∧ o.dst = s.dst ∧ o.op = s.op ∧ ∀ F, wantedL ops o F = wantS s.g F := by
  cases l0 with
  | nil => cases h
  | cons o l1 =>
    simp only [slimOps] at h
    split at h
    · rename_i l' hg hl'
      simp only [Option.some.injEq, List.cons.injEq] at h
      obtain ⟨rfl, rfl⟩ := h
      exact ⟨o, l1, rfl, hl', rfl, rfl, fun F => by unfold wantedL wantS; rw [hg]⟩
    · rename_i j b l' hg hl'
      split at h
      · rename_i s' hs
        simp only [Option.some.injEq, List.cons.injEq] at h
        obtain ⟨rfl, rfl⟩ := h
        exact ⟨o, l1, rfl, hl', rfl, rfl, fun F => wantS_eq hg hs⟩
      · cases h
    · cases h

theorem dsts_cons {N : Nat} {o : Oper} {r : List Oper} (h : dstsOk N (o :: r) = true) : (∀ k, o.dst = some k → k < N) ∧ dstsOk N r = true := by
  simp only [dstsOk, List.all_cons, Bool.and_eq_true] at h
  refine ⟨fun k hk => ?_, h.2⟩
  have := h.1
  rw [hk] at this
  simpa using this

section
variable {P : Program} {N : Dim} {l r : List SO} {F : Fr} {H : Hp}

theorem OpsW.nil {Q : Fr → Hp → Prop} (h : Q F H) : OpsW P N [] Q F H := by
  intro ops l0 hs _ cx a w hst
  rw [slim_nil hs]
  exact wpList_nil ⟨rfl, F, H, h, hst⟩

theorem OpsW.weaken {Q : Fr → Hp → Prop} {F' : Fr} {H' : Hp} (hw : Wk N F' H' F H) (h : OpsW P N l Q F' H') : OpsW P N l Q F H :=
  fun ops l0 hs hd cx a w hst => h ops l0 hs hd cx a w (hw _ _ _ hst)

theorem OpsW.step {Q : Fr → Hp → Prop} {o : SO} (hw : wantS o.g F = some true) (h : stepOp P o.op (fun x F' H' => OpsW P N r Q (lput o.dst x F') H') F H) : OpsW P N (o :: r) Q F H := by
  intro ops l0 hs hd cx a w hsr
  obtain ⟨o', l1, rfl, hs1, e1, e2, e3⟩ := slim_cons hs
  obtain ⟨hd1, hd2⟩ := dsts_cons hd
  obtain ⟨ι, per, hst⟩ := hsr.st
  refine wpList_step fun K hK => ?_
  rw [wanted_sound hst (by rw [e3]; exact hw)]
  simp only [if_true]
  rw [← e2] at h
  refine step_sound (ops := ops) hd1 (fun x F' H' ι' per' v w' hk hst' hr => hK _ _ ?_) hst h
  refine hk ops l1 hs1 hd2 cx _ _ ?_
  rw [← e1]
  exact .of (hst'.put hd1 hr)

theorem OpsW.skip {Q : Fr → Hp → Prop} {o : SO} (hw : wantS o.g F = some false) (h : OpsW P N r Q (lput o.dst .und F) H) : OpsW P N (o :: r) Q F H := by
  intro ops l0 hs hd cx a w hsr
  obtain ⟨o', l1, rfl, hs1, e1, e2, e3⟩ := slim_cons hs
  obtain ⟨hd1, hd2⟩ := dsts_cons hd
  obtain ⟨ι, per, hst⟩ := hsr.st
  refine wpList_step fun K hK => ?_
  rw [wanted_sound hst (by rw [e3]; exact hw)]
  simp only [Bool.false_eq_true, if_false]
  refine hK _ _ (h ops l1 hs1 hd2 cx _ _ ?_)
  rw [← e1]
  exact .of (hst.put hd1 .und)

theorem subF_bool {s : Nat} {b : Bool} (h : fget F s = .bool b) (t : Nat) : fget ((s, .bool b) :: F) t = fget F t ∨ fget ((s, .bool b) :: F) t = .dead := by
  rw [fget_cons]
  split
  · rename_i e; subst e; exact .inl h.symm
  · exact .inl rfl

theorem ST.frame {cx : Ctx} {ι : Pl} {per : Nat → Prop} {F' : Fr} {a : Act} {w : World} (h : ∀ t, fget F' t = fget F t ∨ fget F' t = .dead)
    (hst : ST cx N ι per F H a w) : ST cx N ι per F' H a w :=
  ⟨hst.rep, hst.p1, hst.p2, fun t => by rcases h t with e | e; · rw [e]; exact hst.fr t
                                        · rw [e]; exact .dead _, hst.size, hst.defers, hst.below, hst.bs, hst.grow⟩

end
end Go.Lite
