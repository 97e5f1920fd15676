/- Lite, parts M to T: code walked with plain values, closed runs, from a contract to a law. -/
import Derived.Test.YtlcpbpkffdnmnaaLb
import Derived.ChangeSame
import Derived.WalkKit
import Derived.ProofKit
import Derived.OpenShut
set_option linter.unusedVariables false
set_option linter.unusedSimpArgs false

/- Lite, part M: code in few words; what is to be shown of it. -/
namespace Go.Lite
open Go Go.RowKit

structure SO where
  dst : Option Nat
  op : Op
  g : Option (Nat × Bool)

inductive SC where
  | skip
  | reg (ops : List SO)
  | regq (ops : List SO)
  | seq (a b : SC)
  | cond (c : Operand) (a b : SC)
  | block (id : Nat) (c : SC)
  | loop (c : SC)
  | exit (id : Nat)
  | ret

def slimOps (ops : Array Oper) : List Oper → Option (List SO)
  | [] => some []
  | o :: r => match o.guard, slimOps ops r with
    | none, some l => some (⟨o.dst, o.op, none⟩ :: l)
    | some (j, b), some l => (match (ops[j]?).bind (·.dst) with | some s => some (⟨o.dst, o.op, some (s, b)⟩ :: l) | none => none)
    | _, none => none

def slim (N : Nat) : Code → Option SC
  | .region _ ops false => if dstsOk N ops.toList then (slimOps ops ops.toList).map .reg else none
  | .region _ ops true => if dstsOk N ops.toList && Region.lexB .any ops then (slimOps ops ops.toList).map .regq else none
  | .seq a b => match slim N a, slim N b with | some x, some y => some (.seq x y) | _, _ => none
  | .cond c a b => match slim N a, slim N b with | some x, some y => some (.cond c x y) | _, _ => none
  | .block id c => (slim N c).map (.block id)
  | .loop c => (slim N c).map .loop
  | .exit id => some (.exit id)
  | .ret => some .ret
  | .skip => some .skip
  | .label _ => some .skip
  | _ => none

def wantS (g : Option (Nat × Bool)) (F : Fr) : Option Bool :=
  match g with
  | none => some true
  | some (s, want) => match fget F s with
    | .bool b => some (b == want)
    | .und => some false
    | _ => none

theorem lwp_cond {P : Program} {N : Nat} {c : Operand} {x y : Code} {Q : LPost} {F : Fr} {H : Hp} {t : Bool} (hc : evalO F c = .bool t) (h1 : t = true → Lwp P N x Q F H) (h2 : t = false → Lwp P N y Q F H) :
    Lwp P N (.cond c x y) Q F H := by
  intro base per0 w0 a w hs
  obtain ⟨ι, per, hst⟩ := hs.st
  have hv := hst.fr.eval c
  rw [hc] at hv
  generalize hz : a.eval c = z at hv
  cases hv
  exact wp_cond_split hz (fun e => h1 e base per0 w0 a w hs) (fun e => h2 e base per0 w0 a w hs)


theorem wantS_eq {ops : Array Oper} {o : Oper} {F : Fr} {j s : Nat} {b : Bool} (hg : o.guard = some (j, b)) (hs : (ops[j]?).bind (·.dst) = some s) : wantedL ops o F = wantS (some (s, b)) F := by
  unfold wantedL wantS
  rw [hg]
  simp only [hs]
  cases fget F s <;> rfl

/-- F', H' says no more of the state than F, H. -/
def Wk (F' : Fr) (H' : Hp) (F : Fr) (H : Hp) : Prop := ∀ base per0 w0 N a w, SR base per0 w0 N F H a w → SR base per0 w0 N F' H' a w

theorem Wk.refl (F : Fr) (H : Hp) : Wk F H F H := fun _ _ _ _ _ _ h => h
theorem Wk.trans {F F' F'' : Fr} {H H' H'' : Hp} (h : Wk F'' H'' F' H') (k : Wk F' H' F H) : Wk F'' H'' F H := fun b p w N a w' s => h b p w N a w' (k b p w N a w' s)
theorem Wk.frame {F F' : Fr} {H : Hp} (h : ∀ t, fget F' t = fget F t ∨ fget F' t = .dead) : Wk F' H F H := fun _ _ _ _ _ _ s => s.weaken h

/-- Each of the slots of F' stands in F. -/
def subF : Fr → Fr → Prop
  | [], _ => True
  | (t, v) :: r, F => fget F t = v ∧ subF r F

theorem subF_get {F F' : Fr} (h : subF F' F) (t : Nat) : fget F' t = fget F t ∨ fget F' t = .dead := by
  induction F' with
  | nil => exact .inr rfl
  | cons p r ih =>
    obtain ⟨s, v⟩ := p
    rw [fget_cons]
    split
    · rename_i e; subst e; exact .inl h.1.symm
    · exact ih h.2

theorem Wk.sub {F F' : Fr} {H : Hp} (h : subF F' F) : Wk F' H F H := .frame (subF_get h)

/-- What is to be shown of a list of operations. -/
def OpsW (P : Program) (N : Nat) (l : List SO) (Q : Fr → Hp → Prop) (F : Fr) (H : Hp) : Prop :=
  ∀ (ops : Array Oper) (l0 : List Oper), slimOps ops l0 = some l → dstsOk N l0 = true → ∀ base per0 w0 a w, SR base per0 w0 N F H a w →
    wpList P ops (fun e a w => e = .normal ∧ ∃ F' H', Q F' H' ∧ SR base per0 w0 N F' H' a w) l0 a w

/-- What is to be shown of a list of operations that draw their order and read. -/
def OpsQ (P : Program) (N : Nat) (l : List SO) (Q : Fr → Prop) (F : Fr) (H : Hp) : Prop :=
  ∀ (ops : Array Oper) (l0 : List Oper), slimOps ops l0 = some l → dstsOk N l0 = true → ∀ base per0 w0 ι per a w, ST base per0 w0 N ι per F H a w →
    wpQuiet P ops (Cls w) (fun a' => ∃ F', Q F' ∧ ST base per0 w0 N ι per F' H a' w) l0 a

/-- What is to be shown of a piece of code. -/
def Lw (P : Program) (N : Nat) (s : SC) (Q : LPost) (F : Fr) (H : Hp) : Prop := ∀ c, slim N c = some s → Lwp P N c Q F H

theorem slim_nil {ops : Array Oper} {l0 : List Oper} (h : slimOps ops l0 = some []) : l0 = [] := by
  cases l0 with
  | nil => rfl
  | cons o r =>
    simp only [slimOps] at h
    split at h
    · cases h
    · split at h <;> cases h
    · cases h

theorem slim_cons {ops : Array Oper} {l0 : List Oper} {s : SO} {r : List SO} (h : slimOps ops l0 = some (s :: r)) :
    ∃ o l1, l0 = o :: l1 ∧ slimOps ops l1 = some r ∧ o.dst = s.dst ∧ o.op = s.op ∧ ∀ F, wantedL ops o F = wantS s.g F := by
  cases l0 with
  | nil => cases h
  | cons o l1 =>
    simp only [slimOps] at h
    split at h
    · rename_i l' hg hl'
      simp only [Option.some.injEq, List.cons.injEq] at h
      obtain ⟨rfl, rfl⟩ := h
      exact ⟨o, l1, rfl, hl', rfl, rfl, fun F => by unfold wantedL wantS; rw [hg]⟩
    · rename_i j b l' hg hl'
      split at h
      · rename_i s' hs
        simp only [Option.some.injEq, List.cons.injEq] at h
        obtain ⟨rfl, rfl⟩ := h
        exact ⟨o, l1, rfl, hl', rfl, rfl, fun F => wantS_eq hg hs⟩
      · cases h
    · cases h

theorem dsts_cons {N : Nat} {o : Oper} {r : List Oper} (h : dstsOk N (o :: r) = true) : (∀ k, o.dst = some k → k < N) ∧ dstsOk N r = true := by
  simp only [dstsOk, List.all_cons, Bool.and_eq_true] at h
  refine ⟨fun k hk => ?_, h.2⟩
  have := h.1
  rw [hk] at this
  simpa using this

section
variable {P : Program} {N : Nat} {l r : List SO} {F : Fr} {H : Hp}

theorem OpsW.nil {Q : Fr → Hp → Prop} (h : Q F H) : OpsW P N [] Q F H := by
  intro ops l0 hs _ base per0 w0 a w hst
  rw [slim_nil hs]
  exact wpList_nil ⟨rfl, F, H, h, hst⟩

theorem OpsW.weaken {Q : Fr → Hp → Prop} {F' : Fr} {H' : Hp} (hw : Wk F' H' F H) (h : OpsW P N l Q F' H') : OpsW P N l Q F H :=
  fun ops l0 hs hd base per0 w0 a w hst => h ops l0 hs hd base per0 w0 a w (hw _ _ _ _ _ _ hst)

theorem OpsW.step {Q : Fr → Hp → Prop} {o : SO} (hw : wantS o.g F = some true) (h : stepOp P o.op (fun x F' H' => OpsW P N r Q (lput o.dst x F') H') F H) : OpsW P N (o :: r) Q F H := by
  intro ops l0 hs hd base per0 w0 a w hsr
  obtain ⟨o', l1, rfl, hs1, e1, e2, e3⟩ := slim_cons hs
  obtain ⟨hd1, hd2⟩ := dsts_cons hd
  obtain ⟨ι, per, hst⟩ := hsr.st
  refine wpList_step fun K hK => ?_
  rw [wanted_sound hst (by rw [e3]; exact hw)]
  simp only [if_true]
  rw [← e2] at h
  refine step_sound (ops := ops) hd1 (fun x F' H' ι' per' v w' hk hst' hr => hK _ _ ?_) hst h
  refine hk ops l1 hs1 hd2 base per0 w0 _ _ ?_
  rw [← e1]
  exact .of (hst'.put hd1 hr)

theorem OpsW.skip {Q : Fr → Hp → Prop} {o : SO} (hw : wantS o.g F = some false) (h : OpsW P N r Q (lput o.dst .und F) H) : OpsW P N (o :: r) Q F H := by
  intro ops l0 hs hd base per0 w0 a w hsr
  obtain ⟨o', l1, rfl, hs1, e1, e2, e3⟩ := slim_cons hs
  obtain ⟨hd1, hd2⟩ := dsts_cons hd
  obtain ⟨ι, per, hst⟩ := hsr.st
  refine wpList_step fun K hK => ?_
  rw [wanted_sound hst (by rw [e3]; exact hw)]
  simp only [Bool.false_eq_true, if_false]
  refine hK _ _ (h ops l1 hs1 hd2 base per0 w0 _ _ ?_)
  rw [← e1]
  exact .of (hst.put hd1 .und)

theorem subF_bool {s : Nat} {b : Bool} (h : fget F s = .bool b) (t : Nat) : fget ((s, .bool b) :: F) t = fget F t ∨ fget ((s, .bool b) :: F) t = .dead := by
  rw [fget_cons]
  split
  · rename_i e; subst e; exact .inl h.symm
  · exact .inl rfl

theorem OpsQ.nil {Q : Fr → Prop} (h : Q F) : OpsQ P N [] Q F H := by
  intro ops l0 hs _ base per0 w0 ι per a w hst
  rw [slim_nil hs]
  exact wpQuiet_nil ⟨F, h, hst⟩

theorem ST.frame {base : Nat} {per0 : Nat → Prop} {w0 : World} {ι : Pl} {per : Nat → Prop} {F' : Fr} {a : Act} {w : World} (h : ∀ t, fget F' t = fget F t ∨ fget F' t = .dead)
    (hst : ST base per0 w0 N ι per F H a w) : ST base per0 w0 N ι per F' H a w :=
  ⟨hst.rep, hst.p1, hst.p2, fun t => by rcases h t with e | e; · rw [e]; exact hst.fr t
                                        · rw [e]; exact .dead _, hst.size, hst.defers, hst.below, hst.bs⟩

theorem OpsQ.weaken {Q : Fr → Prop} {F' : Fr} (hw : ∀ t, fget F' t = fget F t ∨ fget F' t = .dead) (h : OpsQ P N l Q F' H) : OpsQ P N l Q F H :=
  fun ops l0 hs hd base per0 w0 ι per a w hst => h ops l0 hs hd base per0 w0 ι per a w (hst.frame hw)

theorem stepQ_sound {base : Nat} {per0 : Nat → Prop} {w0 : World} {ι : Pl} {per : Nat → Prop} {a : Act} {w : World} {o : Oper} {K : LV → Prop} {next : Act → Prop} (hd : ∀ k, o.dst = some k → k < N)
    (hst : ST base per0 w0 N ι per F H a w) (hnext : ∀ x v, K x → VR w per ι x v → next (a.put o.dst v)) (h : stepQ P o.op K F H) : o.quiet P a (Cls w) next := by
  unfold stepQ at h
  split at h
  · rename_i x hx
    obtain ⟨u, hu, hr⟩ := pure_sound (P := P) hst.fr hx
    refine ⟨u, fun w' hw' => ?_, hnext _ _ h hr⟩
    unfold Oper.quietAt
    rw [hu w']
    exact ⟨rfl, rfl⟩
  · split at h
    · rename_i x hx
      obtain ⟨u, hu, hr⟩ := load_sound (P := P) hst hx
      refine ⟨u, fun w' hw' => ?_, hnext _ _ h hr⟩
      unfold Oper.quietAt
      rw [hu w' hw'.1]
      exact ⟨rfl, rfl⟩
    · split at h
      · rename_i g args tys hop
        split at h
        · rename_i f cap hg
          obtain ⟨x, hq, hk⟩ := h
          obtain ⟨v0, hval, hcalls, hcallable⟩ := quiet_call hst hg hq
          refine ⟨v0, fun w' hw' => ?_, hnext _ _ hk hval⟩
          exact hcalls o hop w' hw'
        · exact h.elim
      · exact h.elim

end
end Go.Lite

/- Lite, part N: how a piece of code is walked; contracts. -/
namespace Go.Lite
open Go Go.RowKit

theorem fget_nil (t : Nat) : fget [] t = .dead := rfl

/-- There is a value, and what is asked holds of it. -/
def ocase {α : Type} (x : Option α) (K : α → Prop) : Prop :=
  match x with
  | some a => K a
  | none => False

theorem ocase_some {α : Type} (a : α) (K : α → Prop) : ocase (some a) K = K a := rfl
theorem ocase_none {α : Type} (K : α → Prop) : ocase (none : Option α) K = False := rfl
theorem ocase_ite {α : Type} (c : Prop) [Decidable c] (a : α) (K : α → Prop) : ocase (if c then some a else none) K = (c ∧ K a) := by
  by_cases h : c <;> simp [h, ocase]
theorem ocase_ite' {α : Type} (c : Prop) [Decidable c] (a : α) (K : α → Prop) : ocase (if c then none else some a) K = (¬ c ∧ K a) := by
  by_cases h : c <;> simp [h, ocase]

@[congr] theorem ocase_congr {α : Type} {x y : Option α} {K : α → Prop} (h : x = y) : ocase x K = ocase y K := by rw [h]

/-- A bool, or nothing; else nothing can be said. -/
def bcase (x : LV) (K : Bool → Prop) (U : Prop) : Prop :=
  match x with
  | .bool b => K b
  | .und => U
  | _ => False
@[congr] theorem bcase_congr {x y : LV} {K : Bool → Prop} {U : Prop} (h : x = y) : bcase x K U = bcase y K U := by rw [h]
theorem bcase_bool (b : Bool) (K : Bool → Prop) (U : Prop) : bcase (.bool b) K U = K b := rfl
theorem bcase_und (K : Bool → Prop) (U : Prop) : bcase .und K U = U := rfl

/-- A function's value. -/
def fcase (x : LV) (K : Nat → List LV → Prop) : Prop :=
  match x with
  | .fn f cap => K f cap
  | _ => False
@[congr] theorem fcase_congr {x y : LV} {K : Nat → List LV → Prop} (h : x = y) : fcase x K = fcase y K := by rw [h]
theorem fcase_fn (f : Nat) (cap : List LV) (K : Nat → List LV → Prop) : fcase (.fn f cap) K = K f cap := rfl

@[congr] theorem callK_congr {P : Program} {f : Nat} {args args' : List LV} {H H' : Hp} {K : LV → Hp → Prop} (h1 : args = args') (h2 : H = H') : callK P f args H K = callK P f args' H' K := by rw [h1, h2]
@[congr] theorem Lw_congr {P : Program} {N : Nat} {s : SC} {Q : LPost} {F F' : Fr} {H H' : Hp} (h1 : F = F') (h2 : H = H') : Lw P N s Q F H = Lw P N s Q F' H' := by rw [h1, h2]

/-- A bool, both ways. -/
def bsplit (t : Bool) (A B : Prop) : Prop := (t = true → A) ∧ (t = false → B)
theorem bsplit_true (A B : Prop) : bsplit true A B = A := by simp [bsplit]
theorem bsplit_false (A B : Prop) : bsplit false A B = B := by simp [bsplit]
@[congr] theorem bsplit_congr {t u : Bool} {A B : Prop} (h : t = u) : bsplit t A B = bsplit u A B := by rw [h]

def wpo (P : Program) (op : Op) (K : LV → Fr → Hp → Prop) (F : Fr) (H : Hp) : Prop :=
  match op with
  | .load t a => ocase (loadOp P F H (.load t a)) fun x => K x F H
  | .store t a b => ocase (effOp P F H (.store t a b)) fun r => K r.1 r.2.1 r.2.2
  | .alloc t => ocase (effOp P F H (.alloc t)) fun r => K r.1 r.2.1 r.2.2
  | .box t a => ocase (effOp P F H (.box t a)) fun r => K r.1 r.2.1 r.2.2
  | .buildSlice t n ps => ocase (effOp P F H (.buildSlice t n ps)) fun r => K r.1 r.2.1 r.2.2
  | .makeSlice t a b => ocase (effOp P F H (.makeSlice t a b)) fun r => K r.1 r.2.1 r.2.2
  | .call ⟨.builtin .append, as, ts⟩ => ocase (effOp P F H (.call ⟨.builtin .append, as, ts⟩)) fun r => K r.1 r.2.1 r.2.2
  | .call ⟨.builtin .copy, as, ts⟩ => ocase (effOp P F H (.call ⟨.builtin .copy, as, ts⟩)) fun r => K r.1 r.2.1 r.2.2
  | .call ⟨.value g, args, _⟩ => fcase (evalO F g) fun f cap => callK P f (args.toList.map (evalO F) ++ cap) H fun x H' => K x F H'
  | .pick c a b => bcase (evalO F c) (fun t => bsplit t (K (evalO F a) F H) (K (evalO F b) F H)) False
  | op => ocase (pureOp P F op) fun x => K x F H

/-- A quiet call. -/
def callQ (P : Program) (f : Nat) (args : List LV) (H : Hp) (K : LV → Prop) : Prop := ∃ x, quietK P f args H x ∧ K x
@[congr] theorem callQ_congr {P : Program} {f : Nat} {args args' : List LV} {H H' : Hp} {K : LV → Prop} (h1 : args = args') (h2 : H = H') : callQ P f args H K = callQ P f args' H' K := by rw [h1, h2]

def wpoQ (P : Program) (op : Op) (K : LV → Prop) (F : Fr) (H : Hp) : Prop :=
  match op with
  | .load t a => ocase (loadOp P F H (.load t a)) K
  | .call ⟨.value g, args, _⟩ => fcase (evalO F g) fun f cap => callQ P f (args.toList.map (evalO F) ++ cap) H K
  | .pick c a b => bcase (evalO F c) (fun t => bsplit t (K (evalO F a)) (K (evalO F b))) False
  | op => ocase (pureOp P F op) K

theorem wpo_sound {P : Program} {op : Op} {K : LV → Fr → Hp → Prop} {F : Fr} {H : Hp} (h : wpo P op K F H) : stepOp P op K F H := by
  have pureCase : ∀ {op : Op}, ocase (pureOp P F op) (fun x => K x F H) → stepOp P op K F H := by
    intro op h
    unfold stepOp
    cases hp : pureOp P F op with
    | some x => rw [hp] at h; exact h
    | none => rw [hp] at h; exact h.elim
  have effCase : ∀ {op : Op}, pureOp P F op = none → loadOp P F H op = none → ocase (effOp P F H op) (fun r => K r.1 r.2.1 r.2.2) → stepOp P op K F H := by
    intro op h1 h2 h
    unfold stepOp
    rw [h1, h2]
    cases he : effOp P F H op with
    | some r => rw [he] at h; exact h
    | none => rw [he] at h; exact h.elim
  unfold wpo at h
  split at h
  · rename_i t a
    unfold stepOp
    have h1 : pureOp P F (.load t a) = none := rfl
    rw [h1]
    cases hl : loadOp P F H (.load t a) with
    | some x => rw [hl] at h; exact h
    | none => rw [hl] at h; exact h.elim
  · exact effCase rfl rfl h
  · exact effCase rfl rfl h
  · exact effCase rfl rfl h
  · exact effCase rfl rfl h
  · exact effCase rfl rfl h
  · exact effCase rfl rfl h
  · exact effCase rfl rfl h
  · rename_i g args tys
    unfold stepOp
    have h1 : pureOp P F (.call ⟨.value g, args, tys⟩) = none := rfl
    have h2 : loadOp P F H (.call ⟨.value g, args, tys⟩) = none := rfl
    have h3 : effOp P F H (.call ⟨.value g, args, tys⟩) = none := rfl
    rw [h1, h2, h3]
    unfold fcase at h
    exact h
  · rename_i c a b
    unfold bcase at h
    split at h
    · rename_i t ht
      refine pureCase ?_
      simp only [pureOp, ht, ocase_some]
      cases t
      · exact h.2 rfl
      · exact h.1 rfl
    · exact h.elim
    · exact h.elim
  · exact pureCase h

theorem wpoQ_sound {P : Program} {op : Op} {K : LV → Prop} {F : Fr} {H : Hp} (h : wpoQ P op K F H) : stepQ P op K F H := by
  have pureCase : ∀ {op : Op}, ocase (pureOp P F op) K → stepQ P op K F H := by
    intro op h
    unfold stepQ
    cases hp : pureOp P F op with
    | some x => rw [hp] at h; exact h
    | none => rw [hp] at h; exact h.elim
  unfold wpoQ at h
  split at h
  · rename_i t a
    unfold stepQ
    have h1 : pureOp P F (.load t a) = none := rfl
    rw [h1]
    cases hl : loadOp P F H (.load t a) with
    | some x => rw [hl] at h; exact h
    | none => rw [hl] at h; exact h.elim
  · rename_i g args tys
    unfold stepQ
    have h1 : pureOp P F (.call ⟨.value g, args, tys⟩) = none := rfl
    have h2 : loadOp P F H (.call ⟨.value g, args, tys⟩) = none := rfl
    rw [h1, h2]
    unfold fcase at h
    exact h
  · rename_i c a b
    unfold bcase at h
    split at h
    · rename_i t ht
      refine pureCase ?_
      simp only [pureOp, ht, ocase_some]
      cases t
      · exact h.2 rfl
      · exact h.1 rfl
    · exact h.elim
    · exact h.elim
  · exact pureCase h

/-- The operations of a region, one behind the other. -/
def wps (P : Program) : List SO → (Fr → Hp → Prop) → Fr → Hp → Prop
  | [], K, F, H => K F H
  | ⟨d, op, none⟩ :: r, K, F, H => wpo P op (fun x F H => wps P r K (lput d x F) H) F H
  | ⟨d, op, some (s, true)⟩ :: r, K, F, H => bcase (fget F s)
      (fun b => bsplit b (wpo P op (fun x F H => wps P r K (lput d x F) H) ((s, .bool true) :: F) H) (wps P r K (lput d .und ((s, .bool false) :: F)) H)) (wps P r K (lput d .und F) H)
  | ⟨d, op, some (s, false)⟩ :: r, K, F, H => bcase (fget F s)
      (fun b => bsplit b (wps P r K (lput d .und ((s, .bool true) :: F)) H) (wpo P op (fun x F H => wps P r K (lput d x F) H) ((s, .bool false) :: F) H)) (wps P r K (lput d .und F) H)

def wpsQ (P : Program) (H : Hp) : List SO → (Fr → Prop) → Fr → Prop
  | [], K, F => K F
  | ⟨d, op, none⟩ :: r, K, F => wpoQ P op (fun x => wpsQ P H r K (lput d x F)) F H
  | ⟨d, op, some (s, true)⟩ :: r, K, F => bcase (fget F s)
      (fun b => bsplit b (wpoQ P op (fun x => wpsQ P H r K (lput d x ((s, .bool true) :: F))) ((s, .bool true) :: F) H) (wpsQ P H r K (lput d .und ((s, .bool false) :: F)))) (wpsQ P H r K (lput d .und F))
  | ⟨d, op, some (s, false)⟩ :: r, K, F => bcase (fget F s)
      (fun b => bsplit b (wpsQ P H r K (lput d .und ((s, .bool true) :: F))) (wpoQ P op (fun x => wpsQ P H r K (lput d x ((s, .bool false) :: F))) ((s, .bool false) :: F) H)) (wpsQ P H r K (lput d .und F))

theorem want_bool {F : Fr} {s : Nat} {b : Bool} (want : Bool) : wantS (some (s, want)) ((s, .bool b) :: F) = some (b == want) := by
  simp [wantS, fget_cons]

theorem stepOp_mono {P : Program} {op : Op} {K1 K2 : LV → Fr → Hp → Prop} (hK : ∀ x F H, K1 x F H → K2 x F H) {F : Fr} {H : Hp} (h : stepOp P op K1 F H) : stepOp P op K2 F H := by
  unfold stepOp at *
  split at h
  · exact hK _ _ _ h
  · split at h
    · exact hK _ _ _ h
    · split at h
      · exact hK _ _ _ h
      · split at h
        · split at h
          · rcases h with ⟨h1, h2⟩ | h2
            · exact .inl ⟨h1, h2.mono fun x H h => hK _ _ _ h⟩
            · exact .inr (h2.mono fun x H h => ⟨h.1, h.2.1, hK _ _ _ h.2.2⟩)
          · exact h.elim
        · exact h.elim

theorem OpsW.of {P : Program} {N : Nat} : ∀ (l : List SO) {Q : Fr → Hp → Prop} {F : Fr} {H : Hp}, wps P l Q F H → OpsW P N l Q F H := by
  intro l
  induction l with
  | nil => intro Q F H h; exact .nil h
  | cons o r ih =>
    intro Q F H h
    obtain ⟨d, op, g⟩ := o
    have run : ∀ {F H}, wantS g F = some true → wpo P op (fun x F H => wps P r Q (lput d x F) H) F H → OpsW P N (⟨d, op, g⟩ :: r) Q F H := fun hw h => .step hw (stepOp_mono (fun x F H h => ih h) (wpo_sound h))
    have weak : ∀ {s : Nat} {b : Bool}, fget F s = .bool b → Wk ((s, .bool b) :: F) H F H := fun hs => .frame (subF_bool hs)
    rcases g with _ | ⟨s, _ | _⟩
    · exact run rfl h
    · simp only [wps] at h
      unfold bcase at h
      split at h
      · rename_i b hb
        cases b
        · exact .weaken (weak hb) (run (want_bool _) (h.2 rfl))
        · exact .weaken (weak hb) (.skip (want_bool _) (ih (h.1 rfl)))
      · rename_i hb
        exact .skip (by simp [wantS, hb]) (ih h)
      · exact h.elim
    · simp only [wps] at h
      unfold bcase at h
      split at h
      · rename_i b hb
        cases b
        · exact .weaken (weak hb) (.skip (want_bool _) (ih (h.2 rfl)))
        · exact .weaken (weak hb) (run (want_bool _) (h.1 rfl))
      · rename_i hb
        exact .skip (by simp [wantS, hb]) (ih h)
      · exact h.elim

theorem stepQ_mono {P : Program} {op : Op} {K1 K2 : LV → Prop} (hK : ∀ x, K1 x → K2 x) {F : Fr} {H : Hp} (h : stepQ P op K1 F H) : stepQ P op K2 F H := by
  unfold stepQ at *
  split at h
  · exact hK _ h
  · split at h
    · exact hK _ h
    · split at h
      · split at h
        · obtain ⟨x, h1, h2⟩ := h; exact ⟨x, h1, hK _ h2⟩
        · exact h.elim
      · exact h.elim

theorem OpsQ.step {P : Program} {N : Nat} {r : List SO} {Q : Fr → Prop} {o : SO} {F : Fr} {H : Hp} (hw : wantS o.g F = some true) (h : stepQ P o.op (fun x => OpsQ P N r Q (lput o.dst x F) H) F H) : OpsQ P N (o :: r) Q F H := by
  intro ops l0 hs hd base per0 w0 ι per a w hst
  obtain ⟨o', l1, rfl, hs1, e1, e2, e3⟩ := slim_cons hs
  obtain ⟨hd1, hd2⟩ := dsts_cons hd
  refine wpQuiet_step fun K hK => ?_
  rw [wanted_sound hst (by rw [e3]; exact hw)]
  simp only [if_true]
  rw [← e2] at h
  refine stepQ_sound hd1 hst (fun x v hk hr => hK _ (hk ops l1 hs1 hd2 base per0 w0 ι per _ _ ?_)) h
  rw [← e1]
  exact hst.put hd1 hr

theorem OpsQ.skip {P : Program} {N : Nat} {r : List SO} {Q : Fr → Prop} {o : SO} {F : Fr} {H : Hp} (hw : wantS o.g F = some false) (h : OpsQ P N r Q (lput o.dst .und F) H) : OpsQ P N (o :: r) Q F H := by
  intro ops l0 hs hd base per0 w0 ι per a w hst
  obtain ⟨o', l1, rfl, hs1, e1, e2, e3⟩ := slim_cons hs
  obtain ⟨hd1, hd2⟩ := dsts_cons hd
  refine wpQuiet_step fun K hK => ?_
  rw [wanted_sound hst (by rw [e3]; exact hw)]
  simp only [Bool.false_eq_true, if_false]
  refine hK _ (h ops l1 hs1 hd2 base per0 w0 ι per _ _ ?_)
  rw [← e1]
  exact hst.put hd1 .und

theorem OpsQ.of {P : Program} {N : Nat} {H : Hp} : ∀ (l : List SO) {Q : Fr → Prop} {F : Fr}, wpsQ P H l Q F → OpsQ P N l Q F H := by
  intro l
  induction l with
  | nil => intro Q F h; exact .nil h
  | cons o r ih =>
    intro Q F h
    obtain ⟨d, op, g⟩ := o
    have run : ∀ {F}, wantS g F = some true → wpoQ P op (fun x => wpsQ P H r Q (lput d x F)) F H → OpsQ P N (⟨d, op, g⟩ :: r) Q F H := fun hw h => .step hw (stepQ_mono (fun x h => ih h) (wpoQ_sound h))
    rcases g with _ | ⟨s, _ | _⟩
    · exact run rfl h
    · simp only [wpsQ] at h
      unfold bcase at h
      split at h
      · rename_i b hb
        cases b
        · exact .weaken (subF_bool hb) (run (want_bool _) (h.2 rfl))
        · exact .weaken (subF_bool hb) (.skip (want_bool _) (ih (h.1 rfl)))
      · rename_i hb
        exact .skip (by simp [wantS, hb]) (ih h)
      · exact h.elim
    · simp only [wpsQ] at h
      unfold bcase at h
      split at h
      · rename_i b hb
        cases b
        · exact .weaken (subF_bool hb) (.skip (want_bool _) (ih (h.2 rfl)))
        · exact .weaken (subF_bool hb) (run (want_bool _) (h.1 rfl))
      · rename_i hb
        exact .skip (by simp [wantS, hb]) (ih h)
      · exact h.elim

section
variable {P : Program} {N : Nat} {Q Q' : LPost} {F : Fr} {H : Hp}

theorem Lw.mono {s : SC} (h : Lw P N s Q F H) (hq : ∀ e F H, Q e F H → Q' e F H) : Lw P N s Q' F H := fun c hc => (h c hc).mono hq

theorem Lw.weaken {s : SC} {F' : Fr} {H' : Hp} (hw : Wk F' H' F H) (h : Lw P N s Q F' H') : Lw P N s Q F H :=
  fun c hc base per0 w0 a w hs => h c hc base per0 w0 a w (hw _ _ _ _ _ _ hs)

theorem slim_inv {c : Code} {s : SC} (h : slim N c = some s) : match s with
    | .skip => c = .skip ∨ ∃ l, c = .label l
    | .reg l => ∃ id ops, c = .region id ops false ∧ dstsOk N ops.toList = true ∧ slimOps ops ops.toList = some l
    | .regq l => ∃ id ops, c = .region id ops true ∧ dstsOk N ops.toList = true ∧ Region.lexB .any ops = true ∧ slimOps ops ops.toList = some l
    | .seq a b => ∃ x y, c = .seq x y ∧ slim N x = some a ∧ slim N y = some b
    | .cond o a b => ∃ x y, c = .cond o x y ∧ slim N x = some a ∧ slim N y = some b
    | .block id a => ∃ x, c = .block id x ∧ slim N x = some a
    | .loop a => ∃ x, c = .loop x ∧ slim N x = some a
    | .exit id => c = .exit id
    | .ret => c = .ret := by
  cases c with
  | skip => obtain rfl := Option.some.inj h; exact .inl rfl
  | label l => obtain rfl := Option.some.inj h; exact .inr ⟨l, rfl⟩
  | exit id => obtain rfl := Option.some.inj h; rfl
  | ret => obtain rfl := Option.some.inj h; rfl
  | region id ops draw =>
    cases draw with
    | false =>
      simp only [slim] at h
      split at h
      · rename_i hN
        obtain ⟨sl, hsl, rfl⟩ := Option.map_eq_some_iff.1 h
        exact ⟨id, ops, rfl, hN, hsl⟩
      · cases h
    | true =>
      simp only [slim] at h
      split at h
      · rename_i hN
        simp only [Bool.and_eq_true] at hN
        obtain ⟨sl, hsl, rfl⟩ := Option.map_eq_some_iff.1 h
        exact ⟨id, ops, rfl, hN.1, hN.2, hsl⟩
      · cases h
  | seq a b =>
    simp only [slim] at h
    split at h
    · rename_i x y hx hy
      obtain rfl := Option.some.inj h
      exact ⟨a, b, rfl, hx, hy⟩
    · cases h
  | cond o a b =>
    simp only [slim] at h
    split at h
    · rename_i x y hx hy
      obtain rfl := Option.some.inj h
      exact ⟨a, b, rfl, hx, hy⟩
    · cases h
  | block id c =>
    obtain ⟨x, hx, rfl⟩ := Option.map_eq_some_iff.1 h
    exact ⟨c, rfl, hx⟩
  | loop c =>
    obtain ⟨x, hx, rfl⟩ := Option.map_eq_some_iff.1 h
    exact ⟨c, rfl, hx⟩
  | _ => cases h

theorem Lw.skip (h : Q .normal F H) : Lw P N .skip Q F H := by
  intro c hc
  rcases slim_inv hc with rfl | ⟨l, rfl⟩
  · exact lwp_skip h
  · exact lwp_label h

theorem Lw.exit {id : Nat} (h : Q (.exit id) F H) : Lw P N (.exit id) Q F H := by
  intro c hc
  have e : c = .exit id := slim_inv hc
  subst e
  exact lwp_exit h

theorem Lw.ret (h : Q .ret F H) : Lw P N .ret Q F H := by
  intro c hc
  have e : c = .ret := slim_inv hc
  subst e
  exact lwp_ret h

theorem Lw.ops {l : List SO} (h : OpsW P N l (fun F H => Q .normal F H) F H) : Lw P N (.reg l) Q F H := by
  intro c hc
  obtain ⟨id, ops, rfl, hN, hs⟩ := slim_inv hc
  intro base per0 w0 a w hst
  refine wp_mono (wp_region_list (h ops _ hs hN base per0 w0 a w hst)) fun e a' w' ⟨he, F', H', hq, hst'⟩ => ?_
  subst he
  exact ⟨F', H', hq, hst'⟩

theorem Lw.opsq (hm : P.follows .mixedOrders = true) {l : List SO} (h : OpsQ P N l (fun F => Q .normal F H) F H) : Lw P N (.regq l) Q F H := by
  intro c hc
  obtain ⟨id, ops, rfl, hN, hB, hs⟩ := slim_inv hc
  intro base per0 w0 a w hsr
  obtain ⟨ι, per, hst⟩ := hsr.st
  refine wp_region_quiet (C := Cls w) hm hB ⟨fun _ _ => rfl, ⟨rfl, rfl, rfl, Nat.le_refl _, fun _ _ => rfl⟩⟩ ?_
  have := h ops _ hs hN base per0 w0 ι per a w hst
  have mono : ∀ (l : List Oper) (a : Act) {Q1 Q2 : Act → Prop}, (∀ a, Q1 a → Q2 a) → wpQuiet P ops (Cls w) Q1 l a → wpQuiet P ops (Cls w) Q2 l a := by
    intro l
    induction l with
    | nil => intro a Q1 Q2 hq h; exact hq a h
    | cons o r ih =>
      intro a Q1 Q2 hq h
      simp only [wpQuiet] at h ⊢
      split at h
      · rename_i hw
        rw [if_pos hw]
        exact Oper.quiet_mono (fun a h => ih a hq h) h
      · rename_i hw
        rw [if_neg hw]
        exact ih _ hq h
  exact mono _ _ (fun a' ⟨F', hq, hst'⟩ w' hw' => ⟨F', H, hq, .of (hst'.ext hw')⟩) this

theorem Lw.seq {x y : SC} (h : Lw P N x (seqQ (fun F H => Lw P N y Q F H) Q) F H) : Lw P N (.seq x y) Q F H := by
  intro c hc
  obtain ⟨a, b, rfl, ha, hb⟩ := slim_inv hc
  refine lwp_seq ((h a ha).mono fun e F' H' hq => ?_)
  cases e with
  | normal => exact hq b hb
  | _ => exact hq

/-- A piece, then what is known behind it, then the rest. -/
theorem Lw.cut {x y : SC} {α : Sort _} (I : α → Prop) (Fi : α → Fr) (Hi : α → Hp) (h : Lw P N x (seqQ (fun F H => ∃ i, I i ∧ Wk (Fi i) (Hi i) F H) Q) F H)
    (k : ∀ i, I i → Lw P N y Q (Fi i) (Hi i)) : Lw P N (.seq x y) Q F H := by
  refine .seq (h.mono fun e F' H' hq => ?_)
  cases e with
  | normal =>
    obtain ⟨i, hi, hw⟩ := hq
    exact (k i hi).weaken hw
  | _ => exact hq

theorem Lw.cond {c : Operand} {x y : SC} {t : Bool} (hc : evalO F c = .bool t) (h1 : t = true → Lw P N x Q F H) (h2 : t = false → Lw P N y Q F H) : Lw P N (.cond c x y) Q F H := by
  intro c' hc'
  obtain ⟨a, b, rfl, ha, hb⟩ := slim_inv hc'
  exact lwp_cond hc (fun e => h1 e a ha) (fun e => h2 e b hb)

theorem Lw.block {id : Nat} {x : SC} (h : Lw P N x (blockQ id Q) F H) : Lw P N (.block id x) Q F H := by
  intro c hc
  obtain ⟨a, rfl, ha⟩ := slim_inv hc
  exact lwp_block (h a ha)

/-- A loop: at the head of each round the state is one of a family of states; each round that goes on lowers the number. -/
theorem Lw.loop {x : SC} {α : Sort _} (I : α → Prop) (m : α → Nat) (Fi : α → Fr) (Hi : α → Hp) (h0 : ∃ i, I i ∧ Wk (Fi i) (Hi i) F H)
    (round : ∀ i, I i → Lw P N x (seqQ (fun F' H' => ∃ j, I j ∧ m j < m i ∧ Wk (Fi j) (Hi j) F' H') Q) (Fi i) (Hi i)) : Lw P N (.loop x) Q F H := by
  obtain ⟨i0, hi0, hw0⟩ := h0
  intro c hc
  obtain ⟨a, rfl, ha⟩ := slim_inv hc
  refine lwp_loop (fun n F H => ∃ i, I i ∧ m i = n ∧ Wk (Fi i) (Hi i) F H) ⟨i0, hi0, rfl, hw0⟩ fun n F H ⟨i, hi, hm, hw⟩ => ?_
  have := (round i hi).weaken hw
  refine (this a ha).mono fun e F' H' hq => ?_
  cases e with
  | normal =>
    obtain ⟨j, hj, hlt, hw'⟩ := hq
    exact ⟨m j, by omega, j, hj, rfl, hw'⟩
  | _ => exact hq

end

theorem Lw.reg {P : Program} {N : Nat} {Q : LPost} {F : Fr} {H : Hp} {l : List SO} (h : wps P l (fun F H => Q .normal F H) F H) : Lw P N (.reg l) Q F H := Lw.ops (OpsW.of l h)

theorem Lw.regq {P : Program} {N : Nat} {Q : LPost} {F : Fr} {H : Hp} {l : List SO} (hm : P.follows .mixedOrders = true) (h : wpsQ P H l (fun F => Q .normal F H) F) : Lw P N (.regq l) Q F H := Lw.opsq hm (OpsQ.of l h)

structure SF where
  n : Nat
  code : SC
  rs : List ResultVar

def slimF (P : Program) (f : Nat) : Option SF :=
  match P.funcs[f]? with
  | some fn => match fn.body with
    | some c => if fn.name == "runtime.NumGoroutine" then none else (slim fn.ntmps c).map fun s => ⟨fn.ntmps, s, fn.results.toList⟩
    | none => none
  | none => none

def resS (P : Program) (rs : List ResultVar) (F : Fr) (H : Hp) : Option LV :=
  match lresL P F H rs with
  | some [x] => some x
  | some l => some (.tup l)
  | none => none

/-- The way back. -/
def retS (P : Program) (rs : List ResultVar) (R : LV → Hp → Prop) : LPost
  | .normal, F, H => ocase (resS P rs F H) fun x => R x H
  | .ret, F, H => ocase (resS P rs F H) fun x => R x H
  | _, _, _ => False

/-- A contract, shown of the code in few words. -/
theorem lcalls {P : Program} {f : Nat} {sf : SF} {args : List LV} {R : LV → Hp → Prop} (h : slimF P f = some sf) (ha : args.length ≤ sf.n)
    (hl : Lw P sf.n sf.code (retS P sf.rs R) (frameOf 0 args) []) : LCalls P f args R := by
  unfold slimF at h
  split at h
  · rename_i fn hf
    split at h
    · rename_i c hb
      split at h
      · cases h
      · rename_i hname
        obtain ⟨s, hs, rfl⟩ := Option.map_eq_some_iff.1 h
        refine lcalls_of_lwp hf hb ?_ ?_
        · unfold callable
          simp only [hf, hb, Option.isNone_some, Bool.not_false, Bool.and_true]
          simpa using hname
        · have hN : args.length + (fn.ntmps - args.length) = fn.ntmps := by have : args.length ≤ fn.ntmps := ha; omega
          rw [hN]
          refine (hl c hs).mono fun e F H hq => ?_
          cases e with
          | normal =>
            simp only [retS] at hq
            unfold ocase at hq
            split at hq
            · rename_i x hx; exact ⟨x, hx, hq⟩
            · exact hq.elim
          | ret =>
            simp only [retS] at hq
            unfold ocase at hq
            split at hq
            · rename_i x hx; exact ⟨x, hx, hq⟩
            · exact hq.elim
          | _ => exact hq
    · cases h
  · cases h

end Go.Lite

/- Lite, part O: running code at closed arguments. -/
namespace Go.Lite
open Go Go.RowKit

inductive XE where
  | normal
  | exit (id : Nat)
  | ret

def XE.to : XE → Exit
  | .normal => .normal
  | .exit id => .exit id
  | .ret => .ret

def evStep (P : Program) (call : Nat → List LV → Option (LV × Hp)) (quiet : Bool) (o : Op) (F : Fr) (H : Hp) : Option (LV × Fr × Hp) :=
  match pureOp P F o with
  | some x => some (x, F, H)
  | none => match loadOp P F H o with
    | some x => some (x, F, H)
    | none => match o with
      | .call ⟨.value g, args, _⟩ => match evalO F g with
        | .fn f cap =>
          if quiet then
            (match call f ((args.toList.map (evalO F) ++ cap).map (snap H 3)) with
              | some (x, _) => if rigid x then some (x, F, H) else none
              | none => none)
          else if hfreeL (args.toList.map (evalO F) ++ cap) then
            (match call f (args.toList.map (evalO F) ++ cap) with
              | some (x, H') => some (sh H.length x, F, H ++ shH H.length H')
              | none => none)
          else (match call f ((args.toList.map (evalO F) ++ cap).map (snap H 3)) with
              | some (x, H') => if psfree x && psfreeH H' then some (sh H.length x, F, H ++ shH H.length H') else none
              | none => none)
        | _ => none
      | o => if quiet then none else effOp P F H o

def evOps (P : Program) (call : Nat → List LV → Option (LV × Hp)) (quiet : Bool) : List SO → Fr → Hp → Option (Fr × Hp)
  | [], F, H => some (F, H)
  | o :: r, F, H => match wantS o.g F with
    | some true => (match evStep P call quiet o.op F H with | some (x, F', H') => evOps P call quiet r (lput o.dst x F') H' | none => none)
    | some false => evOps P call quiet r (lput o.dst .und F) H
    | none => none

/-- The slots of F, each once. -/
def rm (s : Nat) : Fr → Fr
  | [] => []
  | (t, v) :: r => cond (Nat.beq t s) (rm s r) ((t, v) :: rm s r)
def dd : Nat → Fr → Fr
  | 0, F => F
  | _, [] => []
  | n + 1, (t, v) :: r => (t, v) :: dd n (rm t r)

theorem fget_rm (s : Nat) (F : Fr) (t : Nat) : fget (rm s F) t = if s = t then .dead else fget F t := by
  induction F with
  | nil => simp [rm, fget]
  | cons p r ih =>
    obtain ⟨u, v⟩ := p
    simp only [rm]
    by_cases h : u = s
    · subst h
      simp only [Nat.beq_refl, cond_true, ih, fget_cons]
      split <;> simp_all
    · have : Nat.beq u s = false := by
        rw [← Bool.not_eq_true]; intro h2; exact h (Nat.eq_of_beq_eq_true h2)
      rw [this]
      simp only [cond_false, fget_cons, ih]
      by_cases h2 : u = t
      · subst h2
        rw [if_pos rfl, if_neg (fun e => h e.symm), if_pos rfl]
      · rw [if_neg h2, if_neg h2]

theorem fget_dd (n : Nat) : ∀ (F : Fr) (t : Nat), fget (dd n F) t = fget F t := by
  induction n with
  | zero => intro F t; simp [dd]
  | succ n ih =>
    intro F t
    cases F with
    | nil => simp [dd]
    | cons p r =>
      obtain ⟨s, v⟩ := p
      simp only [dd, fget_cons]
      split
      · rfl
      · rename_i h
        rw [ih, fget_rm, if_neg h]

def evS (P : Program) (call : Nat → List LV → Option (LV × Hp)) : Nat → SC → Fr → Hp → Option (XE × Fr × Hp)
  | 0, _, _, _ => none
  | n + 1, s, F, H => match s with
    | .skip => some (.normal, F, H)
    | .reg ops => (match evOps P call false ops F H with | some (F, H) => some (.normal, F, H) | none => none)
    | .regq ops => (match evOps P call true ops F H with | some (F, H) => some (.normal, F, H) | none => none)
    | .seq a b => (match evS P call n a F H with
      | some (.normal, F, H) => evS P call n b F H
      | r => r)
    | .cond c a b => (match evalO F c with
      | .bool true => evS P call n a F H
      | .bool false => evS P call n b F H
      | _ => none)
    | .block id c => (match evS P call n c F H with
      | some (.exit id', F, H) => if id' = id then some (.normal, F, H) else some (.exit id', F, H)
      | r => r)
    | .loop c => (match evS P call n c F H with
      | some (.normal, F, H) => evS P call n (.loop c) (dd 300 F) H
      | r => r)
    | .exit id => some (.exit id, F, H)
    | .ret => some (.ret, F, H)

def find (tbl : List (Nat × SF)) (f : Nat) : Option SF :=
  match tbl with
  | [] => none
  | (g, s) :: r => cond (Nat.beq g f) (some s) (find r f)

def okT (P : Program) : List (Nat × SF) → Prop
  | [] => True
  | (f, s) :: r => slimF P f = some s ∧ okT P r

theorem find_ok {P : Program} : ∀ (tbl : List (Nat × SF)), okT P tbl → ∀ f sf, find tbl f = some sf → slimF P f = some sf := by
  intro tbl
  induction tbl with
  | nil => intro _ f sf h; cases h
  | cons p r ih =>
    obtain ⟨g, s⟩ := p
    intro hok f sf h
    simp only [find] at h
    cases hb : Nat.beq g f with
    | true =>
      rw [hb] at h
      have := Nat.eq_of_beq_eq_true hb
      subst this
      obtain rfl := Option.some.inj h
      exact hok.1
    | false => rw [hb] at h; exact ih hok.2 f sf h

/-- A call at closed arguments. -/
def evF (P : Program) (tbl : List (Nat × SF)) (n : Nat) : Nat → Nat → List LV → Option (LV × Hp)
  | 0, _, _ => none
  | d + 1, f, args => match find tbl f with
    | some sf => if args.length ≤ sf.n then
        (match evS P (evF P tbl n d) n sf.code (frameOf 0 args) [] with
        | some (.exit _, _, _) => none
        | some (_, F, H) => (match resS P sf.rs F H with | some x => some (x, H) | none => none)
        | none => none) else none
    | none => none

section
variable {P : Program} {N : Nat} {call : Nat → List LV → Option (LV × Hp)} (hm : P.follows .mixedOrders = true) (hcall : ∀ f args x H, call f args = some (x, H) → LCalls P f args fun y G => y = x ∧ G = H)
include hcall

theorem evStep_sound {o : Op} {F F' : Fr} {H H' : Hp} {x : LV} (h : evStep P call false o F H = some (x, F', H')) {K : LV → Fr → Hp → Prop} (hK : K x F' H') : stepOp P o K F H := by
  unfold evStep at h
  unfold stepOp
  split at h
  · rename_i y hy
    simp only [Option.some.injEq, Prod.mk.injEq] at h
    obtain ⟨rfl, rfl, rfl⟩ := h
    simp only [hy]; exact hK
  · rename_i hy
    simp only [hy]
    split at h
    · rename_i z hz
      simp only [Option.some.injEq, Prod.mk.injEq] at h
      obtain ⟨rfl, rfl, rfl⟩ := h
      simp only [hz]; exact hK
    · rename_i hz
      simp only [hz]
      split at h
      · rename_i g args tys
        have he : effOp P F H (.call ⟨.value g, args, tys⟩) = none := rfl
        simp only [he]
        split at h
        · rename_i f cap hg
          simp only [hg]
          simp only [Bool.false_eq_true, if_false] at h
          split at h
          · rename_i hf
            split at h
            · rename_i y G hc
              simp only [Option.some.injEq, Prod.mk.injEq] at h
              obtain ⟨rfl, rfl, rfl⟩ := h
              exact .inl ⟨hf, (hcall _ _ _ _ hc).mono fun y' G' ⟨e1, e2⟩ => by rw [e1, e2]; exact hK⟩
            · cases h
          · split at h
            · rename_i y G hc
              split at h
              · rename_i hps
                simp only [Bool.and_eq_true] at hps
                simp only [Option.some.injEq, Prod.mk.injEq] at h
                obtain ⟨rfl, rfl, rfl⟩ := h
                exact .inr ((hcall _ _ _ _ hc).mono fun y' G' ⟨e1, e2⟩ => by rw [e1, e2]; exact ⟨hps.1, hps.2, hK⟩)
              · cases h
            · cases h
        · cases h
      · simp only [Bool.false_eq_true, if_false] at h
        rw [h]
        exact hK

theorem evStepQ_sound {o : Op} {F F' : Fr} {H H' : Hp} {x : LV} (h : evStep P call true o F H = some (x, F', H')) {K : LV → Prop} (hK : K x) : stepQ P o K F H ∧ F' = F ∧ H' = H := by
  unfold evStep at h
  unfold stepQ
  split at h
  · rename_i y hy
    simp only [Option.some.injEq, Prod.mk.injEq] at h
    obtain ⟨rfl, rfl, rfl⟩ := h
    rw [hy]; exact ⟨hK, rfl, rfl⟩
  · rename_i hy
    rw [hy]
    split at h
    · rename_i z hz
      simp only [Option.some.injEq, Prod.mk.injEq] at h
      obtain ⟨rfl, rfl, rfl⟩ := h
      rw [hz]; exact ⟨hK, rfl, rfl⟩
    · rename_i hz
      rw [hz]
      split at h
      · rename_i g args tys
        split at h
        · rename_i f cap hg
          simp only [if_true] at h
          split at h
          · rename_i y G hc
            split at h
            · rename_i hr
              simp only [Option.some.injEq, Prod.mk.injEq] at h
              obtain ⟨rfl, rfl, rfl⟩ := h
              refine ⟨?_, rfl, rfl⟩
              simp only [hg]
              exact ⟨_, ⟨hr, .inr ((hcall _ _ _ _ hc).mono fun y' G' e => e.1)⟩, hK⟩
            · cases h
          · cases h
        · cases h
      · simp only [if_true, reduceCtorEq] at h

theorem evOps_sound : ∀ (l : List SO) (F F' : Fr) (H H' : Hp), evOps P call false l F H = some (F', H') → ∀ K : Fr → Hp → Prop, K F' H' → OpsW P N l K F H := by
  intro l
  induction l with
  | nil =>
    intro F F' H H' h K hK
    simp only [evOps, Option.some.injEq, Prod.mk.injEq] at h
    obtain ⟨rfl, rfl⟩ := h
    exact .nil hK
  | cons o r ih =>
    intro F F' H H' h K hK
    simp only [evOps] at h
    split at h
    · rename_i e
      split at h
      · rename_i x F1 H1 h1
        exact .step e (evStep_sound hcall h1 (ih _ _ _ _ h K hK))
      · cases h
    · rename_i e
      exact .skip e (ih _ _ _ _ h K hK)
    · cases h

theorem evOpsQ_sound : ∀ (l : List SO) (F F' : Fr) (H H' : Hp), evOps P call true l F H = some (F', H') → H' = H ∧ ∀ K : Fr → Prop, K F' → OpsQ P N l K F H := by
  intro l
  induction l with
  | nil =>
    intro F F' H H' h
    simp only [evOps, Option.some.injEq, Prod.mk.injEq] at h
    obtain ⟨rfl, rfl⟩ := h
    exact ⟨rfl, fun K hK => .nil hK⟩
  | cons o r ih =>
    intro F F' H H' h
    simp only [evOps] at h
    split at h
    · rename_i e
      split at h
      · rename_i x F1 H1 h1
        have h2 := evStepQ_sound hcall h1 (K := fun _ => True) trivial
        obtain ⟨_, rfl, rfl⟩ := h2
        obtain ⟨rfl, h3⟩ := ih _ _ _ _ h
        exact ⟨rfl, fun K hK => .step e (evStepQ_sound hcall h1 (h3 K hK)).1⟩
      · cases h
    · rename_i e
      obtain ⟨h1, h3⟩ := ih _ _ _ _ h
      exact ⟨h1, fun K hK => .skip e (h3 K hK)⟩
    · cases h

include hm in
theorem evS_sound : ∀ (n : Nat) (s : SC) (F F' : Fr) (H H' : Hp) (e : XE), evS P call n s F H = some (e, F', H') → ∀ Q : LPost, Q e.to F' H' → Lw P N s Q F H := by
  intro n
  induction n using Nat.strongRecOn with
  | _ n0 ih0 =>
    intro s F F' H H' e h Q hQ
    cases n0 with
    | zero => cases h
    | succ n =>
    have ih := ih0 n (Nat.lt_succ_self n)
    cases s with
    | skip =>
      simp only [evS, Option.some.injEq, Prod.mk.injEq] at h
      obtain ⟨rfl, rfl, rfl⟩ := h
      exact .skip hQ
    | exit id =>
      simp only [evS, Option.some.injEq, Prod.mk.injEq] at h
      obtain ⟨rfl, rfl, rfl⟩ := h
      exact .exit hQ
    | ret =>
      simp only [evS, Option.some.injEq, Prod.mk.injEq] at h
      obtain ⟨rfl, rfl, rfl⟩ := h
      exact .ret hQ
    | reg ops =>
      simp only [evS] at h
      split at h
      · rename_i F1 H1 h1
        simp only [Option.some.injEq, Prod.mk.injEq] at h
        obtain ⟨rfl, rfl, rfl⟩ := h
        exact .ops (evOps_sound hcall _ _ _ _ _ h1 _ hQ)
      · cases h
    | regq ops =>
      simp only [evS] at h
      split at h
      · rename_i F1 H1 h1
        simp only [Option.some.injEq, Prod.mk.injEq] at h
        obtain ⟨rfl, rfl, rfl⟩ := h
        obtain ⟨rfl, h2⟩ := evOpsQ_sound (N := N) hcall _ _ _ _ _ h1
        exact .opsq hm (h2 _ hQ)
      · cases h
    | seq a b =>
      simp only [evS] at h
      refine .seq ?_
      split at h
      · rename_i F1 H1 h1
        exact ih _ _ _ _ _ _ h1 _ (ih _ _ _ _ _ _ h _ hQ)
      · rename_i hne
        refine ih _ _ _ _ _ _ h _ ?_
        cases e with
        | normal => exact absurd h (hne F' H')
        | _ => exact hQ
    | cond c a b =>
      simp only [evS] at h
      split at h
      · rename_i hc
        exact .cond hc (fun _ => ih _ _ _ _ _ _ h _ hQ) (fun e => Bool.noConfusion e)
      · rename_i hc
        exact .cond hc (fun e => Bool.noConfusion e) (fun _ => ih _ _ _ _ _ _ h _ hQ)
      · cases h
    | block id c =>
      simp only [evS] at h
      refine .block ?_
      split at h
      · rename_i id' F1 H1 h1
        refine ih _ _ _ _ _ _ h1 _ ?_
        show blockQ id Q (.exit id') F1 H1
        simp only [blockQ]
        split at h
        · rename_i he
          simp only [Option.some.injEq, Prod.mk.injEq] at h
          obtain ⟨rfl, rfl, rfl⟩ := h
          rw [if_pos he]; exact hQ
        · rename_i he
          simp only [Option.some.injEq, Prod.mk.injEq] at h
          obtain ⟨rfl, rfl, rfl⟩ := h
          rw [if_neg he]; exact hQ
      · rename_i hne
        refine ih _ _ _ _ _ _ h _ ?_
        cases e with
        | exit id' => exact absurd h (hne id' F' H')
        | normal => exact hQ
        | ret => exact hQ
    | loop c =>
      refine .loop (α := Nat × Fr × Hp) (fun i => i.1 < n + 1 ∧ evS P call (i.1 + 1) (.loop c) i.2.1 i.2.2 = some (e, F', H')) (·.1) (·.2.1) (·.2.2) ⟨(n, F, H), ⟨Nat.lt_succ_self n, h⟩, .refl _ _⟩ fun i hi => ?_
      obtain ⟨m, F1, H1⟩ := i
      obtain ⟨hmn, hev⟩ := hi
      have ihm := ih0 m hmn
      simp only [evS] at hev
      split at hev
      · rename_i F2 H2 h2
        refine ihm _ _ _ _ _ _ h2 _ ?_
        cases m with
        | zero => cases hev
        | succ m => exact ⟨(m, dd 300 F2, H2), ⟨by omega, hev⟩, Nat.lt_succ_self m, .frame fun t => .inl (fget_dd 300 F2 t)⟩
      · rename_i hne
        refine ihm _ _ _ _ _ _ hev _ ?_
        cases e with
        | normal => exact absurd hev (hne F' H')
        | exit id => exact hQ
        | ret => exact hQ

end

/-- A call at closed arguments comes to what the run says. -/
theorem evF_sound {P : Program} (hm : P.follows .mixedOrders = true) {tbl : List (Nat × SF)} (ht : ∀ f sf, find tbl f = some sf → slimF P f = some sf) {n : Nat} : ∀ (d f : Nat) (args : List LV) (x : LV) (H : Hp),
    evF P tbl n d f args = some (x, H) → LCalls P f args fun y G => y = x ∧ G = H := by
  intro d
  induction d with
  | zero => intro f args x H h; cases h
  | succ d ih =>
    intro f args x H h
    simp only [evF] at h
    split at h
    · rename_i sf hsf
      split at h
      · rename_i ha
        split at h
        · cases h
        · rename_i e F1 H1 hne he
          split at h
          · rename_i y hy
            simp only [Option.some.injEq, Prod.mk.injEq] at h
            obtain ⟨rfl, rfl⟩ := h
            refine lcalls (ht f sf hsf) ha (evS_sound hm ih n sf.code _ _ _ _ e he _ ?_)
            have key : ocase (resS P sf.rs F1 H1) (fun z => z = y ∧ H1 = H1) := by rw [hy]; exact ⟨rfl, rfl⟩
            cases e with
            | normal => exact key
            | ret => exact key
            | exit id => exact absurd rfl (hne id)
          · cases h
        · cases h
      · cases h
    · cases h

end Go.Lite

/- Lite, part P: small facts for the walks. -/
namespace Go.Lite
open Go

theorem w64 (n : Int) (h1 : -9223372036854775808 ≤ n) (h2 : n ≤ 9223372036854775807) : IntKind.i64.wrap n = n := by
  simp [IntKind.wrap, IntKind.bits, IntKind.signed]; omega
theorem wu64 (n : Int) (h1 : 0 ≤ n) (h2 : n ≤ 18446744073709551615) : IntKind.u64.wrap n = n := by
  simp [IntKind.wrap, IntKind.bits, IntKind.signed]; omega
theorem wu8 (n : Int) (h1 : 0 ≤ n) (h2 : n ≤ 255) : IntKind.u8.wrap n = n := by
  simp [IntKind.wrap, IntKind.bits, IntKind.signed]; omega
theorem wu32 (n : Int) (h1 : 0 ≤ n) (h2 : n ≤ 4294967295) : IntKind.u32.wrap n = n := by
  simp [IntKind.wrap, IntKind.bits, IntKind.signed]; omega

theorem tdiv_pos (n m : Int) (h : 0 ≤ n) : n.tdiv m = n / m := Int.tdiv_eq_ediv_of_nonneg h
theorem tmod_pos (n m : Int) (h : 0 ≤ n) : n.tmod m = n % m := Int.tmod_eq_emod_of_nonneg h

theorem div_unique (n m k : Int) (hm : 1 ≤ m) (h1 : k * m ≤ n) (h2 : n < (k + 1) * m) : n / m = k := by
  have a := (Int.le_ediv_iff_mul_le (show 0 < m by omega)).2 h1
  have b := (Int.ediv_lt_iff_lt_mul (show 0 < m by omega)).2 h2
  omega

theorem tmod_bd (n m : Int) (hm : 1 ≤ m) : n.tdiv m * m + n.tmod m = n ∧ -m < n.tmod m ∧ n.tmod m < m ∧ (n < 0 → n.tmod m ≤ 0) ∧ (0 ≤ n → 0 ≤ n.tmod m) := by
  refine ⟨by rw [Int.mul_comm]; exact Int.mul_tdiv_add_tmod n m, ?_, ?_, fun h => ?_, fun h => Int.tmod_nonneg m h⟩
  · have := Int.lt_tmod_of_pos n (show 0 < m by omega)
    omega
  · exact Int.tmod_lt_of_pos n (by omega)
  · have h1 := Int.tmod_nonneg m (show 0 ≤ -n by omega)
    rw [Int.neg_tmod] at h1
    omega

/-- Go's division and one more step down is the floor. -/
theorem floor_down (n m : Int) (hm : 1 ≤ m) (h : n < n.tdiv m * m) : n.tdiv m - 1 = n / m := by
  obtain ⟨h1, h2, h3, _⟩ := tmod_bd n m hm
  refine (div_unique n m _ hm ?_ ?_).symm
  · rw [Int.sub_mul]; omega
  · rw [Int.sub_add_cancel]; exact h

theorem floor_same (n m : Int) (hm : 1 ≤ m) (h : ¬ n < n.tdiv m * m) : n.tdiv m = n / m := by
  obtain ⟨h1, h2, h3, _⟩ := tmod_bd n m hm
  refine (div_unique n m _ hm ?_ ?_).symm
  · omega
  · rw [Int.add_mul]; omega

theorem tdiv_bd (n m : Int) (hm : 1 ≤ m) (h1 : -9223372036854775808 ≤ n) (h2 : n ≤ 9223372036854775807) : -9223372036854775808 ≤ n.tdiv m ∧ n.tdiv m ≤ 9223372036854775807 ∧
    (n < 0 → n ≤ n.tdiv m ∧ n.tdiv m ≤ 0) ∧ (0 ≤ n → 0 ≤ n.tdiv m ∧ n.tdiv m ≤ n) := by
  rcases Int.lt_or_le n 0 with h | h
  · have e : n.tdiv m = -((-n) / m) := by
      have := Int.neg_tdiv n m
      rw [← tdiv_pos (-n) m (by omega), Int.neg_tdiv]; omega
    have a := Int.ediv_nonneg (show 0 ≤ -n by omega) (show 0 ≤ m by omega)
    have b := Int.ediv_le_self m (show 0 ≤ -n by omega)
    omega
  · rw [tdiv_pos n m h]
    have a := Int.ediv_nonneg h (show 0 ≤ m by omega)
    have b := Int.ediv_le_self m h
    omega

theorem ediv_bd (n m : Int) (hm : 1 ≤ m) : (n < 0 → n ≤ n / m ∧ n / m < 0) ∧ (0 ≤ n → 0 ≤ n / m ∧ n / m ≤ n) := by
  refine ⟨fun h => ⟨?_, Int.ediv_neg_of_neg_of_pos h (by omega)⟩, fun h => ⟨Int.ediv_nonneg h (by omega), Int.ediv_le_self m h⟩⟩
  refine (Int.le_ediv_iff_mul_le (by omega)).2 ?_
  have := Int.mul_le_mul_of_nonpos_left (show n ≤ 0 by omega) hm
  omega

theorem wrap_emod (n m : Int) (hm : 1 ≤ m) (hm2 : m ≤ 4611686018427387904) : 0 ≤ n % m ∧ n % m < m ∧ m * (n / m) + n % m = n :=
  ⟨Int.emod_nonneg n (by omega), Int.emod_lt_of_pos n (by omega), Int.mul_ediv_add_emod n m⟩

theorem w64_sub (a b : Int) : IntKind.i64.wrap (a - IntKind.i64.wrap b) = IntKind.i64.wrap (a - b) := by
  simp [IntKind.wrap, IntKind.bits, IntKind.signed]; omega
theorem w64_add (a b : Int) : IntKind.i64.wrap (a + IntKind.i64.wrap b) = IntKind.i64.wrap (a + b) := by
  simp [IntKind.wrap, IntKind.bits, IntKind.signed]; omega

theorem prod_sign (n m : Int) (hm : 1 ≤ m) : (n < 0 → n.tdiv m * m ≤ 0) ∧ (0 ≤ n → 0 ≤ n.tdiv m * m) := by
  obtain ⟨h1, h2, h3, h4, h5⟩ := tmod_bd n m hm
  refine ⟨fun h => ?_, fun h => ?_⟩
  · rcases Int.lt_or_le 0 (n.tdiv m) with hq | hq
    · have := Int.mul_le_mul_of_nonneg_right (show 1 ≤ n.tdiv m by omega) (show 0 ≤ m by omega)
      have := h4 h
      omega
    · exact Int.mul_nonpos_of_nonpos_of_nonneg hq (by omega)
  · exact Int.mul_nonneg (by rw [tdiv_pos n m h]; exact Int.ediv_nonneg h (by omega)) (by omega)

end Go.Lite

/- Lite, part R: one operation at a time. -/
namespace Go.Lite
open Go Go.RowKit

/-- Frame and rows behind an operation that calls nothing. -/
def valOp (P : Program) (F : Fr) (H : Hp) (d : Option Nat) (op : Op) : Option (Fr × Hp) :=
  match op with
  | .load t a => (loadOp P F H (.load t a)).map fun x => (lput d x F, H)
  | .store t a b => (effOp P F H (.store t a b)).map fun r => (lput d r.1 r.2.1, r.2.2)
  | .alloc t => (effOp P F H (.alloc t)).map fun r => (lput d r.1 r.2.1, r.2.2)
  | .box t a => (effOp P F H (.box t a)).map fun r => (lput d r.1 r.2.1, r.2.2)
  | .buildSlice t n ps => (effOp P F H (.buildSlice t n ps)).map fun r => (lput d r.1 r.2.1, r.2.2)
  | .makeSlice t a b => (effOp P F H (.makeSlice t a b)).map fun r => (lput d r.1 r.2.1, r.2.2)
  | .call ⟨.builtin .append, as, ts⟩ => (effOp P F H (.call ⟨.builtin .append, as, ts⟩)).map fun r => (lput d r.1 r.2.1, r.2.2)
  | .call ⟨.builtin .copy, as, ts⟩ => (effOp P F H (.call ⟨.builtin .copy, as, ts⟩)).map fun r => (lput d r.1 r.2.1, r.2.2)
  | op => (pureOp P F op).map fun x => (lput d x F, H)

theorem valOp_sound {P : Program} {F : Fr} {H : Hp} {d : Option Nat} {op : Op} {K : Fr → Hp → Prop} {F' : Fr} {H' : Hp} (h : valOp P F H d op = some (F', H')) (k : K F' H') :
    stepOp P op (fun x F' H' => K (lput d x F') H') F H := by
  have pureCase : ∀ {op : Op}, (pureOp P F op).map (fun x => (lput d x F, H)) = some (F', H') → stepOp P op (fun x F' H' => K (lput d x F') H') F H := by
    intro op h
    obtain ⟨x, hx, e⟩ := Option.map_eq_some_iff.1 h
    obtain ⟨rfl, rfl⟩ := Prod.mk.inj e
    unfold stepOp
    rw [hx]
    exact k
  have effCase : ∀ {op : Op}, pureOp P F op = none → loadOp P F H op = none → (effOp P F H op).map (fun r => (lput d r.1 r.2.1, r.2.2)) = some (F', H') → stepOp P op (fun x F' H' => K (lput d x F') H') F H := by
    intro op h1 h2 h
    obtain ⟨⟨x, F1, H1⟩, hx, e⟩ := Option.map_eq_some_iff.1 h
    obtain ⟨rfl, rfl⟩ := Prod.mk.inj e
    unfold stepOp
    rw [h1, h2, hx]
    exact k
  unfold valOp at h
  split at h
  · rename_i t a
    obtain ⟨x, hx, e⟩ := Option.map_eq_some_iff.1 h
    obtain ⟨rfl, rfl⟩ := Prod.mk.inj e
    unfold stepOp
    have h1 : pureOp P F (.load t a) = none := rfl
    rw [h1, hx]
    exact k
  · exact effCase rfl rfl h
  · exact effCase rfl rfl h
  · exact effCase rfl rfl h
  · exact effCase rfl rfl h
  · exact effCase rfl rfl h
  · exact effCase rfl rfl h
  · exact effCase rfl rfl h
  · exact pureCase h

/-- One operation. -/
def next (P : Program) (o : SO) (F : Fr) (H : Hp) : Option (Fr × Hp) :=
  match o with
  | ⟨d, op, none⟩ => valOp P F H d op
  | ⟨d, op, some (s, want)⟩ => match fget F s with
    | .bool b => if b = want then valOp P F H d op else some (lput d .und F, H)
    | .und => some (lput d .und F, H)
    | _ => none

section
variable {P : Program} {N : Nat} {F : Fr} {H : Hp}

theorem OpsW.nx {Q : Fr → Hp → Prop} {r : List SO} {o : SO} {F' : Fr} {H' : Hp} (h : next P o F H = some (F', H')) (k : OpsW P N r Q F' H') : OpsW P N (o :: r) Q F H := by
  obtain ⟨d, op, g⟩ := o
  rcases g with _ | ⟨s, want⟩
  · exact .step rfl (valOp_sound (K := fun F H => OpsW P N r Q F H) h k)
  · simp only [next] at h
    split at h
    · rename_i b hb
      split at h
      · rename_i hw
        exact .step (by simp [wantS, hb, hw]) (valOp_sound (K := fun F H => OpsW P N r Q F H) h k)
      · rename_i hw
        obtain ⟨rfl, rfl⟩ := Prod.mk.inj (Option.some.inj h)
        exact .skip (by simpa [wantS, hb] using hw) k
    · rename_i hb
      obtain ⟨rfl, rfl⟩ := Prod.mk.inj (Option.some.inj h)
      exact .skip (by simp [wantS, hb]) k
    · cases h

/-- A bool that is not known: both ways. -/
theorem OpsW.both {Q : Fr → Hp → Prop} {l : List SO} (s : Nat) {b : Bool} (hs : fget F s = .bool b) (h1 : b = true → OpsW P N l Q ((s, .bool true) :: F) H) (h2 : b = false → OpsW P N l Q ((s, .bool false) :: F) H) : OpsW P N l Q F H := by
  cases b with
  | true => exact .weaken (.frame (subF_bool hs)) (h1 rfl)
  | false => exact .weaken (.frame (subF_bool hs)) (h2 rfl)

/-- A call of a function by name; the arguments hold no own rows. -/
theorem OpsW.call {Q : Fr → Hp → Prop} {r : List SO} {d : Option Nat} {f : Nat} {args : Array Operand} {tys : Array TypeId} {g : Option (Nat × Bool)} {as : List LV} {R : LV → Hp → Prop}
    (hc : LCalls P f as R) (hg : wantS g F = some true) (ha : args.toList.map (evalO F) = as) (hf : hfreeL as = true)
    (k : ∀ x G, R x G → OpsW P N r Q (lput d (sh H.length x) F) (H ++ shH H.length G)) : OpsW P N (⟨d, .call ⟨.value (.func f), args, tys⟩, g⟩ :: r) Q F H := by
  refine .step hg ?_
  have h1 : pureOp P F (.call ⟨.value (.func f), args, tys⟩) = none := rfl
  have h2 : loadOp P F H (.call ⟨.value (.func f), args, tys⟩) = none := rfl
  have h3 : effOp P F H (.call ⟨.value (.func f), args, tys⟩) = none := rfl
  unfold stepOp
  simp only [h1, h2, h3, evalO]
  unfold callK
  rw [List.append_nil, ha]
  exact .inl ⟨hf, hc.mono k⟩

/-- The same where the arguments are slices of own rows: the callee reads them as they are. -/
theorem OpsW.calls {Q : Fr → Hp → Prop} {r : List SO} {d : Option Nat} {f : Nat} {args : Array Operand} {tys : Array TypeId} {g : Option (Nat × Bool)} {as : List LV} {R : LV → Hp → Prop}
    (hc : LCalls P f as R) (hg : wantS g F = some true) (ha : args.toList.map (fun o => snap H 3 (evalO F o)) = as)
    (hR : ∀ x G, R x G → psfree x = true ∧ psfreeH G = true)
    (k : ∀ x G, R x G → OpsW P N r Q (lput d (sh H.length x) F) (H ++ shH H.length G)) : OpsW P N (⟨d, .call ⟨.value (.func f), args, tys⟩, g⟩ :: r) Q F H := by
  refine .step hg ?_
  have h1 : pureOp P F (.call ⟨.value (.func f), args, tys⟩) = none := rfl
  have h2 : loadOp P F H (.call ⟨.value (.func f), args, tys⟩) = none := rfl
  have h3 : effOp P F H (.call ⟨.value (.func f), args, tys⟩) = none := rfl
  unfold stepOp
  simp only [h1, h2, h3, evalO]
  unfold callK
  rw [List.append_nil]
  refine .inr ?_
  rw [List.map_map]
  have ha' : args.toList.map (snap H 3 ∘ evalO F) = as := ha
  rw [ha']
  exact hc.mono fun x G h => ⟨(hR x G h).1, (hR x G h).2, k x G h⟩

/-- What is to be shown at a call whose arguments are known. -/
def OpsC (P : Program) (N : Nat) (r : List SO) (Q : Fr → Hp → Prop) (d : Option Nat) (f : Nat) (as : List LV) (F : Fr) (H : Hp) : Prop :=
  ∃ R, LCalls P f as R ∧ hfreeL as = true ∧ ∀ x G, R x G → OpsW P N r Q (lput d (sh H.length x) F) (H ++ shH H.length G)

theorem OpsW.arg {Q : Fr → Hp → Prop} {r : List SO} {d : Option Nat} {f : Nat} {args : Array Operand} {tys : Array TypeId} {g : Option (Nat × Bool)} {as : List LV}
    (hg : wantS g F = some true) (ha : args.toList.map (evalO F) = as) (k : OpsC P N r Q d f as F H) : OpsW P N (⟨d, .call ⟨.value (.func f), args, tys⟩, g⟩ :: r) Q F H := by
  obtain ⟨R, hc, hf, k⟩ := k
  exact .call hc hg ha hf k

theorem OpsC.of {Q : Fr → Hp → Prop} {r : List SO} {d : Option Nat} {f : Nat} {as : List LV} {R : LV → Hp → Prop} (hc : LCalls P f as R) (hf : hfreeL as = true)
    (k : ∀ x G, R x G → OpsW P N r Q (lput d (sh H.length x) F) (H ++ shH H.length G)) : OpsC P N r Q d f as F H := ⟨R, hc, hf, k⟩

/-- The same where the arguments are slices of own rows. -/
def OpsCs (P : Program) (N : Nat) (r : List SO) (Q : Fr → Hp → Prop) (d : Option Nat) (f : Nat) (as : List LV) (F : Fr) (H : Hp) : Prop :=
  ∃ R, LCalls P f as R ∧ (∀ x G, R x G → psfree x = true ∧ psfreeH G = true) ∧ ∀ x G, R x G → OpsW P N r Q (lput d (sh H.length x) F) (H ++ shH H.length G)

theorem OpsW.args {Q : Fr → Hp → Prop} {r : List SO} {d : Option Nat} {f : Nat} {args : Array Operand} {tys : Array TypeId} {g : Option (Nat × Bool)} {as : List LV}
    (hg : wantS g F = some true) (ha : args.toList.map (fun o => snap H 3 (evalO F o)) = as) (k : OpsCs P N r Q d f as F H) : OpsW P N (⟨d, .call ⟨.value (.func f), args, tys⟩, g⟩ :: r) Q F H := by
  obtain ⟨R, hc, hf, k⟩ := k
  exact .calls hc hg ha hf k

theorem valQ_sound {d : Option Nat} {op : Op} {K : LV → Prop} {x : LV} (h : pureOp P F op = some x) (k : K x) : stepQ P op K F H := by
  unfold stepQ
  rw [h]
  exact k

/-- One operation that reads or computes. -/
def nextQ (P : Program) (o : SO) (F : Fr) (H : Hp) : Option Fr :=
  match o with
  | ⟨d, op, none⟩ => (match op with | .load t a => loadOp P F H (.load t a) | op => pureOp P F op).map fun x => lput d x F
  | ⟨d, op, some (s, want)⟩ => match fget F s with
    | .bool b => if b = want then (match op with | .load t a => loadOp P F H (.load t a) | op => pureOp P F op).map fun x => lput d x F else some (lput d .und F)
    | .und => some (lput d .und F)
    | _ => none

theorem readQ {op : Op} {d : Option Nat} {F' : Fr} {K : Fr → Prop} (h : (match op with | .load t a => loadOp P F H (.load t a) | op => pureOp P F op).map (fun x => lput d x F) = some F') (k : K F') :
    stepQ P op (fun x => K (lput d x F)) F H := by
  obtain ⟨x, hx, rfl⟩ := Option.map_eq_some_iff.1 h
  split at hx
  · rename_i t a
    unfold stepQ
    have h1 : pureOp P F (.load t a) = none := rfl
    rw [h1, hx]
    exact k
  · unfold stepQ
    rw [hx]
    exact k

theorem OpsQ.nx {Q : Fr → Prop} {r : List SO} {o : SO} {F' : Fr} (h : nextQ P o F H = some F') (k : OpsQ P N r Q F' H) : OpsQ P N (o :: r) Q F H := by
  obtain ⟨d, op, g⟩ := o
  rcases g with _ | ⟨s, want⟩
  · exact .step rfl (readQ (K := fun F => OpsQ P N r Q F H) h k)
  · simp only [nextQ] at h
    split at h
    · rename_i b hb
      split at h
      · rename_i hw
        exact .step (by simp [wantS, hb, hw]) (readQ (K := fun F => OpsQ P N r Q F H) h k)
      · rename_i hw
        obtain rfl := Option.some.inj h
        exact .skip (by simpa [wantS, hb] using hw) k
    · rename_i hb
      obtain rfl := Option.some.inj h
      exact .skip (by simp [wantS, hb]) k
    · cases h

theorem OpsQ.both {Q : Fr → Prop} {l : List SO} (s : Nat) {b : Bool} (hs : fget F s = .bool b) (h1 : b = true → OpsQ P N l Q ((s, .bool true) :: F) H) (h2 : b = false → OpsQ P N l Q ((s, .bool false) :: F) H) : OpsQ P N l Q F H := by
  cases b with
  | true => exact .weaken (subF_bool hs) (h1 rfl)
  | false => exact .weaken (subF_bool hs) (h2 rfl)

theorem OpsQ.call {Q : Fr → Prop} {r : List SO} {d : Option Nat} {f : Nat} {args : Array Operand} {tys : Array TypeId} {g : Option (Nat × Bool)} {as : List LV} {x : LV} {R : LV → Hp → Prop}
    (hc : LCalls P f as R) (hg : wantS g F = some true) (ha : args.toList.map (evalO F) = as) (hf : hfreeL as = true) (hR : ∀ y G, R y G → y = x) (hx : rigid x = true)
    (k : OpsQ P N r Q (lput d x F) H) : OpsQ P N (⟨d, .call ⟨.value (.func f), args, tys⟩, g⟩ :: r) Q F H := by
  refine .step hg ?_
  show ∃ x, quietK P f (args.toList.map (evalO F) ++ []) H x ∧ _
  rw [List.append_nil, ha]
  exact ⟨x, ⟨hx, .inl ⟨hc.mono hR, hf⟩⟩, k⟩

/-- What is to be shown at a quiet call whose arguments are known. -/
def OpsQC (P : Program) (N : Nat) (r : List SO) (Q : Fr → Prop) (d : Option Nat) (f : Nat) (as : List LV) (F : Fr) (H : Hp) : Prop :=
  ∃ R x, LCalls P f as R ∧ hfreeL as = true ∧ (∀ y G, R y G → y = x) ∧ rigid x = true ∧ OpsQ P N r Q (lput d x F) H

theorem OpsQ.arg {Q : Fr → Prop} {r : List SO} {d : Option Nat} {f : Nat} {args : Array Operand} {tys : Array TypeId} {g : Option (Nat × Bool)} {as : List LV}
    (hg : wantS g F = some true) (ha : args.toList.map (evalO F) = as) (k : OpsQC P N r Q d f as F H) : OpsQ P N (⟨d, .call ⟨.value (.func f), args, tys⟩, g⟩ :: r) Q F H := by
  obtain ⟨R, x, hc, hf, h1, h2, k⟩ := k
  exact .call hc hg ha hf h1 h2 k

theorem OpsQC.of {Q : Fr → Prop} {r : List SO} {d : Option Nat} {f : Nat} {as : List LV} {v : LV} {T : Hp → Prop} (hc : LCalls P f as fun x H => x = v ∧ T H) (hf : hfreeL as = true) (hx : rigid v = true)
    (k : OpsQ P N r Q (lput d v F) H) : OpsQC P N r Q d f as F H := ⟨_, v, hc, hf, fun _ _ h => h.1, hx, k⟩

theorem OpsQ.calls {Q : Fr → Prop} {r : List SO} {d : Option Nat} {f : Nat} {args : Array Operand} {tys : Array TypeId} {g : Option (Nat × Bool)} {as : List LV} {x : LV} {R : LV → Hp → Prop}
    (hc : LCalls P f as R) (hg : wantS g F = some true) (ha : args.toList.map (fun o => snap H 3 (evalO F o)) = as) (hR : ∀ y G, R y G → y = x) (hx : rigid x = true)
    (k : OpsQ P N r Q (lput d x F) H) : OpsQ P N (⟨d, .call ⟨.value (.func f), args, tys⟩, g⟩ :: r) Q F H := by
  refine .step hg ?_
  show ∃ x, quietK P f (args.toList.map (evalO F) ++ []) H x ∧ _
  rw [List.append_nil]
  refine ⟨x, ⟨hx, .inr ?_⟩, k⟩
  rw [List.map_map]
  have ha' : args.toList.map (snap H 3 ∘ evalO F) = as := ha
  rw [ha']
  exact hc.mono hR
end
end Go.Lite

/- Lite, part T: the way from a contract to a law. -/
namespace Go.Lite
open Go Go.RowKit Go.ChangeShapes

section
variable {H : Type} {enc : TypeId × Value → H} {P : Program}

/-- Behind a call that leaves all that was there as it was. -/
theorem post_of_below {f : Func} {s : ChangeSpec} {apart fresh handsOn again : Bool} {W W' : World} {args : Array Value} {v : Value} {ds gs : List (DataW H)} {before pa pv : List MemPlace}
    (hb : Below W.heap.size W W')
    (hW : DataW.Whole enc P f.params.toList s.vars apart W args.toList ds gs before)
    (hres : ∀ (b : Nat) (sp : Nat → Bool) (hd : Bool), DataW.TrodAll enc P W' b sp hd f.resultTypes.toList (v.resultList f.resultTypes.size) (s.fn H (ds ++ gs)).results [])
    (hargs : ∀ sp : Nat → Bool, (∀ p ∈ before, sp p.block = true) → DataW.TrodAll enc P W' 0 sp true f.params.toList args.toList (s.fn H (ds ++ gs)).args pa)
    (hvars : ∀ sp : Nat → Bool, (∀ p ∈ before, sp p.block = true) → DataW.TrodVars enc P W' sp s.vars (s.fn H (ds ++ gs)).vars pv)
    (hps : before = pa ++ pv)
    (hok : ∀ (j : Nat) (t : TypeId) (r : Value), f.resultTypes[j]? = some t → (v.resultList f.resultTypes.size)[j]? = some r → Value.okWide P W' .any 0 t r) :
    s.post enc P f apart fresh handsOn again W args v W' := by
  have hlt : ∀ p ∈ before, p.block < W.heap.size := fun p hp => hW.lt p hp
  have inb : ∀ p ∈ before, (fun b => decide (b < W.heap.size)) p.block = true := fun p hp => by simpa using hlt p hp
  refine ⟨ds, gs, before, [], pa, pv, hW, hres _ _ _, hargs _ inb, hvars _ inb, World.keptBut_mono (fun p hp => ⟨hp, ?_⟩) (hb.frame _), fun _ => ?_⟩
  · rw [hps, List.mem_append] at hp
    exact .inr hp
  · have hz := hW
    obtain ⟨_, _, _, _, _, hz, hn⟩ := hz
    refine ⟨hok, _, _, ([] ++ pa) ++ pv, ⟨[] ++ pa, pv, trodAll_append (hargs _ (fun _ _ => rfl)) (hres _ _ _), hvars _ (fun _ _ => rfl), rfl, fun b off hp => ?_, fun ha => ?_⟩, fun p hp _ => ?_⟩
    · have hp' := hp
      rw [List.nil_append, ← hps] at hp'
      rw [hb.frozen (hlt _ hp')]
      exact hz b off hp'
    · have := hn ha
      rw [hps] at this
      simpa using this
    · rw [hps]
      simpa using hp
end

/-- A law's walk from its contract, for arguments that hold no own rows. -/
theorem LCalls.law {P : Program} {f : Nat} {args : List LV} (h : LCalls P f args fun x _ => x = .bool true) {w : World} {vs : List Value} (hv : VL w [] (fun _ => False) args vs) :
    Calls P f vs.toArray w fun e w' => e = .returned (.bool true) ∧ Below w.heap.size w w' :=
  (h.2 _ w vs hv (fun _ hb => hb.elim)).mono fun e w' ⟨v, res, H', ι', per', h1, h2, h3, _, h5, _⟩ => by
    subst h1; subst h2
    cases h5
    exact ⟨rfl, h3⟩

theorem lit_i64 {n : Int} (h : (Lit.int .i64 n).wf = true) : -9223372036854775808 ≤ n ∧ n ≤ 9223372036854775807 := by
  simp only [Lit.wf, Bool.and_eq_true, decide_eq_true_eq] at h
  exact h
theorem VL.nil' {w : World} {ι : Pl} {per : Nat → Prop} : VL w ι per [] [] := ⟨rfl, fun i hi => absurd hi (by simp)⟩
end Go.Lite
