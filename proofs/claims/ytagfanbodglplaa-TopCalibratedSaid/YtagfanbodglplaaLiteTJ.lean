/- Lite, parts TI TJ. -/
import Derived.Test.YtagfanbodglplaaLiteTH
set_option linter.unusedVariables false
set_option linter.unusedSimpArgs false

/- Lite, part TI: code walked with typed values; contracts; calls; regions that draw their order. -/
namespace Go.Lite
open Go Go.RowKit
set_option linter.unusedVariables false

/-- What an equation of types and the registry of elements give. -/
structure Env (A : Nat → Type) (R : Reg A) (P : Program) (τ : TT) (fl : Nat → Bool) : Prop where
  ok : R.Ok
  τ : τ = ttOf P
  fl : ∀ e, fl e = true → ∀ a, psfreeL (R.encL e a) = true
  mixed : P.follows .mixedOrders = true

section
variable {A : Nat → Type} {R : Reg A} {P : Program} {N : Dim} {τ : TT} {fl : Nat → Bool}

abbrev TPost (A : Nat → Type) := Exit → TF A → TH A → Prop

def qEmb (R : Reg A) (Q : TPost A) : LPost := fun e F H => ∃ G X, Q e G X ∧ F = embF R G ∧ H = embH R X

/-- What is to be shown of a piece of code. -/
def Tw (R : Reg A) (P : Program) (N : Dim) (s : SC) (Q : TPost A) (F : TF A) (H : TH A) : Prop := Lw P N s (qEmb R Q) (embF R F) (embH R H)

/-- F', H' says no more than F, H. -/
def TWk (R : Reg A) (N : Dim) (F' : TF A) (H' : TH A) (F : TF A) (H : TH A) : Prop := Wk N (embF R F') (embH R H') (embF R F) (embH R H)

theorem TWk.canon (E : Env A R P τ fl) {σ : List (Option Nat)} {F F' : TF A} {H H' : TH A} {p : List Prop} (h : tcanon R N.m σ F' H' F H = some p) (hc : Conj p) : TWk R N F' H' F H := tcanon_ok R E.ok h hc

def tseqQ (K : TF A → TH A → Prop) (Q : TPost A) : TPost A
  | .normal, F, H => K F H
  | e, F, H => Q e F H
def tblockQ (id : Nat) (Q : TPost A) : TPost A
  | .exit id', F, H => cond (Nat.beq id' id) (Q .normal F H) (Q (.exit id') F H)
  | e, F, H => Q e F H
def tscopeQ (Q : TPost A) : TPost A
  | .goto _, _, _ => False
  | e, F, H => Q e F H

theorem Tw.mono {s : SC} {Q Q' : TPost A} {F : TF A} {H : TH A} (h : Tw R P N s Q F H) (hq : ∀ e F H, Q e F H → Q' e F H) : Tw R P N s Q' F H :=
  Lw.mono h fun e F H ⟨G, X, q, e1, e2⟩ => ⟨G, X, hq _ _ _ q, e1, e2⟩
theorem Tw.weaken {s : SC} {Q : TPost A} {F F' : TF A} {H H' : TH A} (hw : TWk R N F' H' F H) (h : Tw R P N s Q F' H') : Tw R P N s Q F H := Lw.weaken hw h
theorem TOps.weaken {l : List SO} {Q : TF A → TH A → Prop} {F F' : TF A} {H H' : TH A} (hw : TWk R N F' H' F H) (h : TOps R P N l Q F' H') : TOps R P N l Q F H := OpsW.weaken hw h

theorem Tw.skip {Q : TPost A} {F : TF A} {H : TH A} (h : Q .normal F H) : Tw R P N .skip Q F H := Lw.skip ⟨F, H, h, rfl, rfl⟩
theorem Tw.exit {id : Nat} {Q : TPost A} {F : TF A} {H : TH A} (h : Q (.exit id) F H) : Tw R P N (.exit id) Q F H := Lw.exit ⟨F, H, h, rfl, rfl⟩
theorem Tw.ret {Q : TPost A} {F : TF A} {H : TH A} (h : Q .ret F H) : Tw R P N .ret Q F H := Lw.ret ⟨F, H, h, rfl, rfl⟩

theorem Tw.seq {x y : SC} {Q : TPost A} {F : TF A} {H : TH A} (h : Tw R P N x (tseqQ (fun F H => Tw R P N y Q F H) Q) F H) : Tw R P N (.seq x y) Q F H := by
  refine Lw.seq (Lw.mono h fun e F H ⟨G, X, q, e1, e2⟩ => ?_)
  cases e with
  | normal => subst e1; subst e2; exact q
  | _ => exact ⟨G, X, q, e1, e2⟩

theorem Tw.block {id : Nat} {x : SC} {Q : TPost A} {F : TF A} {H : TH A} (h : Tw R P N x (tblockQ id Q) F H) : Tw R P N (.block id x) Q F H := by
  refine Lw.block (Lw.mono h fun e F H ⟨G, X, q, e1, e2⟩ => ?_)
  cases e with
  | exit id' =>
    simp only [tblockQ] at q
    simp only [blockQ]
    cases hb : Nat.beq id' id with
    | true => rw [hb] at q; rw [if_pos (Nat.eq_of_beq_eq_true hb)]; exact ⟨G, X, q, e1, e2⟩
    | false => rw [hb] at q; rw [if_neg (beq_ne hb)]; exact ⟨G, X, q, e1, e2⟩
  | _ => exact ⟨G, X, q, e1, e2⟩

theorem Tw.scope {x : SC} {Q : TPost A} {F : TF A} {H : TH A} (h : Tw R P N x (tscopeQ Q) F H) : Tw R P N (.scope x) Q F H := by
  refine Lw.scope (Lw.mono h fun e F H ⟨G, X, q, e1, e2⟩ => ?_)
  cases e <;> first | exact q.elim | exact ⟨G, X, q, e1, e2⟩

theorem Tw.cond {c : Operand} {x y : SC} {t : Bool} {Q : TPost A} {F : TF A} {H : TH A} (hc : tO F c = .bool t) (h1 : t = true → Tw R P N x Q F H) (h2 : t = false → Tw R P N y Q F H) : Tw R P N (.cond c x y) Q F H :=
  Lw.cond (by rw [evalO_emb R, hc]; rfl) h1 h2

theorem Tw.reg {l : List SO} {Q : TPost A} {F : TF A} {H : TH A} (h : TOps R P N l (fun F H => Q .normal F H) F H) : Tw R P N (.reg l) Q F H := Lw.ops h

/-- A piece, then what is known behind it, then the rest. -/
theorem Tw.cut {x y : SC} {Q : TPost A} {F : TF A} {H : TH A} {α : Sort _} (I : α → Prop) (Fi : α → TF A) (Hi : α → TH A) (h : Tw R P N x (tseqQ (fun F H => ∃ i, I i ∧ TWk R N (Fi i) (Hi i) F H) Q) F H)
    (k : ∀ i, I i → Tw R P N y Q (Fi i) (Hi i)) : Tw R P N (.seq x y) Q F H := by
  refine .seq (h.mono fun e F' H' hq => ?_)
  cases e with
  | normal =>
    obtain ⟨i, hi, hw⟩ := hq
    exact (k i hi).weaken hw
  | _ => exact hq

/-- A loop: at the head of each round the state is one of a family of states; each round that goes on lowers the number. -/
theorem Tw.loop {x : SC} {Q : TPost A} {F : TF A} {H : TH A} {α : Sort _} (I : α → Prop) (m : α → Nat) (Fi : α → TF A) (Hi : α → TH A) (h0 : ∃ i, I i ∧ TWk R N (Fi i) (Hi i) F H)
    (round : ∀ i, I i → Tw R P N x (tseqQ (fun F' H' => ∃ j, I j ∧ m j < m i ∧ TWk R N (Fi j) (Hi j) F' H') Q) (Fi i) (Hi i)) : Tw R P N (.loop x) Q F H := by
  refine Lw.loop I m (fun i => embF R (Fi i)) (fun i => embH R (Hi i)) h0 fun i hi => Lw.mono (round i hi) fun e F' H' ⟨G, X, q, e1, e2⟩ => ?_
  cases e with
  | normal =>
    subst e1; subst e2
    exact q
  | _ => exact ⟨G, X, q, e1, e2⟩

/-- The slots that are kept. -/
def keepF (F : TF A) : List Nat → TF A
  | [] => []
  | t :: r => (t, tget F t) :: keepF F r

/-- The same, the slots in kp as they are. -/
theorem Tw.loopK {x : SC} {Q : TPost A} {F : TF A} {H : TH A} {α : Sort _} (kp : List Nat) (I : α → Prop) (m : α → Nat) (G : α → TF A) (Hi : α → TH A) (h0 : ∃ i, I i ∧ TWk R N (G i ++ keepF F kp) (Hi i) F H)
    (round : ∀ i, I i → Tw R P N x (tseqQ (fun F' H' => ∃ j, I j ∧ m j < m i ∧ TWk R N (G j ++ keepF F kp) (Hi j) F' H') Q) (G i ++ keepF F kp) (Hi i)) : Tw R P N (.loop x) Q F H :=
  .loop I m _ Hi h0 round
theorem Tw.cutK {x y : SC} {Q : TPost A} {F : TF A} {H : TH A} {α : Sort _} (kp : List Nat) (I : α → Prop) (G : α → TF A) (Hi : α → TH A) (h : Tw R P N x (tseqQ (fun F' H' => ∃ i, I i ∧ TWk R N (G i ++ keepF F kp) (Hi i) F' H') Q) F H)
    (k : ∀ i, I i → Tw R P N y Q (G i ++ keepF F kp) (Hi i)) : Tw R P N (.seq x y) Q F H :=
  .cut I _ Hi h k

theorem TWk.freeze (E : Env A R P τ fl) {F : TF A} {H : TH A} (r : Nat) {e : Nat} {xs : List (A e)} (hm : Nat.ble N.m r = true) (hr : trow H r = some (.arr e xs)) {p q : List Prop} {F' : TF A} {H' : TH A} (hF : tfzF R r e xs F = (p, F')) (hH : tfzH R r e xs 0 H = (q, H'))
    (hcF : Conj p) (hcH : Conj q) : TWk R N F' H' F H := by
  have := tfreeze_ok R E.ok (F := F) (N := N) hm hr (by rw [hF]; exact hcF) (by rw [hH]; exact hcH)
  rw [hF, hH] at this
  exact this

/-! ### Contracts -/
def TC (R : Reg A) (P : Program) (f : Nat) (args : List (TV A)) (H : TH A) (Q : TV A → TH A → Prop) : Prop :=
  LC P f (embC R args) (embH R H) fun x G => ∃ v X, Q v X ∧ x = emb R v ∧ G = embH R X

theorem TC.mono {f : Nat} {args : List (TV A)} {H : TH A} {Q Q' : TV A → TH A → Prop} (h : TC R P f args H Q) (hq : ∀ v X, Q v X → Q' v X) : TC R P f args H Q' :=
  LC.mono h fun x G ⟨v, X, q, e⟩ => ⟨v, X, hq _ _ q, e⟩

def tframe : Nat → List (TV A) → TF A
  | _, [] => []
  | k, x :: r => (k, x) :: tframe (k + 1) r
theorem tframe_emb : ∀ (l : List (TV A)) (k : Nat), embF R (tframe k l) = frameOf k (embC R l) := by
  intro l
  induction l with
  | nil => intro k; rfl
  | cons x r ih => intro k; simp only [tframe, embF, embC, frameOf, ih]

def tresL (R : Reg A) (τ : TT) (F : TF A) (H : TH A) : List ResultVar → Option (List (TV A))
  | [] => some []
  | .tmp t :: r => (match tresL R τ F H r with | some l => some (tget F t :: l) | none => none)
  | .cell a t :: r => (match τ t, tget F a with
    | some ti, .ptr h o => (match trow H h with
      | some (.cells cs) => (match tpart ti.agg ti.size cs o, tresL R τ F H r with | some x, some l => some (x :: l) | _, _ => none)
      | _ => none)
    | _, _ => none)

theorem tresL_ok {F : TF A} {H : TH A} : ∀ (l : List ResultVar) (vs : List (TV A)), tresL R τ F H l = some vs → lresL τ (embF R F) (embH R H) l = some (embC R vs) := by
  intro l
  induction l with
  | nil => intro vs h; obtain rfl := Option.some.inj h; rfl
  | cons r l ih =>
    intro vs h
    cases r with
    | tmp t =>
      simp only [tresL] at h
      split at h
      · rename_i l' hl
        obtain rfl := Option.some.inj h
        simp only [lresL, ih _ hl, Option.map_some, embC, fget_embF]
      · cases h
    | cell a t =>
      simp only [tresL] at h
      split at h
      · rename_i ti k o h1 h2
        split at h
        · rename_i cs hr
          split at h
          · rename_i x l' hx hl
            obtain rfl := Option.some.inj h
            simp only [lresL, h1, fget_embF, h2, emb, row_emb R hr, embR, tpart_emb R hx, ih _ hl, embC]
          · cases h
        · cases h
      · cases h

/-- A function's value. -/
def tres (R : Reg A) (τ : TT) (rs : List ResultVar) (F : TF A) (H : TH A) : Option (TV A) :=
  match tresL R τ F H rs with
  | some [x] => some x
  | some l => some (.tup l)
  | none => none

theorem tres_ok {rs : List ResultVar} {F : TF A} {H : TH A} {v : TV A} (h : tres R τ rs F H = some v) : resS τ rs (embF R F) (embH R H) = some (emb R v) := by
  unfold tres at h
  unfold resS
  split at h
  · rename_i x hx
    obtain rfl := Option.some.inj h
    rw [tresL_ok _ _ hx]; rfl
  · rename_i l hne hl
    obtain rfl := Option.some.inj h
    rw [tresL_ok _ _ hl]
    cases l with
    | nil => rfl
    | cons a r =>
      cases r with
      | nil => exact absurd rfl (hne a)
      | cons b r => rfl
  · cases h

def tret (R : Reg A) (τ : TT) (rs : List ResultVar) (Q : TV A → TH A → Prop) : TPost A
  | .normal, F, H => ∃ v, tres R τ rs F H = some v ∧ Q v H
  | .ret, F, H => ∃ v, tres R τ rs F H = some v ∧ Q v H
  | _, _, _ => False

theorem tc (E : Env A R P τ fl) {f : Nat} {sf : SF} {args : List (TV A)} {H : TH A} {Q : TV A → TH A → Prop} (h : slimF P f = some sf) (ha : Nat.ble args.length sf.n = true)
    (hw : Tw R P ⟨sf.n, H.length, false, none⟩ sf.code (tret R τ sf.rs Q) (tframe 0 args) H) : TC R P f args H Q := by
  refine lc h (by rw [embC_length]; exact Nat.le_of_ble_eq_true ha) ?_
  rw [embH_length, ← tframe_emb]
  refine Lw.mono hw fun e F G ⟨F', G', q, e1, e2⟩ => ?_
  have key : (∃ v, tres R τ sf.rs F' G' = some v ∧ Q v G') → ocase (resS (ttOf P) sf.rs F G) fun x => ∃ v X, Q v X ∧ x = emb R v ∧ G = embH R X := by
    intro ⟨v, hv, hq⟩
    have := tres_ok hv
    rw [E.τ] at this
    subst e1; subst e2
    rw [this]
    exact ⟨v, G', hq, rfl, rfl⟩
  cases e with
  | normal => exact key q
  | ret => exact key q
  | _ => exact q

/-! ### Calls -/
def fv {β : Type} (v : TV A) (k : TV A → Option β) : Option β := match v with
  | .dead => k .dead
  | .und => k .und
  | .bool b => k (.bool b)
  | .int kd n => k (.int kd n)
  | .str s => k (.str s)
  | .nilp => k .nilp
  | .nils => k .nils
  | .nilf => k .nilf
  | .yld l => k (.yld l)
  | .ptr h o => k (.ptr h o)
  | .ptrE sz h i o => k (.ptrE sz h i o)
  | .pel cs => k (.pel cs)
  | .sl sz h o n => k (.sl sz h o n)
  | .sla sz h o n => k (.sla sz h o n)
  | .lst e xs => k (.lst e xs)
  | .fn f cs => k (.fn f cs)
  | .agg cs => k (.agg cs)
  | .tup cs => k (.tup cs)
  | .opt g w => k (.opt g w)
theorem fv_eq {β : Type} (v : TV A) (k : TV A → Option β) : fv v k = k v := by cases v <;> rfl

def vals {β : Type} (F : TF A) : List Operand → (List (TV A) → Option β) → Option β
  | [], k => k []
  | o :: r, k => fv (tO F o) fun v => vals F r fun vs => k (v :: vs)
theorem vals_eq {β : Type} (F : TF A) : ∀ (l : List Operand) (k : List (TV A) → Option β), vals F l k = k (l.map (tO F)) := by
  intro l
  induction l with
  | nil => intro k; rfl
  | cons o r ih => intro k; simp only [vals, fv_eq, ih, List.map_cons]

/-- The guard says yes. -/
def tgate (F : TF A) : Option (Nat × Bool) → Bool
  | none => true
  | some (t, want) => match tget F t with
    | .bool b => cond want b (!b)
    | .opt g (.bool b) => g && cond want b (!b)
    | _ => false
theorem tgate_ok {F : TF A} {g : Option (Nat × Bool)} (h : tgate F g = true) : wantS g (embF R F) = some true := by
  rcases g with _ | ⟨t, want⟩
  · rfl
  · simp only [tgate] at h
    simp only [wantS, fget_embF]
    split at h
    · rename_i b e; rw [e]; simp only [emb]; cases b <;> cases want <;> first | rfl | cases h
    · rename_i g0 b e; rw [e]; simp only [emb]; cases g0 <;> cases b <;> cases want <;> first | rfl | cases h
    · cases h

def tcallD (F : TF A) (s : SO) : Option (Nat × List (TV A)) :=
  match s.op with
  | .call ⟨.value g, args, _⟩ => (match tO F g with
    | .fn f cap => vals F args.toList fun as => (match cap with | [] => some (f, as) | c :: r => cond (undT c) none (some (f, as ++ c :: r)))
    | _ => none)
  | _ => none

theorem tcallD_ok {F : TF A} {s : SO} {f : Nat} {as : List (TV A)} (h : tcallD F s = some (f, as)) :
    ∃ g args tys cap, s.op = .call ⟨.value g, args, tys⟩ ∧ evalO (embF R F) g = .fn f cap ∧ isUnd cap = false ∧ args.toList.map (evalO (embF R F)) ++ cap = embC R as := by
  unfold tcallD at h
  split at h
  · rename_i g args tys hop
    split at h
    · rename_i f' cap hg
      rw [vals_eq] at h
      have hu : isUnd (embC R cap) = false ∧ some (f', args.toList.map (tO F) ++ cap) = some (f, as) := by
        cases cap with
        | nil => exact ⟨rfl, by rw [← h]; simp⟩
        | cons c r =>
          dsimp only at h
          cases hc : undT c with
          | true => rw [hc] at h; cases h
          | false => rw [hc] at h; exact ⟨undT_emb hc, h⟩
      obtain ⟨hu, this⟩ := hu
      simp only [Option.some.injEq, Prod.mk.injEq] at this
      obtain ⟨rfl, rfl⟩ := this
      exact ⟨g, args, tys, embC R cap, hop, by rw [evalO_emb, hg]; rfl, hu, by rw [embL_eq, embC_append]⟩
    · cases h
  · cases h

/-- .. where a function value may have its first arguments. -/
def tcall (F : TF A) (s : SO) : Option (Nat × List (TV A)) :=
  match s.op with
  | .call ⟨.value g, args, _⟩ => (match tO F g with
    | .fn f cap => vals F args.toList fun as => (match cap with | [] => some (f, as) | .und :: r => some (f, r ++ as) | c :: r => cond (undT c) none (some (f, as ++ c :: r)))
    | _ => none)
  | _ => none
theorem tcall_ok {F : TF A} {s : SO} {f : Nat} {as : List (TV A)} (h : tcall F s = some (f, as)) :
    ∃ g args tys cap, s.op = .call ⟨.value g, args, tys⟩ ∧ evalO (embF R F) g = .fn f cap ∧ callArgs cap (args.toList.map (evalO (embF R F))) = embC R as := by
  unfold tcall at h
  split at h
  · rename_i g args tys hop
    split at h
    · rename_i f' cap hg
      rw [vals_eq] at h
      cases cap with
      | nil =>
        simp only [Option.some.injEq, Prod.mk.injEq] at h
        obtain ⟨rfl, rfl⟩ := h
        exact ⟨g, args, tys, [], hop, by rw [evalO_emb, hg]; rfl, by rw [callArgs_off rfl, embL_eq, List.append_nil]⟩
      | cons c r =>
        by_cases hc0 : c = .und
        · subst hc0
          simp only [Option.some.injEq, Prod.mk.injEq] at h
          obtain ⟨rfl, rfl⟩ := h
          exact ⟨g, args, tys, embC R (.und :: r), hop, by rw [evalO_emb, hg]; rfl, by rw [callArgs_on rfl, embL_eq, embC_append]; rfl⟩
        · have h2 : cond (undT c) none (some (f', args.toList.map (tO F) ++ c :: r)) = some (f, as) := by
            cases c <;> first | exact h | exact absurd rfl hc0
          cases hc : undT c with
          | true => rw [hc] at h2; cases h2
          | false =>
            rw [hc] at h2
            simp only [cond_false, Option.some.injEq, Prod.mk.injEq] at h2
            obtain ⟨rfl, rfl⟩ := h2
            exact ⟨g, args, tys, embC R (c :: r), hop, by rw [evalO_emb, hg]; rfl, by rw [callArgs_off (undT_emb hc), embL_eq, embC_append]⟩
    · cases h
  · cases h

theorem TOps.callK {s : SO} {r : List SO} {Q : TF A → TH A → Prop} {F : TF A} {H : TH A} {f : Nat} {as : List (TV A)} (hg : tgate F s.g = true) (hs : tcall F s = some (f, as))
    (h : callK P f (embC R as) (embH R H) fun x G => ∃ v X, x = emb R v ∧ G = embH R X ∧ TOps R P N r Q (tlput s.dst v F) X) : TOps R P N (s :: r) Q F H := by
  obtain ⟨g, args, tys, cap, hop, hgv, ha⟩ := tcall_ok (R := R) hs
  refine OpsW.step (tgate_ok hg) ?_
  have h1 : pureOp (ttOf P) (embF R F) s.op = none := by rw [hop]; rfl
  have h2 : loadOp (ttOf P) (embF R F) (embH R H) s.op = none := by rw [hop]; rfl
  have h3 : effN (ttOf P) (embF R F) (embH R H) s.op = none := by rw [hop]; rfl
  unfold stepOp
  rw [h1, h2, h3]
  simp only [hop, hgv, ha]
  refine h.mono fun x G ⟨v, X, e1, e2, k⟩ => ?_
  subst e1; subst e2
  unfold TOps at k
  rw [tlput_emb] at k
  exact k

/-- A call whose arguments hold no rows. -/
theorem TOps.call (E : Env A R P τ fl) {s : SO} {r : List SO} {Q : TF A → TH A → Prop} {F : TF A} {H : TH A} {f : Nat} {as : List (TV A)} {Q' : TV A → TH A → Prop} (hg : tgate F s.g = true) (hs : tcall F s = some (f, as)) (hf : thfreeL as = true)
    (hc : TC R P f as [] Q') (k : ∀ v X, Q' v X → TOps R P N r Q (tlput s.dst (tren (H.length + ·) v) F) (H ++ trenH (H.length + ·) X)) : TOps R P N (s :: r) Q F H := by
  refine .callK hg hs (.bare (thfreeL_emb R _ hf) (LC.mono hc fun x G ⟨v, X, q, e1, e2⟩ => ?_))
  subst e1; subst e2
  exact ⟨_, _, by rw [tren_emb, embH_length], by rw [embH_append, trenH_emb R E.ok, embH_length], k v X q⟩

/-- A call that is shown the rows as plain values. -/
theorem TOps.callS (E : Env A R P τ fl) {s : SO} {r : List SO} {Q : TF A → TH A → Prop} {F : TF A} {H : TH A} {f : Nat} {as as0 : List (TV A)} {p : List Prop} {Q' : TV A → TH A → Prop} (hg : tgate F s.g = true) (hs : tcall F s = some (f, as))
    (ha : ((as.map (tsnap R H 3)).flatMap (·.1), (as.map (tsnap R H 3)).map (·.2)) = (p, as0)) (hp : Conj p) (hc : TC R P f as0 [] Q')
    (k : ∀ v X, Q' v X → tpfree v = true ∧ tpfreeH fl X = true ∧ TOps R P N r Q (tlput s.dst (tren (H.length + ·) v) F) (H ++ trenH (H.length + ·) X)) : TOps R P N (s :: r) Q F H := by
  obtain ⟨rfl, rfl⟩ := Prod.mk.inj ha
  refine .callK hg hs (.snap (LC.mono (LC.args ?_ ?_ hc) fun x G ⟨v, X, q, e1, e2⟩ => ?_))
  · simp [embC_length]
  · intro i h1 h2
    have hi : i < as.length := by rw [embC_length] at h1; simpa using h1
    have := tsnap_ok R E.ok H 3 as[i] (Conj.flat hp _ (List.mem_map.2 ⟨as[i], List.getElem_mem hi, rfl⟩))
    simpa [embC_eq] using this
  · subst e1; subst e2
    obtain ⟨k1, k2, k3⟩ := k v X q
    exact ⟨tpfree_emb R v k1, tpfreeH_emb R E.fl X k2, _, _, by rw [tren_emb, embH_length], by rw [embH_append, trenH_emb R E.ok, embH_length], k3⟩

def tsetRows : TH A → List Nat → TH A → TH A
  | H, [], _ => H
  | H, h :: r, x :: xs => tsetRows (H.set h x) r xs
  | H, h :: r, [] => tsetRows (H.set h none) r []
theorem tsetRows_emb : ∀ (ρ : List Nat) (H X : TH A), embH R (tsetRows H ρ X) = setRows (embH R H) ρ (embH R X) := by
  intro ρ
  induction ρ with
  | nil => intro H X; rfl
  | cons h r ih => intro H X; cases X <;> simp only [tsetRows, embH, setRows] <;> rw [ih, embH_set] <;> rfl

def nodupB : List Nat → Bool
  | [] => true
  | x :: r => !(r.contains x) && nodupB r
theorem nodupB_ok : ∀ {l : List Nat}, nodupB l = true → l.Nodup := by
  intro l
  induction l with
  | nil => intro _; exact List.nodup_nil
  | cons x r ih =>
    intro h
    simp only [nodupB, Bool.and_eq_true, Bool.not_eq_true'] at h
    exact List.nodup_cons.2 ⟨by simpa using h.1, ih h.2⟩

/-- Rows are handed over: number j of the callee's is number ρ j of the caller's. -/
theorem TOps.callH (E : Env A R P τ fl) {s : SO} {r : List SO} {Q : TF A → TH A → Prop} {F : TF A} {H : TH A} {f : Nat} {as : List (TV A)} {Q' : TV A → TH A → Prop} (ρ : List Nat) (as0 : List (TV A)) (H0 : TH A) (hg : tgate F s.g = true) (hs : tcall F s = some (f, as))
    (hn : nodupB ρ = true) (hlt : ρ.all (Nat.blt · H.length) = true) (hlen : H0.length = ρ.length) (ha : trenL (gOf ρ H.length) as0 = as)
    (hrows : ∀ (j h : Nat) (x : TRow A), ρ[j]? = some h → H0[j]? = some (some x) → H[h]? = some (trenR (gOf ρ H.length) (some x)))
    (hc : TC R P f as0 H0 Q') (k : ∀ v X, Q' v X → TOps R P N r Q (tlput s.dst (tren (gOf ρ H.length) v) F) (tsetRows H ρ (trenH (gOf ρ H.length) (X.take ρ.length)) ++ trenH (gOf ρ H.length) (X.drop ρ.length))) : TOps R P N (s :: r) Q F H := by
  subst ha
  refine .callK hg hs ?_
  rw [trenL_emb, renL_eq, ← embH_length R H]
  have hg2 : H.length = (embH R H).length := (embH_length R H).symm
  refine .hand ρ (nodupB_ok hn) (fun h hh => ?_) (by rw [embH_length]; exact hlen) (fun j h cs hj hcs => ?_) (LC.mono hc fun x G ⟨v, X, q, e1, e2⟩ => ?_)
  · have := List.all_eq_true.1 hlt h hh
    rw [embH_length]; simpa using this
  · rw [embH_get] at hcs ⊢
    cases hx : H0[j]? with
    | none => rw [hx] at hcs; cases hcs
    | some x =>
      rw [hx] at hcs
      cases x with
      | none => cases hcs
      | some x =>
        obtain rfl := Option.some.inj (Option.some.inj hcs)
        rw [hrows j h x hj hx, Option.map_some, trenR_emb R E.ok, embH_length]
        rfl
  · subst e1; subst e2
    refine ⟨_, _, by rw [tren_emb, embH_length], ?_, k v X q⟩
    have tk : ∀ (n : Nat) (X : TH A), embH R (X.take n) = (embH R X).take n := by
      intro n
      induction n with
      | zero => intro X; rfl
      | succ n ih => intro X; cases X with | nil => rfl | cons x X => simp [embH, ih]
    have dr : ∀ (n : Nat) (X : TH A), embH R (X.drop n) = (embH R X).drop n := by
      intro n
      induction n with
      | zero => intro X; rfl
      | succ n ih => intro X; cases X with | nil => rfl | cons x X => simp [embH, ih]
    rw [embH_append, tsetRows_emb, trenH_emb R E.ok, trenH_emb R E.ok, tk, dr, embH_length]

def tgateN (F : TF A) : Option (Nat × Bool) → Bool
  | none => false
  | some (t, want) => match tget F t with
    | .bool b => !(cond want b (!b))
    | .opt g (.bool b) => !(g && cond want b (!b))
    | .und => true
    | _ => false
theorem tgateN_ok {F : TF A} {g : Option (Nat × Bool)} (h : tgateN F g = true) : wantS g (embF R F) = some false := by
  rcases g with _ | ⟨t, want⟩
  · cases h
  · simp only [tgateN] at h
    simp only [wantS, fget_embF]
    split at h
    · rename_i b e; rw [e]; simp only [emb]; cases b <;> cases want <;> first | rfl | cases h
    · rename_i g0 b e; rw [e]; simp only [emb]; cases g0 <;> cases b <;> cases want <;> first | rfl | cases h
    · rename_i e; rw [e]; rfl
    · cases h

/-- An operation that does not come up. -/
theorem TOps.skip {s : SO} {r : List SO} {Q : TF A → TH A → Prop} {F : TF A} {H : TH A} (hg : tgateN F s.g = true) (k : TOps R P N r Q (tlput s.dst .und F) H) : TOps R P N (s :: r) Q F H := by
  refine OpsW.skip (tgateN_ok hg) ?_
  unfold TOps at k
  rw [tlput_emb] at k
  exact k

end
end Go.Lite

/- Lite, part TJ: regions that draw their order, on typed values. -/
namespace Go.Lite
open Go Go.RowKit
set_option linter.unusedVariables false

section
variable {P : Program} {F : Fr} {H : Hp} {s : SO}

theorem SFact.more {c c' : DA} (h : SFact P s F H c) (hd : c'.d = c.d) (hx : c'.x = c.x) (hw : c'.ws = c.ws) (hn : c'.nw = c.nw) (hl : ∀ t ∈ c.ls, t ∈ c'.ls) (hr : ∀ r ∈ c.rs, r ∈ c'.rs) : SFact P s F H c' := by
  obtain ⟨h1, h2⟩ := h
  refine ⟨by rw [hd, h1], fun ops o e1 e2 e3 cx N ι per G X a w hst hls hrs hnw K Q hK => ?_⟩
  refine h2 ops o e1 e2 e3 cx N ι per G X a w hst (fun t ht => hls t (hl t ht)) (fun r hr' => hrs r (hr r hr')) (by rw [← hn]; exact hnw) K Q ?_
  intro ι' per' v w' hs hv hi
  exact hK ι' per' v w' (by rw [hw]; exact hs) (by rw [hx]; exact hv) (by rw [hn]; exact hi)
end

section
variable {A : Nat → Type} (R : Reg A)

def rowsT : TV A → List Nat
  | .ptr h _ => [h]
  | .ptrE _ h _ _ => [h]
  | .sl _ h _ _ => [h]
  | .sla _ h _ _ => [h]
  | .opt _ v => rowsT v
  | _ => []

theorem rowsT_emb : ∀ (v : TV A), ∀ r ∈ rowsIn (emb R v), r ∈ rowsT v
  | .opt g v, r, h => by
    simp only [emb] at h
    cases g with
    | true => exact rowsT_emb v r h
    | false => simp [rowsIn] at h
  | .ptr _ _, r, h => h
  | .ptrE _ _ _ _, r, h => h
  | .sl _ _ _ _, r, h => h
  | .sla _ _ _ _, r, h => h
  | .dead, r, h => by simp [emb, rowsIn] at h
  | .und, r, h => by simp [emb, rowsIn] at h
  | .bool _, r, h => by simp [emb, rowsIn] at h
  | .int _ _, r, h => by simp [emb, rowsIn] at h
  | .str _, r, h => by simp [emb, rowsIn] at h
  | .nilp, r, h => by simp [emb, rowsIn] at h
  | .nils, r, h => by simp [emb, rowsIn] at h
  | .nilf, r, h => by simp [emb, rowsIn] at h
  | .yld _, r, h => by simp [emb, rowsIn] at h
  | .pel _, r, h => by simp [emb, rowsIn] at h
  | .lst _ _, r, h => by simp [emb, rowsIn] at h
  | .fn _ _, r, h => by simp [emb, rowsIn] at h
  | .agg _, r, h => by simp [emb, rowsIn] at h
  | .tup _, r, h => by simp [emb, rowsIn] at h

def isEff : Op → Bool
  | .store _ _ _ | .alloc _ | .box _ _ | .buildSlice _ _ _ | .makeSlice _ _ _ | .call ⟨.builtin .append, _, _⟩ | .call ⟨.builtin .copy, _, _⟩ | .call ⟨.builtin .clear, _, _⟩ => true
  | _ => false

def tslice (F : TF A) : Op → List Nat
  | .slice _ x _ _ none => (match tO F x with | .sla _ _ _ _ => [] | .sl _ _ _ _ => [] | .lst _ _ => [] | .nils => [] | .str _ => [] | y => rowsT y)
  | _ => []
theorem tslice_emb (F : TF A) (op : Op) : ∀ r ∈ sliceRows (embF R F) op, r ∈ tslice F op := by
  intro r hr
  cases op with
  | slice t x lo hi mx =>
    cases mx with
    | some m => simp [sliceRows] at hr
    | none =>
      simp only [sliceRows, evalO_emb] at hr
      have key : r ∈ rowsIn (emb R (tO F x)) := by
        split at hr
        · rename_i h o e
          rw [e]; simpa [rowsIn] using hr
        · simp at hr
      have := rowsT_emb R _ r key
      simp only [tslice]
      split
      all_goals first | (rename_i e; rw [e] at hr; simp [emb] at hr; done) | exact this
  | _ => simp [sliceRows] at hr
/-- The rows that an operation looks at. -/
def tlook (F : TF A) (op : Op) : List Nat := cond (isLoad op || isEff op) ((op.operands.toList.map (tO F)).flatMap rowsT) (tslice F op)

theorem tlook_emb (F : TF A) (op : Op) (h : (isLoad op || isEff op) = true) : ∀ r ∈ lookRows (embF R F) op, r ∈ tlook F op := by
  intro r hr
  unfold tlook
  rw [h]
  simp only [lookRows, List.mem_flatMap, List.mem_map, cond_true] at hr ⊢
  obtain ⟨x, ⟨o, ho, rfl⟩, hx⟩ := hr
  rw [evalO_emb] at hx
  exact ⟨_, ⟨o, ho, rfl⟩, rowsT_emb R _ r hx⟩

/-- What an operation did. -/
def tcert (F : TF A) (H : TH A) (s : SO) (x : TV A) (ws : List (Nat × Option (TRow A))) : DA :=
  ⟨s.dst, emb R x, embW R ws, guardSlot s.g ++ slotsOf s.op, tlook F s.op, cond (Nat.beq ws.length 0) [] (cond (makes s.op) [H.length] [])⟩
def tnew (s : SO) (ws : List (Nat × Option (TRow A))) : Nat := cond (Nat.beq ws.length 0) 0 (cond (makes s.op) 1 0)

theorem eff_is {τ : TT} {F : Fr} {H : Hp} {n : Nat} {op : Op} {r : LV × List (Nat × Option (List LV))} (h : effOp τ F H n op = some r) : isEff op = true ∧ r.2.length ≠ 0 := by
  cases op with
  | call c =>
    obtain ⟨callee, args, tys⟩ := c
    cases callee with
    | builtin b =>
      cases b <;> first
        | cases h
        | (refine ⟨rfl, ?_⟩; simp only [effOp] at h; (repeat' split at h) <;> simp only [Option.some.injEq, reduceCtorEq] at h <;> subst h <;> simp)
    | _ => cases h
  | _ =>
    first
      | cases h
      | (refine ⟨rfl, ?_⟩; simp only [effOp] at h; (repeat' split at h) <;> simp only [Option.some.injEq, reduceCtorEq] at h <;> subst h <;> simp)

theorem embW_length (ws : List (Nat × Option (TRow A))) : (embW R ws).length = ws.length := by
  induction ws with
  | nil => rfl
  | cons p r ih => obtain ⟨h, x⟩ := p; simp [embW, ih]

theorem tcert_ok {P : Program} {s : SO} {F : TF A} {H : TH A} {x : TV A} {ws : List (Nat × Option (TRow A))} (h : OneOk R (ttOf P) s F H x ws) : SFact P s (embF R F) (embH R H) (tcert R F H s x ws) := by
  rcases h with ⟨rfl, ⟨hw, hv⟩ | ⟨hw, hv⟩⟩ | ⟨hw, hg, hv⟩
  · refine (SFact.val hw hv).more rfl rfl rfl rfl (fun t ht => ht) (fun r hr => ?_)
    simp only [valRows] at hr
    split at hr
    · rename_i hl
      exact tlook_emb R F s.op (by rw [hl]; rfl) r hr
    · rename_i hl
      have := tslice_emb R F s.op r hr
      cases hop : s.op <;> rw [hop] at this <;> first | (simp [tslice] at this; done) | skip
      show r ∈ tlook F s.op
      rw [hop]
      simpa [tlook, isLoad, isEff] using this
  · refine (SFact.skip hw).more rfl hv rfl rfl (fun t ht => ?_) (fun r hr => ?_)
    · simp only [tcert, List.mem_append]; exact .inl ht
    · simp at hr
  · obtain ⟨k1, k2⟩ := eff_is hv
    rw [embW_length] at k2
    rw [← embH_length R H] at hv
    refine (SFact.eff hw hv).more rfl rfl rfl ?_ (fun t ht => ht) (fun r hr => tlook_emb R F s.op (by rw [k1]; simp) r hr)
    simp only [tcert]
    have : Nat.beq ws.length 0 = false := by
      cases hb : Nat.beq ws.length 0 with
      | false => rfl
      | true => exact absurd (Nat.eq_of_beq_eq_true hb) k2
    rw [this, embH_length]
    cases makes s.op <;> simp

end

section
variable {A : Nat → Type} {R : Reg A} {P : Program} {N : Dim} {τ : TT} {fl : Nat → Bool}

/-- The rest of a region that draws its order: what it does, and what is to be shown behind it. -/
def TDr (R : Reg A) (P : Program) (l : List SO) (F : TF A) (H : TH A) (K : List DA → TF A → TH A → Prop) : Prop :=
  ∃ cs F' H', Chain P l (embF R F) (embH R H) cs (embF R F') (embH R H') ∧ K cs F' H'

theorem TDr.nil {F : TF A} {H : TH A} {K : List DA → TF A → TH A → Prop} (h : K [] F H) : TDr R P [] F H K := ⟨[], F, H, .nil, h⟩

theorem embH_nones (n : Nat) : embH R (List.replicate n none) = List.replicate n none := by
  induction n with
  | zero => rfl
  | succ n ih => simp [List.replicate_succ, embH, embO, ih]

theorem keys_embW : ∀ (ws : List (Nat × Option (TRow A))), (embW R ws).map (·.1) = ws.map (·.1) := by
  intro ws
  induction ws with
  | nil => rfl
  | cons p r ih => obtain ⟨h, x⟩ := p; simp [embW, ih]

theorem TDr.cons {s : SO} {r : List SO} {F : TF A} {H : TH A} {K : List DA → TF A → TH A → Prop} {x : TV A} {ws : List (Nat × Option (TRow A))} {c : DA} {e : Nat} (hf : SFact P s (embF R F) (embH R H) c) (hx : c.x = emb R x) (hws : c.ws = embW R ws)
    (hr : c.rs.all (Nat.blt · H.length) = true) (hk : (ws.map (·.1)).all (Nat.blt · (H.length + e)) = true) (hn : ∀ x ∈ c.nw, H.length ≤ x ∧ x < H.length + e)
    (k : TDr R P r (tlput s.dst x F) (tapply (H ++ List.replicate e none) ws) (fun cs => K (c :: cs))) : TDr R P (s :: r) F H K := by
  obtain ⟨cs, F', H', h1, h2⟩ := k
  refine ⟨c :: cs, F', H', .cons e hf (fun y hy => ?_) (fun y hy => ?_) (fun y hy => by rw [embH_length]; exact hn y hy) ?_, h2⟩
  · have := List.all_eq_true.1 hr y hy
    rw [embH_length]; simpa using this
  · unfold DA.keys at hy
    rw [hws, keys_embW] at hy
    have := List.all_eq_true.1 hk y hy
    rw [embH_length]; simpa using this
  · rw [tlput_emb, tapply_emb, embH_append, embH_nones] at h1
    rw [hx, hws]; exact h1

/-- The operations up to the first call. -/
def tdrun (R : Reg A) (τ : TT) : List SO → TF A → TH A → List Prop → List DA → Option (List Prop × List DA × List SO × TF A × TH A)
  | [], F, H, acc, cs => some (acc, cs, [], F, H)
  | s :: r, F, H, acc, cs => match tone R τ s F H with
    | some (p, x, ws) => cond ((tlook F s.op).all (Nat.blt · H.length) && (ws.map (·.1)).all (Nat.blt · (H.length + tnew s ws)))
        (tdrun R τ r (tlput s.dst x F) (tapply (H ++ List.replicate (tnew s ws) none) ws) (acc ++ p) (cs ++ [tcert R F H s x ws])) none
    | none => some (acc, cs, s :: r, F, H)

theorem tdrun_ok (E : Env A R P τ fl) : ∀ (l : List SO) (F F' : TF A) (H H' : TH A) (acc p : List Prop) (cs0 cs : List DA) (rest : List SO) (K : List DA → TF A → TH A → Prop), tdrun R τ l F H acc cs0 = some (p, cs, rest, F', H') → Conj p →
    TDr R P rest F' H' (fun c => K (cs ++ c)) → Conj acc ∧ TDr R P l F H (fun c => K (cs0 ++ c)) := by
  intro l
  induction l with
  | nil =>
    intro F F' H H' acc p cs0 cs rest K h hc k
    simp only [tdrun, Option.some.injEq, Prod.mk.injEq] at h
    obtain ⟨rfl, rfl, rfl, rfl, rfl⟩ := h
    exact ⟨hc, k⟩
  | cons s r ih =>
    intro F F' H H' acc p cs0 cs rest K h hc k
    simp only [tdrun] at h
    split at h
    · rename_i q x ws h1
      cases hb : (tlook F s.op).all (Nat.blt · H.length) && (ws.map (·.1)).all (Nat.blt · (H.length + tnew s ws)) with
      | false => rw [hb] at h; cases h
      | true =>
        rw [hb] at h
        simp only [cond_true] at h
        simp only [Bool.and_eq_true] at hb
        obtain ⟨c1, c2⟩ := ih _ _ _ _ _ _ _ _ _ K h hc k
        obtain ⟨c3, c4⟩ := Conj.app c1
        refine ⟨c3, .cons (x := x) (ws := ws) (e := tnew s ws) (c := tcert R F H s x ws) (tcert_ok R (by rw [← E.τ]; exact tone_ok R E.ok h1 c4)) rfl rfl hb.1 hb.2 (fun y hy => ?_) ?_⟩
        · simp only [tcert, tnew] at hy ⊢
          cases hb0 : Nat.beq ws.length 0 <;> rw [hb0] at hy <;> simp only [cond_true, cond_false] at hy ⊢
          · cases hm : makes s.op <;> rw [hm] at hy <;> simp only [cond_true, cond_false, List.mem_singleton, List.not_mem_nil] at hy ⊢
            omega
          · simp at hy
        · simpa only [List.append_assoc, List.singleton_append] using c2
    · simp only [Option.some.injEq, Prod.mk.injEq] at h
      obtain ⟨rfl, rfl, rfl, rfl, rfl⟩ := h
      exact ⟨hc, k⟩

theorem TDr.run (E : Env A R P τ fl) {l rest : List SO} {F F' : TF A} {H H' : TH A} {p : List Prop} {cs : List DA} {K : List DA → TF A → TH A → Prop} (h : tdrun R τ l F H [] [] = some (p, cs, rest, F', H')) (hc : Conj p)
    (k : TDr R P rest F' H' (fun c => K (cs ++ c))) : TDr R P l F H K := (tdrun_ok E l F F' H H' [] p [] cs rest K h hc k).2

/-- A region that draws its order. -/
theorem Tw.regd (E : Env A R P τ fl) {l : List SO} {af : List (List Nat)} {Q : TPost A} {F : TF A} {H : TH A} (h : TDr R P l F H (fun cs F' H' => okB af cs = true ∧ Q .normal F' H')) : Tw R P N (.regd l af) Q F H := by
  obtain ⟨cs, F', H', h1, h2, h3⟩ := h
  exact Lw.regd E.mixed h1 h2 ⟨F', H', h3, rfl, rfl⟩

def tolOps (l : List SO) : List (Nat × Nat) → Bool
  | [] => true
  | (i, k) :: r => (match l[i]?, l[k]? with
    | some ⟨_, .load _ _, _⟩, some ⟨_, .call _, _⟩ => true
    | _, _ => false) && tolOps l r

/-- A region that draws its order, where the loads i of the pairs (i, k) look at rows that the later calls k lay anew, with the same value there. -/
theorem Tw.regdT (E : Env A R P τ fl) (tol : List (Nat × Nat)) {l : List SO} {af : List (List Nat)} {Q : TPost A} {F : TF A} {H : TH A} (_ : tolOps l tol = true)
    (h : TDr R P l F H (fun cs F' H' => okTol tol af cs = true ∧ TolsOk τ l cs (embF R F) tol ∧ tol.all (fun p => (cs.getD p.1 default).rs.all (Nat.blt · H'.length)) = true ∧ Q .normal F' H')) : Tw R P N (.regd l af) Q F H := by
  obtain ⟨cs, F', H', h1, h2, h3, h4, h5⟩ := h
  refine Lw.regdT tol E.mixed h1 h2 (fun i k hik => ?_) ⟨F', H', h5, rfl, rfl⟩
  rw [E.τ] at h3
  obtain ⟨s, c, ck, r, Hk, t1, t2, t3, t4, t5, t6⟩ := (h3.of i k hik).fact
  refine ⟨s, c, ck, r, Hk, t1, t2, t3, t4, fun X hX hk => t5 X ?_ hk, t6⟩
  have a1 := List.all_eq_true.1 h4 (i, k) hik
  have a2 : cs.getD i default = c := by simp [List.getD_eq_getElem?_getD, t2]
  simp only [a2, t4, List.all_cons, List.all_nil, Bool.and_true] at a1
  rw [hX, embH_length]
  simpa using a1

/-! ### Calls there -/
mutual
def treachV (D : Nat → List Nat) : TV A → List Nat
  | .sla _ h _ _ => h :: D h
  | .sl _ h _ _ => h :: D h
  | .ptr h _ => h :: D h
  | .ptrE _ h _ _ => h :: D h
  | .agg cs => treachL D cs
  | .fn _ cs => treachL D cs
  | .opt _ w => treachV D w
  | .dead | .und | .bool _ | .int _ _ | .str _ | .nilp | .nils | .nilf | .yld _ | .pel _ | .lst _ _ | .tup _ => []
def treachL (D : Nat → List Nat) : List (TV A) → List Nat
  | [] => []
  | c :: r => treachV D c ++ treachL D r
end

/-- The rows that a reader reaches. -/
def treach (H : TH A) : Nat → TV A → List Nat
  | 0, v => treachV (fun _ => []) v
  | k + 1, v => treachV (fun h => match trow H h with
    | some (.cells cs) => cs.flatMap (treach H k)
    | _ => []) v

mutual
theorem treachV_ok (hR : R.Ok) (H : TH A) (k : Nat) (D : Nat → List Nat) (hD : ∀ h0 cs, trow H h0 = some (.cells cs) → ∀ c ∈ cs, ∀ j, j ≤ k → ∀ r ∈ reach (embH R H) j (emb R c), r ∈ D h0) : ∀ (v : TV A) (j : Nat), j ≤ k + 1 → ∀ r ∈ reach (embH R H) j (emb R v), r ∈ treachV D v
  | .sla sz h o n, j, hj, r, hr => by
    cases j with
    | zero => simp [reach] at hr
    | succ j => simp only [emb, reach] at hr; exact rows hR H k D hD h j (by omega) r hr
  | .sl sz h o n, j, hj, r, hr => by
    cases j with
    | zero => simp [reach] at hr
    | succ j => simp only [emb, reach] at hr; exact rows hR H k D hD h j (by omega) r hr
  | .agg cs, j, hj, r, hr => by
    cases j with
    | zero => simp [reach] at hr
    | succ j =>
      simp only [emb, reach] at hr
      split at hr
      · simp at hr
      · exact treachL_ok hR H k D hD cs j (by omega) r hr
  | .fn f cs, j, hj, r, hr => by
    cases j with
    | zero => simp [reach] at hr
    | succ j =>
      simp only [emb, reach] at hr
      split at hr
      · simp at hr
      · exact treachL_ok hR H k D hD cs j (by omega) r hr
  | .opt g w, j, hj, r, hr => by
    simp only [emb] at hr
    cases g with
    | false => cases j <;> simp [reach] at hr
    | true => exact treachV_ok hR H k D hD w j hj r hr
  | .dead, j, _, r, hr => by cases j <;> simp [emb, reach] at hr
  | .und, j, _, r, hr => by cases j <;> simp [emb, reach] at hr
  | .bool _, j, _, r, hr => by cases j <;> simp [emb, reach] at hr
  | .int _ _, j, _, r, hr => by cases j <;> simp [emb, reach] at hr
  | .str _, j, _, r, hr => by cases j <;> simp [emb, reach] at hr
  | .nilp, j, _, r, hr => by cases j <;> simp [emb, reach] at hr
  | .nils, j, _, r, hr => by cases j <;> simp [emb, reach] at hr
  | .nilf, j, _, r, hr => by cases j <;> simp [emb, reach] at hr
  | .yld _, j, _, r, hr => by cases j <;> simp [emb, reach] at hr
  | .pel _, j, _, r, hr => by cases j <;> simp [emb, reach] at hr
  | .lst _ _, j, _, r, hr => by cases j <;> simp [emb, reach] at hr
  | .ptr h o, j, hj, r, hr => by
    cases j with
    | zero => simp [reach] at hr
    | succ j => simp only [emb, reach] at hr; exact rows hR H k D hD h j (by omega) r hr
  | .ptrE sz h i o, j, hj, r, hr => by
    cases j with
    | zero => simp [reach] at hr
    | succ j => simp only [emb, reach] at hr; exact rows hR H k D hD h j (by omega) r hr
  | .tup _, j, _, r, hr => by cases j <;> simp [emb, reach] at hr
theorem treachL_ok (hR : R.Ok) (H : TH A) (k : Nat) (D : Nat → List Nat) (hD : ∀ h0 cs, trow H h0 = some (.cells cs) → ∀ c ∈ cs, ∀ j, j ≤ k → ∀ r ∈ reach (embH R H) j (emb R c), r ∈ D h0) : ∀ (cs : List (TV A)) (j : Nat), j ≤ k + 1 → ∀ r ∈ (embC R cs).flatMap (reach (embH R H) j), r ∈ treachL D cs
  | [], j, _, r, hr => by simp [embC] at hr
  | c :: cs, j, hj, r, hr => by
    simp only [embC, List.flatMap_cons, List.mem_append] at hr
    simp only [treachL, List.mem_append]
    exact hr.imp (treachV_ok hR H k D hD c j hj r) (treachL_ok hR H k D hD cs j hj r)
theorem rows (hR : R.Ok) (H : TH A) (k : Nat) (D : Nat → List Nat) (hD : ∀ h0 cs, trow H h0 = some (.cells cs) → ∀ c ∈ cs, ∀ j, j ≤ k → ∀ r ∈ reach (embH R H) j (emb R c), r ∈ D h0) (h0 j : Nat) (hj : j ≤ k) (r : Nat)
    (h : r ∈ (h0 :: (match row (embH R H) h0 with | some cs => if hfreeL cs then [] else cs.flatMap (reach (embH R H) j) | none => []))) : r ∈ h0 :: D h0 := by
  rcases List.mem_cons.1 h with h | h
  · exact List.mem_cons.2 (.inl h)
  · refine List.mem_cons.2 (.inr ?_)
    cases ht : trow H h0 with
    | none =>
      have : row (embH R H) h0 = none := by
        unfold trow at ht
        rw [nth_eq] at ht
        unfold row
        rw [embH_get]
        cases hx : H[h0]? with
        | none => rfl
        | some y => cases y with | none => rfl | some z => rw [hx] at ht; cases ht
      rw [this] at h
      simp at h
    | some y =>
      rw [row_emb R ht] at h
      simp only at h
      split at h
      · simp at h
      · rename_i hf
        cases y with
        | arr e xs => exact absurd (hfreeL_flat (hR.free e) xs) hf
        | cells cs =>
          simp only [embR, embC_eq, List.flatMap_map] at h
          obtain ⟨x, hx, hr⟩ := List.mem_flatMap.1 h
          exact hD h0 cs ht x hx j hj r hr
end

theorem treach_ok (hR : R.Ok) (H : TH A) : ∀ (k : Nat) (v : TV A) (j : Nat), j ≤ k + 1 → ∀ r ∈ reach (embH R H) j (emb R v), r ∈ treach H k v := by
  intro k
  induction k with
  | zero =>
    intro v j hj r hr
    refine treachV_ok hR H 0 _ (fun h0 cs _ c _ j hj r hr => ?_) v j hj r hr
    have : j = 0 := by omega
    subst this; simp [reach] at hr
  | succ k ih =>
    intro v j hj r hr
    refine treachV_ok hR H (k + 1) _ (fun h0 cs ht c hc j hj r hr => ?_) v j hj r hr
    simp only [ht]
    exact List.mem_flatMap.2 ⟨c, hc, ih c j hj r hr⟩

mutual
def trigid : TV A → Bool
  | .bool _ | .int _ _ | .str _ | .nilp | .nils | .nilf | .und => true
  | .tup cs => trigidL cs
  | .agg cs => trigidL cs
  | .opt _ v => trigid v
  | _ => false
def trigidL : List (TV A) → Bool
  | [] => true
  | c :: r => trigid c && trigidL r
end

mutual
theorem trigid_emb : ∀ (v : TV A), trigid v = true → rigid (emb R v) = true
  | .bool _, _ => rfl
  | .int _ _, _ => rfl
  | .str _, _ => rfl
  | .nilp, _ => rfl
  | .nils, _ => rfl
  | .nilf, _ => rfl
  | .und, _ => rfl
  | .tup cs, h => by simp only [trigid] at h; simp only [emb, rigid]; exact trigidL_emb cs h
  | .agg cs, h => by simp only [trigid] at h; simp only [emb, rigid]; exact trigidL_emb cs h
  | .opt g v, h => by
    simp only [trigid] at h
    simp only [emb]
    cases g
    · rfl
    · exact trigid_emb v h
  | .dead, h => by simp [trigid] at h
  | .pel _, h => by simp [trigid] at h
  | .lst _ _, h => by simp [trigid] at h
  | .ptr _ _, h => by simp [trigid] at h
  | .ptrE _ _ _ _, h => by simp [trigid] at h
  | .sl _ _ _ _, h => by simp [trigid] at h
  | .sla _ _ _ _, h => by simp [trigid] at h
  | .fn _ _, h => by simp [trigid] at h
theorem trigidL_emb : ∀ (cs : List (TV A)), trigidL cs = true → rigidL (embC R cs) = true
  | [], _ => rfl
  | c :: r, h => by
    simp only [trigidL, Bool.and_eq_true] at h
    simp only [embC, rigidL, Bool.and_eq_true]
    exact ⟨trigid_emb c h.1, trigidL_emb r h.2⟩
end

/-- A call of a function that only reads and whose value says all of itself. -/
theorem TDr.call (E : Env A R P τ fl) {s : SO} {r : List SO} {F : TF A} {H : TH A} {K : List DA → TF A → TH A → Prop} {f : Nat} {as as0 : List (TV A)} {p : List Prop} {v : TV A} {Q' : TV A → TH A → Prop} (hg : tgate F s.g = true) (hs : tcallD F s = some (f, as))
    (ha : ((as.map (tsnap R H 3)).flatMap (·.1), (as.map (tsnap R H 3)).map (·.2)) = (p, as0)) (hp : Conj p) (hc : TC R P f as0 [] Q') (hv : ∀ x X, Q' x X → x = v) (hr : trigid v = true)
    (hb : (as.flatMap (treach H 2)).all (Nat.blt · H.length) = true)
    (k : TDr R P r (tlput s.dst v F) H (fun cs => K (⟨s.dst, emb R v, [], guardSlot s.g ++ slotsOf s.op, as.flatMap (treach H 2), []⟩ :: cs))) : TDr R P (s :: r) F H K := by
  obtain ⟨rfl, rfl⟩ := Prod.mk.inj ha
  obtain ⟨g, args, tys, cap, hop, hgv, hu, hargs⟩ := tcallD_ok (R := R) hs
  have hc2 : LC P f ((args.toList.map (evalO (embF R F)) ++ cap).map (snap (embH R H) 3)) [] fun x G => x = emb R v := by
    rw [hargs]
    refine LC.mono (LC.args ?_ ?_ hc) fun x G ⟨y, X, q, e1, e2⟩ => by rw [e1, hv y X q]
    · simp [embC_length]
    · intro i h1 h2
      have hi : i < as.length := by rw [embC_length] at h1; simpa using h1
      have := tsnap_ok R E.ok H 3 as[i] (Conj.flat hp _ (List.mem_map.2 ⟨as[i], List.getElem_mem hi, rfl⟩))
      simpa [embC_eq] using this
  have hf := SFact.quiet (tgate_ok hg) hop hgv hu hc2 (fun y G e => e) (trigid_emb v hr)
  refine TDr.cons (x := v) (ws := []) (e := 0) (c := ⟨s.dst, emb R v, [], guardSlot s.g ++ slotsOf s.op, as.flatMap (treach H 2), []⟩) (hf.more rfl rfl rfl rfl (fun t ht => ht) (fun q hq => ?_)) rfl rfl hb rfl (fun x hx => by simp at hx) (by simpa [tapply] using k)
  rw [hargs] at hq
  simp only [embC_eq, List.flatMap_map] at hq
  obtain ⟨x, hx, hr'⟩ := List.mem_flatMap.1 hq
  exact List.mem_flatMap.2 ⟨x, hx, treach_ok E.ok H 2 x 3 (by omega) q hr'⟩

end
end Go.Lite

namespace Go.Lite
/-! ### Tables -/
def lookT {β : Type} (l : List (Nat × β)) (d : Nat → Option β) (t : Nat) : Option β :=
  match l with
  | [] => d t
  | (s, x) :: r => cond (Nat.beq s t) (some x) (lookT r d t)
def lookN (l : List (Nat × Nat)) (d : Nat → Nat) (t : Nat) : Nat :=
  match l with
  | [] => d t
  | (s, x) :: r => cond (Nat.beq s t) x (lookN r d t)
def okL {β : Type} (d : Nat → Option β) : List (Nat × β) → Prop
  | [] => True
  | (s, x) :: r => d s = some x ∧ okL d r
def okN (d : Nat → Nat) : List (Nat × Nat) → Prop
  | [] => True
  | (s, x) :: r => d s = x ∧ okN d r
theorem lookT_eq {β : Type} {d : Nat → Option β} : ∀ {l : List (Nat × β)}, okL d l → lookT l d = d
  | [], _ => rfl
  | (s, x) :: r, h => by
    funext t
    simp only [lookT]
    cases hb : Nat.beq s t with
    | true => rw [← Nat.eq_of_beq_eq_true hb, h.1]; rfl
    | false => simp only [cond_false]; rw [lookT_eq h.2]
theorem lookN_eq {d : Nat → Nat} : ∀ {l : List (Nat × Nat)}, okN d l → lookN l d = d
  | [], _ => rfl
  | (s, x) :: r, h => by
    funext t
    simp only [lookN]
    cases hb : Nat.beq s t with
    | true => rw [← Nat.eq_of_beq_eq_true hb, h.1]; rfl
    | false => simp only [cond_false]; rw [lookN_eq h.2]
end Go.Lite
