/- Lite, part N: how a piece of code is walked; contracts. -/
import Derived.Test.YthmjeeamomfifaaLiteM
namespace Go.Lite
open Go Go.RowKit
set_option linter.unusedVariables false

theorem fget_nil (t : Nat) : fget [] t = .dead := rfl

/-- There is a value, and what is asked holds of it. -/
def ocase {α : Type} (x : Option α) (K : α → Prop) : Prop :=
  match x with
  | some a => K a
  | none => False

theorem ocase_some {α : Type} (a : α) (K : α → Prop) : ocase (some a) K = K a := rfl
theorem ocase_none {α : Type} (K : α → Prop) : ocase (none : Option α) K = False := rfl
theorem ocase_ite {α : Type} (c : Prop) [Decidable c] (a : α) (K : α → Prop) : ocase (if c then some a else none) K = (c ∧ K a) := by
  by_cases h : c <;> simp [h, ocase]
theorem ocase_ite' {α : Type} (c : Prop) [Decidable c] (a : α) (K : α → Prop) : ocase (if c then none else some a) K = (¬ c ∧ K a) := by
  by_cases h : c <;> simp [h, ocase]

theorem ocase_congr {α : Type} {x y : Option α} {K : α → Prop} (h : x = y) : ocase x K = ocase y K := by rw [h]

section
variable {P : Program} {N : Dim} {Q Q' : LPost} {F : Fr} {H : Hp}

theorem Lw.mono {s : SC} (h : Lw P N s Q F H) (hq : ∀ e F H, Q e F H → Q' e F H) : Lw P N s Q' F H := fun c hc => (h c hc).mono hq

theorem Lw.weaken {s : SC} {F' : Fr} {H' : Hp} (hw : Wk N F' H' F H) (h : Lw P N s Q F' H') : Lw P N s Q F H :=
  fun c hc cx a w hs => h c hc cx a w (hw _ _ _ hs)

theorem slim_inv {N : Nat} {c : Code} {s : SC} (h : slim N c = some s) : match s with
    | .skip => c = .skip ∨ ∃ l, c = .label l
    | .reg l => ∃ id ops, c = .region id ops false ∧ dstsOk N ops.toList = true ∧ slimOps ops ops.toList = some l
    | .regd l af => ∃ id ops, c = .region id ops true ∧ dstsOk N ops.toList = true ∧ slimOps ops ops.toList = some l ∧ af = ops.toList.map waits
    | .seq a b => ∃ x y, c = .seq x y ∧ slim N x = some a ∧ slim N y = some b
    | .cond o a b => ∃ x y, c = .cond o x y ∧ slim N x = some a ∧ slim N y = some b
    | .block id a => ∃ x, c = .block id x ∧ slim N x = some a
    | .loop a => ∃ x, c = .loop x ∧ slim N x = some a
    | .scope a => ∃ x, c = .scope x ∧ slim N x = some a
    | .exit id => c = .exit id
    | .ret => c = .ret := by
  cases c with
  | skip => obtain rfl := Option.some.inj h; exact .inl rfl
  | label l => obtain rfl := Option.some.inj h; exact .inr ⟨l, rfl⟩
  | exit id => obtain rfl := Option.some.inj h; rfl
  | ret => obtain rfl := Option.some.inj h; rfl
  | region id ops draw =>
    cases draw with
    | false =>
      simp only [slim] at h
      split at h
      · rename_i hN
        obtain ⟨sl, hsl, rfl⟩ := Option.map_eq_some_iff.1 h
        exact ⟨id, ops, rfl, hN, hsl⟩
      · cases h
    | true =>
      simp only [slim] at h
      split at h
      · rename_i hN
        obtain ⟨sl, hsl, rfl⟩ := Option.map_eq_some_iff.1 h
        exact ⟨id, ops, rfl, hN, hsl, rfl⟩
      · cases h
  | seq a b =>
    simp only [slim] at h
    split at h
    · rename_i x y hx hy
      obtain rfl := Option.some.inj h
      exact ⟨a, b, rfl, hx, hy⟩
    · cases h
  | cond o a b =>
    simp only [slim] at h
    split at h
    · rename_i x y hx hy
      obtain rfl := Option.some.inj h
      exact ⟨a, b, rfl, hx, hy⟩
    · cases h
  | block id c =>
    obtain ⟨x, hx, rfl⟩ := Option.map_eq_some_iff.1 h
    exact ⟨c, rfl, hx⟩
  | loop c =>
    obtain ⟨x, hx, rfl⟩ := Option.map_eq_some_iff.1 h
    exact ⟨c, rfl, hx⟩
  | scope c =>
    obtain ⟨x, hx, rfl⟩ := Option.map_eq_some_iff.1 h
    exact ⟨c, rfl, hx⟩
  | _ => cases h

theorem Lw.skip (h : Q .normal F H) : Lw P N .skip Q F H := by
  intro c hc
  rcases slim_inv hc with rfl | ⟨l, rfl⟩
  · exact lwp_skip h
  · exact lwp_label h

theorem Lw.exit {id : Nat} (h : Q (.exit id) F H) : Lw P N (.exit id) Q F H := by
  intro c hc
  have e : c = .exit id := slim_inv hc
  subst e
  exact lwp_exit h

theorem Lw.ret (h : Q .ret F H) : Lw P N .ret Q F H := by
  intro c hc
  have e : c = .ret := slim_inv hc
  subst e
  exact lwp_ret h

theorem Lw.ops {l : List SO} (h : OpsW P N l (fun F H => Q .normal F H) F H) : Lw P N (.reg l) Q F H := by
  intro c hc
  obtain ⟨id, ops, rfl, hN, hs⟩ := slim_inv hc
  intro cx a w hst
  refine wp_mono (wp_region_list (h ops _ hs hN cx a w hst)) fun e a' w' ⟨he, F', H', hq, hst'⟩ => ?_
  subst he
  exact ⟨F', H', hq, hst'⟩

theorem Lw.scope {x : SC} (h : Lw P N x (fun e F H => match e with | .goto _ => False | e => Q e F H) F H) : Lw P N (.scope x) Q F H := by
  intro c hc
  obtain ⟨a, rfl, ha⟩ := slim_inv hc
  exact lwp_scope (h a ha)

theorem Lw.seq {x y : SC} (h : Lw P N x (seqQ (fun F H => Lw P N y Q F H) Q) F H) : Lw P N (.seq x y) Q F H := by
  intro c hc
  obtain ⟨a, b, rfl, ha, hb⟩ := slim_inv hc
  refine lwp_seq ((h a ha).mono fun e F' H' hq => ?_)
  cases e with
  | normal => exact hq b hb
  | _ => exact hq

/-- A piece, then what is known behind it, then the rest. -/
theorem Lw.cut {x y : SC} {α : Sort _} (I : α → Prop) (Fi : α → Fr) (Hi : α → Hp) (h : Lw P N x (seqQ (fun F H => ∃ i, I i ∧ Wk N (Fi i) (Hi i) F H) Q) F H)
    (k : ∀ i, I i → Lw P N y Q (Fi i) (Hi i)) : Lw P N (.seq x y) Q F H := by
  refine .seq (h.mono fun e F' H' hq => ?_)
  cases e with
  | normal =>
    obtain ⟨i, hi, hw⟩ := hq
    exact (k i hi).weaken hw
  | _ => exact hq

theorem Lw.cond {c : Operand} {x y : SC} {t : Bool} (hc : evalO F c = .bool t) (h1 : t = true → Lw P N x Q F H) (h2 : t = false → Lw P N y Q F H) : Lw P N (.cond c x y) Q F H := by
  intro c' hc'
  obtain ⟨a, b, rfl, ha, hb⟩ := slim_inv hc'
  exact lwp_cond hc (fun e => h1 e a ha) (fun e => h2 e b hb)

theorem Lw.block {id : Nat} {x : SC} (h : Lw P N x (blockQ id Q) F H) : Lw P N (.block id x) Q F H := by
  intro c hc
  obtain ⟨a, rfl, ha⟩ := slim_inv hc
  exact lwp_block (h a ha)

/-- A loop: at the head of each round the state is one of a family of states; each round that goes on lowers the number. -/
theorem Lw.loop {x : SC} {α : Sort _} (I : α → Prop) (m : α → Nat) (Fi : α → Fr) (Hi : α → Hp) (h0 : ∃ i, I i ∧ Wk N (Fi i) (Hi i) F H)
    (round : ∀ i, I i → Lw P N x (seqQ (fun F' H' => ∃ j, I j ∧ m j < m i ∧ Wk N (Fi j) (Hi j) F' H') Q) (Fi i) (Hi i)) : Lw P N (.loop x) Q F H := by
  obtain ⟨i0, hi0, hw0⟩ := h0
  intro c hc
  obtain ⟨a, rfl, ha⟩ := slim_inv hc
  refine lwp_loop (fun n F H => ∃ i, I i ∧ m i = n ∧ Wk N (Fi i) (Hi i) F H) ⟨i0, hi0, rfl, hw0⟩ fun n F H ⟨i, hi, hm, hw⟩ => ?_
  have := (round i hi).weaken hw
  refine (this a ha).mono fun e F' H' hq => ?_
  cases e with
  | normal =>
    obtain ⟨j, hj, hlt, hw'⟩ := hq
    exact ⟨m j, by omega, j, hj, rfl, hw'⟩
  | _ => exact hq

end

structure SF where
  n : Nat
  code : SC
  rs : List ResultVar

def slimF (P : Program) (f : Nat) : Option SF :=
  match P.funcs[f]? with
  | some fn => match fn.body with
    | some c => if fn.name == "runtime.NumGoroutine" then none else (slim fn.ntmps c).map fun s => ⟨fn.ntmps, s, fn.results.toList⟩
    | none => none
  | none => none

def resS (τ : TT) (rs : List ResultVar) (F : Fr) (H : Hp) : Option LV :=
  match lresL τ F H rs with
  | some [x] => some x
  | some l => some (.tup l)
  | none => none

/-- The way back. -/
def retS (P : Program) (rs : List ResultVar) (R : LV → Hp → Prop) : LPost
  | .normal, F, H => ocase (resS (ttOf P) rs F H) fun x => R x H
  | .ret, F, H => ocase (resS (ttOf P) rs F H) fun x => R x H
  | _, _, _ => False

/-- A contract, shown of the code in few words. -/
theorem lc {P : Program} {f : Nat} {sf : SF} {args : List LV} {H : Hp} {R : LV → Hp → Prop} (h : slimF P f = some sf) (ha : args.length ≤ sf.n)
    (hl : Lw P ⟨sf.n, H.length⟩ sf.code (retS P sf.rs R) (frameOf 0 args) H) : LC P f args H R := by
  unfold slimF at h
  split at h
  · rename_i fn hf
    split at h
    · rename_i c hb
      split at h
      · cases h
      · rename_i hname
        obtain ⟨s, hs, rfl⟩ := Option.map_eq_some_iff.1 h
        refine lcalls_of_lwp hf hb ?_ ?_
        · unfold callable
          simp only [hf, hb, Option.isNone_some, Bool.not_false, Bool.and_true]
          simpa using hname
        · have hN : args.length + (fn.ntmps - args.length) = fn.ntmps := by have : args.length ≤ fn.ntmps := ha; omega
          rw [hN]
          refine (hl c hs).mono fun e F H hq => ?_
          cases e with
          | normal =>
            simp only [retS] at hq
            unfold ocase at hq
            split at hq
            · rename_i x hx; exact ⟨x, hx, hq⟩
            · exact hq.elim
          | ret =>
            simp only [retS] at hq
            unfold ocase at hq
            split at hq
            · rename_i x hx; exact ⟨x, hx, hq⟩
            · exact hq.elim
          | _ => exact hq
    · cases h
  · cases h

end Go.Lite
