/- Lite, part O: running code at closed arguments. -/
import Derived.Test.YthmjeeamomfifaaLiteS
import Derived.Test.YthmjeeamomfifaaLiteX
namespace Go.Lite
open Go Go.RowKit
set_option linter.unusedVariables false

inductive XE where
  | normal
  | exit (id : Nat)
  | ret

def XE.to : XE → Exit
  | .normal => .normal
  | .exit id => .exit id
  | .ret => .ret

def evStep (τ : TT) (call : Nat → List LV → Hp → Option (LV × Hp)) (o : Op) (F : Fr) (H : Hp) : Option (LV × Hp) :=
  match pureOp τ F o with
  | some x => some (x, H)
  | none => match loadOp τ F H o with
    | some x => some (x, H)
    | none => match o with
      | .call ⟨.value g, args, _⟩ => match evalO F g with
        | .fn f cap => call f (args.toList.map (evalO F) ++ cap) H
        | _ => none
      | o => effN τ F H o

def evOps (τ : TT) (call : Nat → List LV → Hp → Option (LV × Hp)) : List SO → Fr → Hp → Option (Fr × Hp)
  | [], F, H => some (F, H)
  | o :: r, F, H => match wantS o.g F with
    | some true => (match evStep τ call o.op F H with | some (x, H') => evOps τ call r (lput o.dst x F) H' | none => none)
    | some false => evOps τ call r (lput o.dst .und F) H
    | none => none

/-- One operation of a region that draws its order: what it does, how many rows it makes. -/
def evDA (τ : TT) (call : Nat → List LV → Hp → Option (LV × Hp)) (s : SO) (F : Fr) (H : Hp) : Option (DA × Nat) :=
  match wantS s.g F with
  | some true => (match valP τ F H s.op with
    | some x => some (⟨s.dst, x, [], guardSlot s.g ++ slotsOf s.op, valRows F s.op, []⟩, 0)
    | none => match s.op with
      | .call ⟨.value g, args, _⟩ => (match evalO F g with
        | .fn f cap => (match call f ((args.toList.map (evalO F) ++ cap).map (snap H 3)) [] with
          | some (x, _) => if rigid x then some (⟨s.dst, x, [], guardSlot s.g ++ slotsOf s.op, (args.toList.map (evalO F) ++ cap).flatMap (reach H 3), []⟩, 0) else none
          | none => none)
        | _ => none)
      | op => (match effOp τ F H H.length op with
        | some (x, ws) => some (⟨s.dst, x, ws, guardSlot s.g ++ slotsOf s.op, lookRows F s.op, if makes s.op then [H.length] else []⟩, if makes s.op then 1 else 0)
        | none => none))
  | some false => some (⟨s.dst, .und, [], guardSlot s.g, [], []⟩, 0)
  | none => none

def evDraw (τ : TT) (call : Nat → List LV → Hp → Option (LV × Hp)) : List SO → Fr → Hp → Option (List DA × Fr × Hp)
  | [], F, H => some ([], F, H)
  | s :: r, F, H => match evDA τ call s F H with
    | some (c, e) => if c.rs.all (Nat.blt · H.length) && c.keys.all (Nat.blt · (H.length + e)) then
        (match evDraw τ call r (lput s.dst c.x F) (applyWs (H ++ List.replicate e none) c.ws) with
        | some (cs, F', H') => some (c :: cs, F', H')
        | none => none) else none
    | none => none

/-- The slots of F, each once. -/
def rm (s : Nat) : Fr → Fr
  | [] => []
  | (t, v) :: r => cond (Nat.beq t s) (rm s r) ((t, v) :: rm s r)
def dd : Nat → Fr → Fr
  | 0, F => F
  | _, [] => []
  | n + 1, (t, v) :: r => (t, v) :: dd n (rm t r)

theorem fget_rm (s : Nat) (F : Fr) (t : Nat) : fget (rm s F) t = if s = t then .dead else fget F t := by
  induction F with
  | nil => simp [rm, fget]
  | cons p r ih =>
    obtain ⟨u, v⟩ := p
    simp only [rm]
    by_cases h : u = s
    · subst h
      simp only [Nat.beq_refl, cond_true, ih, fget_cons]
      split <;> simp_all
    · have : Nat.beq u s = false := by
        rw [← Bool.not_eq_true]; intro h2; exact h (Nat.eq_of_beq_eq_true h2)
      rw [this]
      simp only [cond_false, fget_cons, ih]
      by_cases h2 : u = t
      · subst h2
        rw [if_pos rfl, if_neg (fun e => h e.symm), if_pos rfl]
      · rw [if_neg h2, if_neg h2]

theorem fget_dd (n : Nat) : ∀ (F : Fr) (t : Nat), fget (dd n F) t = fget F t := by
  induction n with
  | zero => intro F t; simp [dd]
  | succ n ih =>
    intro F t
    cases F with
    | nil => simp [dd]
    | cons p r =>
      obtain ⟨s, v⟩ := p
      simp only [dd, fget_cons]
      split
      · rfl
      · rename_i h
        rw [ih, fget_rm, if_neg h]

def evS (τ : TT) (call : Nat → List LV → Hp → Option (LV × Hp)) : Nat → SC → Fr → Hp → Option (XE × Fr × Hp)
  | 0, _, _, _ => none
  | n + 1, s, F, H => match s with
    | .skip => some (.normal, F, H)
    | .reg ops => (match evOps τ call ops F H with | some (F, H) => some (.normal, F, H) | none => none)
    | .regd ops af => (match evDraw τ call ops F H with | some (cs, F, H) => if okB af cs then some (.normal, F, H) else none | none => none)
    | .seq a b => (match evS τ call n a F H with
      | some (.normal, F, H) => evS τ call n b F H
      | r => r)
    | .cond c a b => (match evalO F c with
      | .bool true => evS τ call n a F H
      | .bool false => evS τ call n b F H
      | _ => none)
    | .block id c => (match evS τ call n c F H with
      | some (.exit id', F, H) => if id' = id then some (.normal, F, H) else some (.exit id', F, H)
      | r => r)
    | .loop c => (match evS τ call n c F H with
      | some (.normal, F, H) => evS τ call n (.loop c) (dd 300 F) H
      | r => r)
    | .scope c => evS τ call n c F H
    | .exit id => some (.exit id, F, H)
    | .ret => some (.ret, F, H)

def find (tbl : List (Nat × SF)) (f : Nat) : Option SF :=
  match tbl with
  | [] => none
  | (g, s) :: r => cond (Nat.beq g f) (some s) (find r f)

def okT (P : Program) : List (Nat × SF) → Prop
  | [] => True
  | (f, s) :: r => slimF P f = some s ∧ okT P r

theorem find_ok {P : Program} : ∀ (tbl : List (Nat × SF)), okT P tbl → ∀ f sf, find tbl f = some sf → slimF P f = some sf := by
  intro tbl
  induction tbl with
  | nil => intro _ f sf h; cases h
  | cons p r ih =>
    obtain ⟨g, s⟩ := p
    intro hok f sf h
    simp only [find] at h
    cases hb : Nat.beq g f with
    | true =>
      rw [hb] at h
      have := Nat.eq_of_beq_eq_true hb
      subst this
      obtain rfl := Option.some.inj h
      exact hok.1
    | false => rw [hb] at h; exact ih hok.2 f sf h

/-- What a call has made and nobody knows any more is forgotten. -/
def cutH (m : Nat) (x : LV) (H : Hp) : Hp := if Nat.beq H.length m then H else if hlt m x && hltH m (H.take m) then H.take m else H

theorem LC.cutH {P : Program} {f : Nat} {args : List LV} {H H1 : Hp} {x : LV} (h : LC P f args H fun y G => y = x ∧ G = H1) : LC P f args H fun y G => y = x ∧ G = Lite.cutH H.length x H1 := by
  unfold Lite.cutH
  split
  · exact h
  · split
    · rename_i hc
      simp only [Bool.and_eq_true] at hc
      exact h.cut fun y G ⟨e1, e2⟩ => by subst e1; subst e2; exact ⟨hc.1, hc.2, rfl, rfl⟩
    · exact h

/-- A call at closed arguments. -/
def evF (τ : TT) (tbl : List (Nat × SF)) (n : Nat) : Nat → Nat → List LV → Hp → Option (LV × Hp)
  | 0, _, _, _ => none
  | d + 1, f, args, H => match find tbl f with
    | some sf => if args.length ≤ sf.n then
        (match evS τ (evF τ tbl n d) n sf.code (frameOf 0 args) H with
        | some (.exit _, _, _) => none
        | some (_, F, H1) => (match resS τ sf.rs F H1 with | some x => some (x, cutH H.length x H1) | none => none)
        | none => none) else none
    | none => none

section
variable {P : Program} {τ : TT} (hτ : τ = ttOf P) {N : Dim} {call : Nat → List LV → Hp → Option (LV × Hp)} (hm : P.follows .mixedOrders = true) (hcall : ∀ f args H0 x H, call f args H0 = some (x, H) → LC P f args H0 fun y G => y = x ∧ G = H)
include hτ hcall

theorem evStep_sound {o : Op} {F : Fr} {H H' : Hp} {x : LV} (h : evStep τ call o F H = some (x, H')) {K : LV → Fr → Hp → Prop} (hK : K x F H') : stepOp P o K F H := by
  subst hτ
  unfold evStep at h
  unfold stepOp
  split at h
  · rename_i y hy
    simp only [Option.some.injEq, Prod.mk.injEq] at h
    obtain ⟨rfl, rfl⟩ := h
    (try simp only [hy]); exact hK
  · rename_i hy
    try simp only [hy]
    split at h
    · rename_i z hz
      simp only [Option.some.injEq, Prod.mk.injEq] at h
      obtain ⟨rfl, rfl⟩ := h
      (try simp only [hz]); exact hK
    · rename_i hz
      (try simp only [hz])
      split at h
      · rename_i g args tys
        have he : effN (ttOf P) F H (.call ⟨.value g, args, tys⟩) = none := rfl
        (try simp only [he])
        split at h
        · rename_i f cap hg
          (try simp only [hg])
          exact .whole ((hcall _ _ _ _ _ h).mono fun y' G' ⟨e1, e2⟩ => by rw [e1, e2]; exact hK)
        · cases h
      · rw [h]
        exact hK

theorem evOps_sound : ∀ (l : List SO) (F F' : Fr) (H H' : Hp), evOps τ call l F H = some (F', H') → ∀ K : Fr → Hp → Prop, K F' H' → OpsW P N l K F H := by
  intro l
  induction l with
  | nil =>
    intro F F' H H' h K hK
    simp only [evOps, Option.some.injEq, Prod.mk.injEq] at h
    obtain ⟨rfl, rfl⟩ := h
    exact .nil hK
  | cons o r ih =>
    intro F F' H H' h K hK
    simp only [evOps] at h
    split at h
    · rename_i e
      split at h
      · rename_i x H1 h1
        exact .step e (evStep_sound hτ hcall h1 (ih _ _ _ _ h K hK))
      · cases h
    · rename_i e
      exact .skip e (ih _ _ _ _ h K hK)
    · cases h

theorem evDA_sound {s : SO} {F : Fr} {H : Hp} {c : DA} {e : Nat} (h : evDA τ call s F H = some (c, e)) : SFact P s F H c ∧ ∀ x ∈ c.nw, H.length ≤ x ∧ x < H.length + e := by
  subst hτ
  unfold evDA at h
  split at h
  · rename_i hw
    split at h
    · rename_i x hx
      simp only [Option.some.injEq, Prod.mk.injEq] at h
      obtain ⟨rfl, rfl⟩ := h
      exact ⟨.val hw hx, fun x hx => by simp at hx⟩
    · split at h
      · rename_i g args tys hop
        split at h
        · rename_i f cap hg
          split at h
          · rename_i x G hc
            split at h
            · rename_i hr
              simp only [Option.some.injEq, Prod.mk.injEq] at h
              obtain ⟨rfl, rfl⟩ := h
              exact ⟨.quiet hw hop hg (hcall _ _ _ _ _ hc) (fun y G' e => e.1) hr, fun x hx => by simp at hx⟩
            · cases h
          · cases h
        · cases h
      · split at h
        · rename_i x ws hx
          simp only [Option.some.injEq, Prod.mk.injEq] at h
          obtain ⟨rfl, rfl⟩ := h
          refine ⟨.eff hw hx, fun x hx => ?_⟩
          simp only at hx
          split at hx
          · rename_i hm
            rw [if_pos hm]
            simp only [List.mem_singleton] at hx
            omega
          · simp at hx
        · cases h
  · rename_i hw
    simp only [Option.some.injEq, Prod.mk.injEq] at h
    obtain ⟨rfl, rfl⟩ := h
    exact ⟨.skip hw, fun x hx => by simp at hx⟩
  · cases h

theorem evDraw_sound : ∀ (l : List SO) (F F' : Fr) (H H' : Hp) (cs : List DA), evDraw τ call l F H = some (cs, F', H') → Chain P l F H cs F' H' := by
  intro l
  induction l with
  | nil =>
    intro F F' H H' cs h
    simp only [evDraw, Option.some.injEq, Prod.mk.injEq] at h
    obtain ⟨rfl, rfl, rfl⟩ := h
    exact .nil
  | cons s r ih =>
    intro F F' H H' cs h
    simp only [evDraw] at h
    split at h
    · rename_i c e hc
      split at h
      · rename_i hb
        simp only [Bool.and_eq_true, List.all_eq_true] at hb
        split at h
        · rename_i cs' F1 H1 h1
          simp only [Option.some.injEq, Prod.mk.injEq] at h
          obtain ⟨rfl, rfl, rfl⟩ := h
          obtain ⟨k1, k2⟩ := evDA_sound hτ hcall hc
          exact .cons e k1 (fun x hx => by simpa using hb.1 x hx) (fun x hx => by simpa using hb.2 x hx) k2 (ih _ _ _ _ _ h1)
        · cases h
      · cases h
    · cases h

include hm in
theorem evS_sound : ∀ (n : Nat) (s : SC) (F F' : Fr) (H H' : Hp) (e : XE), evS τ call n s F H = some (e, F', H') → ∀ Q : LPost, Q e.to F' H' → Lw P N s Q F H := by
  intro n
  induction n using Nat.strongRecOn with
  | _ n0 ih0 =>
    intro s F F' H H' e h Q hQ
    cases n0 with
    | zero => cases h
    | succ n =>
    have ih := ih0 n (Nat.lt_succ_self n)
    cases s with
    | skip =>
      simp only [evS, Option.some.injEq, Prod.mk.injEq] at h
      obtain ⟨rfl, rfl, rfl⟩ := h
      exact .skip hQ
    | exit id =>
      simp only [evS, Option.some.injEq, Prod.mk.injEq] at h
      obtain ⟨rfl, rfl, rfl⟩ := h
      exact .exit hQ
    | ret =>
      simp only [evS, Option.some.injEq, Prod.mk.injEq] at h
      obtain ⟨rfl, rfl, rfl⟩ := h
      exact .ret hQ
    | reg ops =>
      simp only [evS] at h
      split at h
      · rename_i F1 H1 h1
        simp only [Option.some.injEq, Prod.mk.injEq] at h
        obtain ⟨rfl, rfl, rfl⟩ := h
        exact .ops (evOps_sound hτ hcall _ _ _ _ _ h1 _ hQ)
      · cases h
    | regd ops af =>
      simp only [evS] at h
      split at h
      · rename_i cs F1 H1 h1
        split at h
        · rename_i hok
          simp only [Option.some.injEq, Prod.mk.injEq] at h
          obtain ⟨rfl, rfl, rfl⟩ := h
          exact .regd hm (evDraw_sound hτ hcall _ _ _ _ _ _ h1) hok hQ
        · cases h
      · cases h
    | scope c =>
      simp only [evS] at h
      refine .scope (ih _ _ _ _ _ _ h _ ?_)
      cases e <;> exact hQ
    | seq a b =>
      simp only [evS] at h
      refine .seq ?_
      split at h
      · rename_i F1 H1 h1
        exact ih _ _ _ _ _ _ h1 _ (ih _ _ _ _ _ _ h _ hQ)
      · rename_i hne
        refine ih _ _ _ _ _ _ h _ ?_
        cases e with
        | normal => exact absurd h (hne F' H')
        | _ => exact hQ
    | cond c a b =>
      simp only [evS] at h
      split at h
      · rename_i hc
        exact .cond hc (fun _ => ih _ _ _ _ _ _ h _ hQ) (fun e => Bool.noConfusion e)
      · rename_i hc
        exact .cond hc (fun e => Bool.noConfusion e) (fun _ => ih _ _ _ _ _ _ h _ hQ)
      · cases h
    | block id c =>
      simp only [evS] at h
      refine .block ?_
      split at h
      · rename_i id' F1 H1 h1
        refine ih _ _ _ _ _ _ h1 _ ?_
        show blockQ id Q (.exit id') F1 H1
        simp only [blockQ]
        split at h
        · rename_i he
          simp only [Option.some.injEq, Prod.mk.injEq] at h
          obtain ⟨rfl, rfl, rfl⟩ := h
          rw [if_pos he]; exact hQ
        · rename_i he
          simp only [Option.some.injEq, Prod.mk.injEq] at h
          obtain ⟨rfl, rfl, rfl⟩ := h
          rw [if_neg he]; exact hQ
      · rename_i hne
        refine ih _ _ _ _ _ _ h _ ?_
        cases e with
        | exit id' => exact absurd h (hne id' F' H')
        | normal => exact hQ
        | ret => exact hQ
    | loop c =>
      refine .loop (α := Nat × Fr × Hp) (fun i => i.1 < n + 1 ∧ evS τ call (i.1 + 1) (.loop c) i.2.1 i.2.2 = some (e, F', H')) (·.1) (·.2.1) (·.2.2) ⟨(n, F, H), ⟨Nat.lt_succ_self n, h⟩, .refl _ _⟩ fun i hi => ?_
      obtain ⟨m, F1, H1⟩ := i
      obtain ⟨hmn, hev⟩ := hi
      have ihm := ih0 m hmn
      simp only [evS] at hev
      split at hev
      · rename_i F2 H2 h2
        refine ihm _ _ _ _ _ _ h2 _ ?_
        cases m with
        | zero => cases hev
        | succ m => exact ⟨(m, dd 300 F2, H2), ⟨by omega, hev⟩, Nat.lt_succ_self m, .frame fun t => .inl (fget_dd 300 F2 t)⟩
      · rename_i hne
        refine ihm _ _ _ _ _ _ hev _ ?_
        cases e with
        | normal => exact absurd hev (hne F' H')
        | exit id => exact hQ
        | ret => exact hQ

end

/-- A call at closed arguments comes to what the run says. -/
theorem evF_sound {P : Program} {τ : TT} (hτ : τ = ttOf P) (hm : P.follows .mixedOrders = true) {tbl : List (Nat × SF)} (ht : ∀ f sf, find tbl f = some sf → slimF P f = some sf) {n : Nat} : ∀ (d f : Nat) (args : List LV) (H0 : Hp) (x : LV) (H : Hp),
    evF τ tbl n d f args H0 = some (x, H) → LC P f args H0 fun y G => y = x ∧ G = H := by
  intro d
  induction d with
  | zero => intro f args H0 x H h; cases h
  | succ d ih =>
    intro f args H0 x H h
    simp only [evF] at h
    split at h
    · rename_i sf hsf
      split at h
      · rename_i ha
        split at h
        · cases h
        · rename_i e F1 H1 hne he
          split at h
          · rename_i y hy
            rw [hτ] at hy
            simp only [Option.some.injEq, Prod.mk.injEq] at h
            obtain ⟨rfl, rfl⟩ := h
            refine LC.cutH (lc (ht f sf hsf) ha (evS_sound hτ hm ih n sf.code _ _ _ _ e he _ ?_))
            have key : ocase (resS (ttOf P) sf.rs F1 H1) (fun z => z = y ∧ H1 = H1) := by rw [hy]; exact ⟨rfl, rfl⟩
            cases e with
            | normal => exact key
            | ret => exact key
            | exit id => exact absurd rfl (hne id)
          · cases h
        · cases h
      · cases h
    · cases h

end Go.Lite
