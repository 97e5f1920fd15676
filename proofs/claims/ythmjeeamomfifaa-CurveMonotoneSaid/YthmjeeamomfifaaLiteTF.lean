/- Lite, part TF: lists of operations on typed values, in the order of the text and in any order. -/
import Derived.Test.YthmjeeamomfifaaLiteTE
namespace Go.Lite
open Go Go.RowKit
set_option linter.unusedVariables false

section
variable {A : Nat → Type} (R : Reg A)

def tlput : Option Nat → TV A → TF A → TF A
  | none, _, F => F
  | some d, x, F => (d, x) :: F
theorem tlput_emb (d : Option Nat) (x : TV A) (F : TF A) : embF R (tlput d x F) = lput d (emb R x) (embF R F) := by cases d <;> rfl

def tapply (H : TH A) : List (Nat × Option (TRow A)) → TH A
  | [] => H
  | (h, r) :: ws => tapply (H.set h r) ws
theorem embH_set (H : TH A) (h : Nat) (r : Option (TRow A)) : embH R (H.set h r) = (embH R H).set h (embO R r) := by
  induction H generalizing h with
  | nil => rfl
  | cons x H ih => cases h <;> simp [embH, ih]
theorem tapply_emb : ∀ (ws : List (Nat × Option (TRow A))) (H : TH A), embH R (tapply H ws) = applyWs (embH R H) (embW R ws) := by
  intro ws
  induction ws with
  | nil => intro H; rfl
  | cons p r ih => intro H; obtain ⟨h, x⟩ := p; simp only [tapply, embW, applyWs]; rw [ih, embH_set]

def tmore (op : Op) (H : TH A) : TH A := cond (makes op) (H ++ [none]) H
theorem embH_append (H G : TH A) : embH R (H ++ G) = embH R H ++ embH R G := by
  induction H with
  | nil => rfl
  | cons r H ih => simp [embH, ih]
theorem tmore_emb (op : Op) (H : TH A) : embH R (tmore op H) = more op (embH R H) := by
  unfold tmore more
  cases makes op <;> simp [embH_append, embH, embO]

/-- The frame where values that are there under a condition are taken for what they are. -/
def strip (g : Bool) (F : TF A) : List Nat → List Prop × TF A
  | [] => ([], F)
  | t :: r => match tget F t with
    | .opt g' v => (match strip g F r with | (cs, F') => ((g = true → g' = true) :: cs, (t, v) :: F'))
    | _ => strip g F r

theorem strip_ok (g : Bool) (F : TF A) (hg : g = true) : ∀ (l : List Nat), Conj (strip g F l).1 → ∀ t, (t ∈ l → emb R (tget (strip g F l).2 t) = emb R (tget F t)) ∧ (t ∉ l → tget (strip g F l).2 t = tget F t) := by
  intro l
  induction l with
  | nil => intro _ t; exact ⟨fun h => by simp at h, fun _ => rfl⟩
  | cons s r ih =>
    intro hc t
    simp only [strip] at hc ⊢
    split at hc
    · rename_i g' v e
      generalize hs : strip g F r = q at *
      obtain ⟨cs, F'⟩ := q
      obtain ⟨c1, c2⟩ := hc
      obtain ⟨i1, i2⟩ := ih c2 t
      have hg' := c1 hg
      by_cases hst : Nat.beq s t = true
      · have := Nat.eq_of_beq_eq_true hst
        subst this
        refine ⟨fun _ => ?_, fun h => by simp at h⟩
        simp only [tget, hst, cond_true, e, emb, hg']
      · have hb : Nat.beq s t = false := by
          cases hb : Nat.beq s t with
          | false => rfl
          | true => exact absurd hb hst
        have hne : s ≠ t := fun e => by subst e; simp at hst
        simp only [tget, hb, cond_false]
        exact ⟨fun h => i1 ((List.mem_cons.1 h).resolve_left fun e => hne e.symm), fun h => i2 (by simp at h; exact h.2)⟩
    · rename_i hn
      obtain ⟨i1, i2⟩ := ih hc t
      refine ⟨fun h => ?_, fun h => i2 (by simp at h; exact h.2)⟩
      by_cases hr : t ∈ r
      · exact i1 hr
      · rw [i2 hr]

/-- The operands that must be there: of a choice the condition alone. -/
def slotsU : Op → List Nat
  | .pick (.tmp c) _ _ => [c]
  | .pick _ _ _ => []
  | op => slotsOf op

/-- One operation: what is asked, its value, the rows that it lays. -/
def tbase (τ : TT) (F : TF A) (H : TH A) (op : Op) : Option (List Prop × TV A × List (Nat × Option (TRow A))) :=
  match strip true F (slotsU op) with
  | (sc, F') => match tval R τ F' H op with
    | some (cs, v) => some (sc ++ cs, v, [])
    | none => match teff R τ F' H H.length op with
      | some (cs, v, ws) => some (sc ++ cs, v, ws)
      | none => none

def tguard (τ : TT) (g : Bool) (F : TF A) (H : TH A) (op : Op) : Option (List Prop × TV A × List (Nat × Option (TRow A))) :=
  match strip g F (slotsU op) with
  | (sc, F') => match tval R τ F' H op with
    | some (cs, v) => some (sc ++ cs.map (fun p => g = true → p), .opt g v, [])
    | none => none

def tone (τ : TT) (s : SO) (F : TF A) (H : TH A) : Option (List Prop × TV A × List (Nat × Option (TRow A))) :=
  match s.g with
  | none => tbase R τ F H s.op
  | some (t, want) => match tget F t with
    | .und => some ([], .und, [])
    | .bool b => tguard R τ (cond want b (!b)) F H s.op
    | .opt g0 (.bool b) => tguard R τ (g0 && cond want b (!b)) F H s.op
    | _ => none

theorem strip_slots (g : Bool) (F : TF A) (hg : g = true) {op : Op} (hc : Conj (strip g F (slotsU op)).1) : ∀ t ∈ slotsOf op, fget (embF R (strip g F (slotsU op)).2) t = fget (embF R F) t := by
  intro t ht
  rw [fget_embF, fget_embF]
  obtain ⟨h1, h2⟩ := strip_ok R g F hg _ hc t
  by_cases hm : t ∈ slotsU op
  · exact h1 hm
  · rw [h2 hm]

theorem Conj.imp {g : Prop} (hg : g) : ∀ {cs : List Prop}, Conj (cs.map (fun p => g → p)) → Conj cs
  | [], _ => trivial
  | _ :: _, h => ⟨h.1 hg, Conj.imp hg h.2⟩

/-- What one operation comes to. -/
def OneOk (τ : TT) (s : SO) (F : TF A) (H : TH A) (x : TV A) (ws : List (Nat × Option (TRow A))) : Prop :=
  (ws = [] ∧ ((wantS s.g (embF R F) = some true ∧ valP τ (embF R F) (embH R H) s.op = some (emb R x)) ∨ (wantS s.g (embF R F) = some false ∧ emb R x = .und))) ∨
  (wantS s.g (embF R F) = some true ∧ s.g = none ∧ effOp τ (embF R F) (embH R H) H.length s.op = some (emb R x, embW R ws))

theorem tone_ok (hR : R.Ok) {τ : TT} {s : SO} {F : TF A} {H : TH A} {cs : List Prop} {x : TV A} {ws : List (Nat × Option (TRow A))} (h : tone R τ s F H = some (cs, x, ws)) (hc : Conj cs) : OneOk R τ s F H x ws := by
  have gd : ∀ {g : Bool}, wantS s.g (embF R F) = some g → tguard R τ g F H s.op = some (cs, x, ws) → OneOk R τ s F H x ws := by
    intro g hw h
    unfold tguard at h
    generalize hs : strip g F (slotsU s.op) = q at h
    obtain ⟨sc, F'⟩ := q
    simp only at h
    split at h
    · rename_i cs' v hv
      simp only [Option.some.injEq, Prod.mk.injEq] at h
      obtain ⟨rfl, rfl, rfl⟩ := h
      obtain ⟨c1, c2⟩ := Conj.app hc
      refine .inl ⟨rfl, ?_⟩
      cases g with
      | false => exact .inr ⟨hw, rfl⟩
      | true =>
        refine .inl ⟨hw, ?_⟩
        have h1 := tval_ok hR hv (Conj.imp rfl c2)
        have h2 := strip_slots R true F rfl (op := s.op) (by rw [hs]; exact c1)
        rw [hs] at h2
        have h3 := valP_congr (τ := τ) (F := embF R F') (F' := embF R F) (H := embH R H) (H' := embH R H) (op := s.op) (fun t ht => (h2 t ht).symm) (fun _ _ => rfl)
        rw [h3, h1]; rfl
    · cases h
  unfold tone at h
  split at h
  · rename_i hg
    have hw : wantS s.g (embF R F) = some true := by rw [hg]; rfl
    unfold tbase at h
    generalize hs : strip true F (slotsU s.op) = q at h
    obtain ⟨sc, F'⟩ := q
    simp only at h
    split at h
    · rename_i cs' v hv
      simp only [Option.some.injEq, Prod.mk.injEq] at h
      obtain ⟨rfl, rfl, rfl⟩ := h
      obtain ⟨c1, c2⟩ := Conj.app hc
      have h2 := strip_slots R true F rfl (op := s.op) (by rw [hs]; exact c1)
      rw [hs] at h2
      have h3 := valP_congr (τ := τ) (F := embF R F') (F' := embF R F) (H := embH R H) (H' := embH R H) (op := s.op) (fun t ht => (h2 t ht).symm) (fun _ _ => rfl)
      exact .inl ⟨rfl, .inl ⟨hw, by rw [h3]; exact tval_ok hR hv c2⟩⟩
    · split at h
      · rename_i cs' v ws' hv
        simp only [Option.some.injEq, Prod.mk.injEq] at h
        obtain ⟨rfl, rfl, rfl⟩ := h
        obtain ⟨c1, c2⟩ := Conj.app hc
        have h2 := strip_slots R true F rfl (op := s.op) (by rw [hs]; exact c1)
        rw [hs] at h2
        have h3 := eff_congr (τ := τ) (F := embF R F') (F' := embF R F) (H := embH R H) (H' := embH R H) (n := H.length) (op := s.op) (evalO_congr fun t ht => (h2 t ht).symm) (fun _ _ => rfl)
        exact .inr ⟨hw, hg, by rw [h3]; exact teff_ok R hR hv c2⟩
      · cases h
  · rename_i t want hg
    split at h
    · rename_i e
      simp only [Option.some.injEq, Prod.mk.injEq] at h
      obtain ⟨_, rfl, rfl⟩ := h
      exact .inl ⟨rfl, .inr ⟨by rw [hg]; simp [wantS, fget_embF, e, emb], rfl⟩⟩
    · rename_i b e
      exact gd (by rw [hg]; simp only [wantS, fget_embF, e, emb]; cases b <;> cases want <;> rfl) h
    · rename_i g0 b e
      exact gd (by rw [hg]; simp only [wantS, fget_embF, e, emb]; cases g0 <;> cases b <;> cases want <;> rfl) h
    · cases h

end

/-! ### In the order of the text -/
section
variable {A : Nat → Type} {R : Reg A} {P : Program} {N : Dim}

/-- What is to be shown of a list of operations. -/
def TOps (R : Reg A) (P : Program) (N : Dim) (l : List SO) (Q : TF A → TH A → Prop) (F : TF A) (H : TH A) : Prop :=
  OpsW P N l (fun F' H' => ∃ G X, Q G X ∧ F' = embF R G ∧ H' = embH R X) (embF R F) (embH R H)

theorem TOps.nil {Q : TF A → TH A → Prop} {F : TF A} {H : TH A} (h : Q F H) : TOps R P N [] Q F H := OpsW.nil ⟨F, H, h, rfl, rfl⟩

theorem stepOp_val {op : Op} {F : Fr} {H : Hp} {x : LV} {K : LV → Fr → Hp → Prop} (h : valP (ttOf P) F H op = some x) (k : K x F H) : stepOp P op K F H := by
  unfold valP at h
  unfold stepOp
  split at h
  · rename_i y hy
    obtain rfl := Option.some.inj h
    rw [hy]; exact k
  · rename_i hy
    rw [hy, h]; exact k

theorem eff_kind {τ : TT} {F : Fr} {H H2 : Hp} {n : Nat} {op : Op} {r : LV × List (Nat × Option (List LV))} (h : effOp τ F H n op = some r) : pureOp τ F op = none ∧ loadOp τ F H2 op = none := by
  cases op with
  | alloc t => exact ⟨rfl, rfl⟩
  | box t x => exact ⟨rfl, rfl⟩
  | buildSlice t len ps => exact ⟨rfl, rfl⟩
  | makeSlice t l c => exact ⟨rfl, rfl⟩
  | store t x y => exact ⟨rfl, rfl⟩
  | call c =>
    obtain ⟨callee, args, tys⟩ := c
    cases callee with
    | builtin b => cases b <;> first | exact ⟨rfl, rfl⟩ | cases h
    | _ => cases h
  | _ => cases h

theorem stepOp_eff {op : Op} {F : Fr} {H : Hp} {x : LV} {ws : List (Nat × Option (List LV))} {K : LV → Fr → Hp → Prop} (h : effOp (ttOf P) F (more op H) H.length op = some (x, ws)) (k : K x F (applyWs (more op H) ws)) : stepOp P op K F H := by
  obtain ⟨h1, h2⟩ := eff_kind (H2 := H) h
  unfold stepOp
  rw [h1, h2]
  unfold effN
  rw [h]
  exact k

/-- The rows that are looked at are there: one more makes no difference. -/
theorem eff_more {τ : TT} {F : Fr} {H : Hp} {n : Nat} {op : Op} {r : LV × List (Nat × Option (List LV))} (h : effOp τ F H n op = some r) : effOp τ F (more op H) n op = some r := by
  unfold more
  split
  · rename_i hm
    have rowm : ∀ {k : Nat} {cs : List LV}, row H k = some cs → row (H ++ [none]) k = some cs := by
      intro k cs hk
      unfold row at *
      split at hk
      · rename_i c hc
        rw [List.getElem?_append_left (lt_row hc), hc]; exact hk
      · cases hk
    have srcm : ∀ {esz : Nat} {x : LV} {p : Nat × List LV}, srcCells H esz x = some p → srcCells (H ++ [none]) esz x = some p := by
      intro esz x p hp
      cases x with
      | sl sz k o m =>
        simp only [srcCells] at hp ⊢
        split at hp
        · rename_i e
          rw [if_pos e]
          split at hp
          · rename_i cs hcs; rw [rowm hcs]; exact hp
          · cases hp
        · cases hp
      | _ => exact hp
    cases op with
    | alloc t => exact h
    | box t x => exact h
    | buildSlice t len ps => exact h
    | makeSlice t l c => exact h
    | call c =>
      obtain ⟨callee, args, tys⟩ := c
      cases callee with
      | builtin b =>
        cases b with
        | append =>
          simp only [effOp] at h ⊢
          split at h
          · rename_i t u x y h1 h2 h3 h4
            split at h
            · rename_i esz eb ez _ _ _ ud _ _ _ g1 g2
              split at h
              · cases h
              · split at h
                · rename_i n' xs hs hx
                  rw [srcm hs, hx]; exact h
                · rename_i n' xs sz k o m hs hx
                  split at h
                  · rename_i cs hcs
                    rw [srcm hs, hx]
                    simp only [rowm hcs]
                    exact h
                  · cases h
                · cases h
            · cases h
          · cases h
        | _ => simp [makes] at hm
      | _ => simp [makes] at hm
    | _ => simp [makes] at hm
  · exact h

theorem TOps.one (hR : R.Ok) {τ : TT} (hτ : τ = ttOf P) {s : SO} {r : List SO} {Q : TF A → TH A → Prop} {F : TF A} {H : TH A} {cs : List Prop} {x : TV A} {ws : List (Nat × Option (TRow A))}
    (h : tone R τ s F H = some (cs, x, ws)) (hc : Conj cs) (k : TOps R P N r Q (tlput s.dst x F) (tapply (cond (Nat.beq ws.length 0) H (tmore s.op H)) ws)) : TOps R P N (s :: r) Q F H := by
  subst hτ
  unfold TOps at k ⊢
  rw [tlput_emb, tapply_emb] at k
  rcases tone_ok R hR h hc with ⟨rfl, ⟨hw, hv⟩ | ⟨hw, hv⟩⟩ | ⟨hw, hg, hv⟩
  · exact .step hw (stepOp_val hv k)
  · rw [hv] at k
    exact .skip hw k
  · refine .step hw (stepOp_eff (x := emb R x) (ws := embW R ws) (by rw [embH_length]; exact eff_more hv) ?_)
    cases hl : Nat.beq ws.length 0 with
    | false => rw [hl] at k; simp only [cond_false] at k; rw [tmore_emb] at k; exact k
    | true =>
      rw [hl] at k
      have : ws = [] := List.eq_nil_of_length_eq_zero (Nat.eq_of_beq_eq_true hl)
      subst this
      exfalso
      -- an operation that lays nothing is none of these
      cases hop : s.op <;> rw [hop] at hv
      all_goals first
        | (simp only [effOp] at hv; (repeat' split at hv) <;> simp [embW] at hv; done)
        | cases hv

/-- The operations up to the first that is not one of these. -/
def trun (R : Reg A) (τ : TT) : List SO → TF A → TH A → List Prop → List Prop × List SO × TF A × TH A
  | [], F, H, acc => (acc, [], F, H)
  | s :: r, F, H, acc => match tone R τ s F H with
    | some (cs, x, ws) => trun R τ r (tlput s.dst x F) (tapply (cond (Nat.beq ws.length 0) H (tmore s.op H)) ws) (acc ++ cs)
    | none => (acc, s :: r, F, H)

theorem trun_ok (hR : R.Ok) {τ : TT} (hτ : τ = ttOf P) {Q : TF A → TH A → Prop} : ∀ (l : List SO) (F F' : TF A) (H H' : TH A) (acc cs : List Prop) (rest : List SO), trun R τ l F H acc = (cs, rest, F', H') → Conj cs → TOps R P N rest Q F' H' → Conj acc ∧ TOps R P N l Q F H := by
  intro l
  induction l with
  | nil =>
    intro F F' H H' acc cs rest h hc k
    simp only [trun, Prod.mk.injEq] at h
    obtain ⟨rfl, rfl, rfl, rfl⟩ := h
    exact ⟨hc, k⟩
  | cons s r ih =>
    intro F F' H H' acc cs rest h hc k
    simp only [trun] at h
    split at h
    · rename_i c x ws h1
      obtain ⟨c1, c2⟩ := ih _ _ _ _ _ _ _ h hc k
      obtain ⟨c3, c4⟩ := Conj.app c1
      exact ⟨c3, .one hR hτ h1 c4 c2⟩
    · simp only [Prod.mk.injEq] at h
      obtain ⟨rfl, rfl, rfl, rfl⟩ := h
      exact ⟨hc, k⟩

theorem TOps.run (hR : R.Ok) {τ : TT} (hτ : τ = ttOf P) {Q : TF A → TH A → Prop} {l rest : List SO} {F F' : TF A} {H H' : TH A} {cs : List Prop} (h : trun R τ l F H [] = (cs, rest, F', H')) (hc : Conj cs) (k : TOps R P N rest Q F' H') : TOps R P N l Q F H :=
  (trun_ok hR hτ l F F' H H' [] cs rest h hc k).2

end
end Go.Lite
