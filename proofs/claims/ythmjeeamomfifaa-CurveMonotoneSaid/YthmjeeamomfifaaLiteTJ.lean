/- Lite, part TJ: regions that draw their order, on typed values. -/
import Derived.Test.YthmjeeamomfifaaLiteTI
namespace Go.Lite
open Go Go.RowKit
set_option linter.unusedVariables false

section
variable {P : Program} {F : Fr} {H : Hp} {s : SO}

theorem SFact.more {c c' : DA} (h : SFact P s F H c) (hd : c'.d = c.d) (hx : c'.x = c.x) (hw : c'.ws = c.ws) (hn : c'.nw = c.nw) (hl : ∀ t ∈ c.ls, t ∈ c'.ls) (hr : ∀ r ∈ c.rs, r ∈ c'.rs) : SFact P s F H c' := by
  obtain ⟨h1, h2⟩ := h
  refine ⟨by rw [hd, h1], fun ops o e1 e2 e3 cx N ι per G X a w hst hls hrs hnw K Q hK => ?_⟩
  refine h2 ops o e1 e2 e3 cx N ι per G X a w hst (fun t ht => hls t (hl t ht)) (fun r hr' => hrs r (hr r hr')) (by rw [← hn]; exact hnw) K Q ?_
  intro ι' per' v w' hs hv hi
  exact hK ι' per' v w' (by rw [hw]; exact hs) (by rw [hx]; exact hv) (by rw [hn]; exact hi)
end

section
variable {A : Nat → Type} (R : Reg A)

def rowsT : TV A → List Nat
  | .ptr h _ => [h]
  | .ptrE _ h _ _ => [h]
  | .sl _ h _ _ => [h]
  | .sla _ h _ _ => [h]
  | .opt _ v => rowsT v
  | _ => []

theorem rowsT_emb : ∀ (v : TV A), ∀ r ∈ rowsIn (emb R v), r ∈ rowsT v
  | .opt g v, r, h => by
    simp only [emb] at h
    cases g with
    | true => exact rowsT_emb v r h
    | false => simp [rowsIn] at h
  | .ptr _ _, r, h => h
  | .ptrE _ _ _ _, r, h => h
  | .sl _ _ _ _, r, h => h
  | .sla _ _ _ _, r, h => h
  | .dead, r, h => by simp [emb, rowsIn] at h
  | .und, r, h => by simp [emb, rowsIn] at h
  | .bool _, r, h => by simp [emb, rowsIn] at h
  | .int _ _, r, h => by simp [emb, rowsIn] at h
  | .str _, r, h => by simp [emb, rowsIn] at h
  | .nilp, r, h => by simp [emb, rowsIn] at h
  | .nils, r, h => by simp [emb, rowsIn] at h
  | .nilf, r, h => by simp [emb, rowsIn] at h
  | .pel _, r, h => by simp [emb, rowsIn] at h
  | .lst _ _, r, h => by simp [emb, rowsIn] at h
  | .fn _ _, r, h => by simp [emb, rowsIn] at h
  | .agg _, r, h => by simp [emb, rowsIn] at h
  | .tup _, r, h => by simp [emb, rowsIn] at h

def isEff : Op → Bool
  | .store _ _ _ | .alloc _ | .box _ _ | .buildSlice _ _ _ | .makeSlice _ _ _ | .call ⟨.builtin .append, _, _⟩ | .call ⟨.builtin .copy, _, _⟩ => true
  | _ => false

/-- The rows that an operation looks at. -/
def tlook (F : TF A) (op : Op) : List Nat := cond (isLoad op || isEff op) ((op.operands.toList.map (tO F)).flatMap rowsT) []

theorem tlook_emb (F : TF A) (op : Op) (h : (isLoad op || isEff op) = true) : ∀ r ∈ lookRows (embF R F) op, r ∈ tlook F op := by
  intro r hr
  unfold tlook
  rw [h]
  simp only [lookRows, List.mem_flatMap, List.mem_map, cond_true] at hr ⊢
  obtain ⟨x, ⟨o, ho, rfl⟩, hx⟩ := hr
  rw [evalO_emb] at hx
  exact ⟨_, ⟨o, ho, rfl⟩, rowsT_emb R _ r hx⟩

/-- What an operation did. -/
def tcert (F : TF A) (H : TH A) (s : SO) (x : TV A) (ws : List (Nat × Option (TRow A))) : DA :=
  ⟨s.dst, emb R x, embW R ws, guardSlot s.g ++ slotsOf s.op, tlook F s.op, cond (Nat.beq ws.length 0) [] (cond (makes s.op) [H.length] [])⟩
def tnew (s : SO) (ws : List (Nat × Option (TRow A))) : Nat := cond (Nat.beq ws.length 0) 0 (cond (makes s.op) 1 0)

theorem eff_is {τ : TT} {F : Fr} {H : Hp} {n : Nat} {op : Op} {r : LV × List (Nat × Option (List LV))} (h : effOp τ F H n op = some r) : isEff op = true ∧ r.2.length ≠ 0 := by
  cases op with
  | call c =>
    obtain ⟨callee, args, tys⟩ := c
    cases callee with
    | builtin b =>
      cases b <;> first
        | cases h
        | (refine ⟨rfl, ?_⟩; simp only [effOp] at h; (repeat' split at h) <;> simp only [Option.some.injEq, reduceCtorEq] at h <;> subst h <;> simp)
    | _ => cases h
  | _ =>
    first
      | cases h
      | (refine ⟨rfl, ?_⟩; simp only [effOp] at h; (repeat' split at h) <;> simp only [Option.some.injEq, reduceCtorEq] at h <;> subst h <;> simp)

theorem embW_length (ws : List (Nat × Option (TRow A))) : (embW R ws).length = ws.length := by
  induction ws with
  | nil => rfl
  | cons p r ih => obtain ⟨h, x⟩ := p; simp [embW, ih]

theorem tcert_ok {P : Program} {s : SO} {F : TF A} {H : TH A} {x : TV A} {ws : List (Nat × Option (TRow A))} (h : OneOk R (ttOf P) s F H x ws) : SFact P s (embF R F) (embH R H) (tcert R F H s x ws) := by
  rcases h with ⟨rfl, ⟨hw, hv⟩ | ⟨hw, hv⟩⟩ | ⟨hw, hg, hv⟩
  · refine (SFact.val hw hv).more rfl rfl rfl rfl (fun t ht => ht) (fun r hr => ?_)
    simp only [valRows] at hr
    split at hr
    · rename_i hl
      exact tlook_emb R F s.op (by rw [hl]; rfl) r hr
    · simp at hr
  · refine (SFact.skip hw).more rfl hv rfl rfl (fun t ht => ?_) (fun r hr => ?_)
    · simp only [tcert, List.mem_append]; exact .inl ht
    · simp at hr
  · obtain ⟨k1, k2⟩ := eff_is hv
    rw [embW_length] at k2
    rw [← embH_length R H] at hv
    refine (SFact.eff hw hv).more rfl rfl rfl ?_ (fun t ht => ht) (fun r hr => tlook_emb R F s.op (by rw [k1]; simp) r hr)
    simp only [tcert]
    have : Nat.beq ws.length 0 = false := by
      cases hb : Nat.beq ws.length 0 with
      | false => rfl
      | true => exact absurd (Nat.eq_of_beq_eq_true hb) k2
    rw [this, embH_length]
    cases makes s.op <;> simp

end

section
variable {A : Nat → Type} {R : Reg A} {P : Program} {N : Dim} {τ : TT} {fl : Nat → Bool}

/-- The rest of a region that draws its order: what it does, and what is to be shown behind it. -/
def TDr (R : Reg A) (P : Program) (l : List SO) (F : TF A) (H : TH A) (K : List DA → TF A → TH A → Prop) : Prop :=
  ∃ cs F' H', Chain P l (embF R F) (embH R H) cs (embF R F') (embH R H') ∧ K cs F' H'

theorem TDr.nil {F : TF A} {H : TH A} {K : List DA → TF A → TH A → Prop} (h : K [] F H) : TDr R P [] F H K := ⟨[], F, H, .nil, h⟩

theorem embH_nones (n : Nat) : embH R (List.replicate n none) = List.replicate n none := by
  induction n with
  | zero => rfl
  | succ n ih => simp [List.replicate_succ, embH, embO, ih]

theorem keys_embW : ∀ (ws : List (Nat × Option (TRow A))), (embW R ws).map (·.1) = ws.map (·.1) := by
  intro ws
  induction ws with
  | nil => rfl
  | cons p r ih => obtain ⟨h, x⟩ := p; simp [embW, ih]

theorem TDr.cons {s : SO} {r : List SO} {F : TF A} {H : TH A} {K : List DA → TF A → TH A → Prop} {x : TV A} {ws : List (Nat × Option (TRow A))} {c : DA} {e : Nat} (hf : SFact P s (embF R F) (embH R H) c) (hx : c.x = emb R x) (hws : c.ws = embW R ws)
    (hr : c.rs.all (Nat.blt · H.length) = true) (hk : (ws.map (·.1)).all (Nat.blt · (H.length + e)) = true) (hn : ∀ x ∈ c.nw, H.length ≤ x ∧ x < H.length + e)
    (k : TDr R P r (tlput s.dst x F) (tapply (H ++ List.replicate e none) ws) (fun cs => K (c :: cs))) : TDr R P (s :: r) F H K := by
  obtain ⟨cs, F', H', h1, h2⟩ := k
  refine ⟨c :: cs, F', H', .cons e hf (fun y hy => ?_) (fun y hy => ?_) (fun y hy => by rw [embH_length]; exact hn y hy) ?_, h2⟩
  · have := List.all_eq_true.1 hr y hy
    rw [embH_length]; simpa using this
  · unfold DA.keys at hy
    rw [hws, keys_embW] at hy
    have := List.all_eq_true.1 hk y hy
    rw [embH_length]; simpa using this
  · rw [tlput_emb, tapply_emb, embH_append, embH_nones] at h1
    rw [hx, hws]; exact h1

/-- The operations up to the first call. -/
def tdrun (R : Reg A) (τ : TT) : List SO → TF A → TH A → List Prop → List DA → Option (List Prop × List DA × List SO × TF A × TH A)
  | [], F, H, acc, cs => some (acc, cs, [], F, H)
  | s :: r, F, H, acc, cs => match tone R τ s F H with
    | some (p, x, ws) => cond ((tlook F s.op).all (Nat.blt · H.length) && (ws.map (·.1)).all (Nat.blt · (H.length + tnew s ws)))
        (tdrun R τ r (tlput s.dst x F) (tapply (H ++ List.replicate (tnew s ws) none) ws) (acc ++ p) (cs ++ [tcert R F H s x ws])) none
    | none => some (acc, cs, s :: r, F, H)

theorem tdrun_ok (E : Env A R P τ fl) : ∀ (l : List SO) (F F' : TF A) (H H' : TH A) (acc p : List Prop) (cs0 cs : List DA) (rest : List SO) (K : List DA → TF A → TH A → Prop), tdrun R τ l F H acc cs0 = some (p, cs, rest, F', H') → Conj p →
    TDr R P rest F' H' (fun c => K (cs ++ c)) → Conj acc ∧ TDr R P l F H (fun c => K (cs0 ++ c)) := by
  intro l
  induction l with
  | nil =>
    intro F F' H H' acc p cs0 cs rest K h hc k
    simp only [tdrun, Option.some.injEq, Prod.mk.injEq] at h
    obtain ⟨rfl, rfl, rfl, rfl, rfl⟩ := h
    exact ⟨hc, k⟩
  | cons s r ih =>
    intro F F' H H' acc p cs0 cs rest K h hc k
    simp only [tdrun] at h
    split at h
    · rename_i q x ws h1
      cases hb : (tlook F s.op).all (Nat.blt · H.length) && (ws.map (·.1)).all (Nat.blt · (H.length + tnew s ws)) with
      | false => rw [hb] at h; cases h
      | true =>
        rw [hb] at h
        simp only [cond_true] at h
        simp only [Bool.and_eq_true] at hb
        obtain ⟨c1, c2⟩ := ih _ _ _ _ _ _ _ _ _ K h hc k
        obtain ⟨c3, c4⟩ := Conj.app c1
        refine ⟨c3, .cons (x := x) (ws := ws) (e := tnew s ws) (c := tcert R F H s x ws) (tcert_ok R (by rw [← E.τ]; exact tone_ok R E.ok h1 c4)) rfl rfl hb.1 hb.2 (fun y hy => ?_) ?_⟩
        · simp only [tcert, tnew] at hy ⊢
          cases hb0 : Nat.beq ws.length 0 <;> rw [hb0] at hy <;> simp only [cond_true, cond_false] at hy ⊢
          · cases hm : makes s.op <;> rw [hm] at hy <;> simp only [cond_true, cond_false, List.mem_singleton, List.not_mem_nil] at hy ⊢
            omega
          · simp at hy
        · simpa only [List.append_assoc, List.singleton_append] using c2
    · simp only [Option.some.injEq, Prod.mk.injEq] at h
      obtain ⟨rfl, rfl, rfl, rfl, rfl⟩ := h
      exact ⟨hc, k⟩

theorem TDr.run (E : Env A R P τ fl) {l rest : List SO} {F F' : TF A} {H H' : TH A} {p : List Prop} {cs : List DA} {K : List DA → TF A → TH A → Prop} (h : tdrun R τ l F H [] [] = some (p, cs, rest, F', H')) (hc : Conj p)
    (k : TDr R P rest F' H' (fun c => K (cs ++ c))) : TDr R P l F H K := (tdrun_ok E l F F' H H' [] p [] cs rest K h hc k).2

/-- A region that draws its order. -/
theorem Tw.regd (E : Env A R P τ fl) {l : List SO} {af : List (List Nat)} {Q : TPost A} {F : TF A} {H : TH A} (h : TDr R P l F H (fun cs F' H' => okB af cs = true ∧ Q .normal F' H')) : Tw R P N (.regd l af) Q F H := by
  obtain ⟨cs, F', H', h1, h2, h3⟩ := h
  exact Lw.regd E.mixed h1 h2 ⟨F', H', h3, rfl, rfl⟩

/-! ### Calls there -/
mutual
def treachV (D : Nat → List Nat) : TV A → List Nat
  | .sla _ h _ _ => h :: D h
  | .sl _ h _ _ => h :: D h
  | .agg cs => treachL D cs
  | .fn _ cs => treachL D cs
  | .opt _ w => treachV D w
  | .dead | .und | .bool _ | .int _ _ | .str _ | .nilp | .nils | .nilf | .pel _ | .lst _ _ | .ptr _ _ | .ptrE _ _ _ _ | .tup _ => []
def treachL (D : Nat → List Nat) : List (TV A) → List Nat
  | [] => []
  | c :: r => treachV D c ++ treachL D r
end

/-- The rows that a reader reaches. -/
def treach (H : TH A) : Nat → TV A → List Nat
  | 0, v => treachV (fun _ => []) v
  | k + 1, v => treachV (fun h => match trow H h with
    | some (.cells cs) => cs.flatMap (treach H k)
    | _ => []) v

mutual
theorem treachV_ok (hR : R.Ok) (H : TH A) (k : Nat) (D : Nat → List Nat) (hD : ∀ h0 cs, trow H h0 = some (.cells cs) → ∀ c ∈ cs, ∀ j, j ≤ k → ∀ r ∈ reach (embH R H) j (emb R c), r ∈ D h0) : ∀ (v : TV A) (j : Nat), j ≤ k + 1 → ∀ r ∈ reach (embH R H) j (emb R v), r ∈ treachV D v
  | .sla sz h o n, j, hj, r, hr => by
    cases j with
    | zero => simp [reach] at hr
    | succ j => simp only [emb, reach] at hr; exact rows hR H k D hD h j (by omega) r hr
  | .sl sz h o n, j, hj, r, hr => by
    cases j with
    | zero => simp [reach] at hr
    | succ j => simp only [emb, reach] at hr; exact rows hR H k D hD h j (by omega) r hr
  | .agg cs, j, hj, r, hr => by
    cases j with
    | zero => simp [reach] at hr
    | succ j =>
      simp only [emb, reach] at hr
      split at hr
      · simp at hr
      · exact treachL_ok hR H k D hD cs j (by omega) r hr
  | .fn f cs, j, hj, r, hr => by
    cases j with
    | zero => simp [reach] at hr
    | succ j =>
      simp only [emb, reach] at hr
      split at hr
      · simp at hr
      · exact treachL_ok hR H k D hD cs j (by omega) r hr
  | .opt g w, j, hj, r, hr => by
    simp only [emb] at hr
    cases g with
    | false => cases j <;> simp [reach] at hr
    | true => exact treachV_ok hR H k D hD w j hj r hr
  | .dead, j, _, r, hr => by cases j <;> simp [emb, reach] at hr
  | .und, j, _, r, hr => by cases j <;> simp [emb, reach] at hr
  | .bool _, j, _, r, hr => by cases j <;> simp [emb, reach] at hr
  | .int _ _, j, _, r, hr => by cases j <;> simp [emb, reach] at hr
  | .str _, j, _, r, hr => by cases j <;> simp [emb, reach] at hr
  | .nilp, j, _, r, hr => by cases j <;> simp [emb, reach] at hr
  | .nils, j, _, r, hr => by cases j <;> simp [emb, reach] at hr
  | .nilf, j, _, r, hr => by cases j <;> simp [emb, reach] at hr
  | .pel _, j, _, r, hr => by cases j <;> simp [emb, reach] at hr
  | .lst _ _, j, _, r, hr => by cases j <;> simp [emb, reach] at hr
  | .ptr _ _, j, _, r, hr => by cases j <;> simp [emb, reach] at hr
  | .ptrE _ _ _ _, j, _, r, hr => by cases j <;> simp [emb, reach] at hr
  | .tup _, j, _, r, hr => by cases j <;> simp [emb, reach] at hr
theorem treachL_ok (hR : R.Ok) (H : TH A) (k : Nat) (D : Nat → List Nat) (hD : ∀ h0 cs, trow H h0 = some (.cells cs) → ∀ c ∈ cs, ∀ j, j ≤ k → ∀ r ∈ reach (embH R H) j (emb R c), r ∈ D h0) : ∀ (cs : List (TV A)) (j : Nat), j ≤ k + 1 → ∀ r ∈ (embC R cs).flatMap (reach (embH R H) j), r ∈ treachL D cs
  | [], j, _, r, hr => by simp [embC] at hr
  | c :: cs, j, hj, r, hr => by
    simp only [embC, List.flatMap_cons, List.mem_append] at hr
    simp only [treachL, List.mem_append]
    exact hr.imp (treachV_ok hR H k D hD c j hj r) (treachL_ok hR H k D hD cs j hj r)
theorem rows (hR : R.Ok) (H : TH A) (k : Nat) (D : Nat → List Nat) (hD : ∀ h0 cs, trow H h0 = some (.cells cs) → ∀ c ∈ cs, ∀ j, j ≤ k → ∀ r ∈ reach (embH R H) j (emb R c), r ∈ D h0) (h0 j : Nat) (hj : j ≤ k) (r : Nat)
    (h : r ∈ (h0 :: (match row (embH R H) h0 with | some cs => if hfreeL cs then [] else cs.flatMap (reach (embH R H) j) | none => []))) : r ∈ h0 :: D h0 := by
  rcases List.mem_cons.1 h with h | h
  · exact List.mem_cons.2 (.inl h)
  · refine List.mem_cons.2 (.inr ?_)
    cases ht : trow H h0 with
    | none =>
      have : row (embH R H) h0 = none := by
        unfold trow at ht
        rw [nth_eq] at ht
        unfold row
        rw [embH_get]
        cases hx : H[h0]? with
        | none => rfl
        | some y => cases y with | none => rfl | some z => rw [hx] at ht; cases ht
      rw [this] at h
      simp at h
    | some y =>
      rw [row_emb R ht] at h
      simp only at h
      split at h
      · simp at h
      · rename_i hf
        cases y with
        | arr e xs => exact absurd (hfreeL_flat (hR.free e) xs) hf
        | cells cs =>
          simp only [embR, embC_eq, List.flatMap_map] at h
          obtain ⟨x, hx, hr⟩ := List.mem_flatMap.1 h
          exact hD h0 cs ht x hx j hj r hr
end

theorem treach_ok (hR : R.Ok) (H : TH A) : ∀ (k : Nat) (v : TV A) (j : Nat), j ≤ k + 1 → ∀ r ∈ reach (embH R H) j (emb R v), r ∈ treach H k v := by
  intro k
  induction k with
  | zero =>
    intro v j hj r hr
    refine treachV_ok hR H 0 _ (fun h0 cs _ c _ j hj r hr => ?_) v j hj r hr
    have : j = 0 := by omega
    subst this; simp [reach] at hr
  | succ k ih =>
    intro v j hj r hr
    refine treachV_ok hR H (k + 1) _ (fun h0 cs ht c hc j hj r hr => ?_) v j hj r hr
    simp only [ht]
    exact List.mem_flatMap.2 ⟨c, hc, ih c j hj r hr⟩

mutual
def trigid : TV A → Bool
  | .bool _ | .int _ _ | .str _ | .nilp | .nils | .nilf | .und => true
  | .tup cs => trigidL cs
  | .agg cs => trigidL cs
  | .opt _ v => trigid v
  | _ => false
def trigidL : List (TV A) → Bool
  | [] => true
  | c :: r => trigid c && trigidL r
end

mutual
theorem trigid_emb : ∀ (v : TV A), trigid v = true → rigid (emb R v) = true
  | .bool _, _ => rfl
  | .int _ _, _ => rfl
  | .str _, _ => rfl
  | .nilp, _ => rfl
  | .nils, _ => rfl
  | .nilf, _ => rfl
  | .und, _ => rfl
  | .tup cs, h => by simp only [trigid] at h; simp only [emb, rigid]; exact trigidL_emb cs h
  | .agg cs, h => by simp only [trigid] at h; simp only [emb, rigid]; exact trigidL_emb cs h
  | .opt g v, h => by
    simp only [trigid] at h
    simp only [emb]
    cases g
    · rfl
    · exact trigid_emb v h
  | .dead, h => by simp [trigid] at h
  | .pel _, h => by simp [trigid] at h
  | .lst _ _, h => by simp [trigid] at h
  | .ptr _ _, h => by simp [trigid] at h
  | .ptrE _ _ _ _, h => by simp [trigid] at h
  | .sl _ _ _ _, h => by simp [trigid] at h
  | .sla _ _ _ _, h => by simp [trigid] at h
  | .fn _ _, h => by simp [trigid] at h
theorem trigidL_emb : ∀ (cs : List (TV A)), trigidL cs = true → rigidL (embC R cs) = true
  | [], _ => rfl
  | c :: r, h => by
    simp only [trigidL, Bool.and_eq_true] at h
    simp only [embC, rigidL, Bool.and_eq_true]
    exact ⟨trigid_emb c h.1, trigidL_emb r h.2⟩
end

/-- A call of a function that only reads and whose value says all of itself. -/
theorem TDr.call (E : Env A R P τ fl) {s : SO} {r : List SO} {F : TF A} {H : TH A} {K : List DA → TF A → TH A → Prop} {f : Nat} {as as0 : List (TV A)} {p : List Prop} {v : TV A} {Q' : TV A → TH A → Prop} (hg : tgate F s.g = true) (hs : tcall F s = some (f, as))
    (ha : ((as.map (tsnap R H 3)).flatMap (·.1), (as.map (tsnap R H 3)).map (·.2)) = (p, as0)) (hp : Conj p) (hc : TC R P f as0 [] Q') (hv : ∀ x X, Q' x X → x = v) (hr : trigid v = true)
    (hb : (as.flatMap (treach H 2)).all (Nat.blt · H.length) = true)
    (k : TDr R P r (tlput s.dst v F) H (fun cs => K (⟨s.dst, emb R v, [], guardSlot s.g ++ slotsOf s.op, as.flatMap (treach H 2), []⟩ :: cs))) : TDr R P (s :: r) F H K := by
  obtain ⟨rfl, rfl⟩ := Prod.mk.inj ha
  obtain ⟨g, args, tys, cap, hop, hgv, hargs⟩ := tcall_ok (R := R) hs
  have hc2 : LC P f ((args.toList.map (evalO (embF R F)) ++ cap).map (snap (embH R H) 3)) [] fun x G => x = emb R v := by
    rw [hargs]
    refine LC.mono (LC.args ?_ ?_ hc) fun x G ⟨y, X, q, e1, e2⟩ => by rw [e1, hv y X q]
    · simp [embC_length]
    · intro i h1 h2
      have hi : i < as.length := by rw [embC_length] at h1; simpa using h1
      have := tsnap_ok R E.ok H 3 as[i] (Conj.flat hp _ (List.mem_map.2 ⟨as[i], List.getElem_mem hi, rfl⟩))
      simpa [embC_eq] using this
  have hf := SFact.quiet (tgate_ok hg) hop hgv hc2 (fun y G e => e) (trigid_emb v hr)
  refine TDr.cons (x := v) (ws := []) (e := 0) (c := ⟨s.dst, emb R v, [], guardSlot s.g ++ slotsOf s.op, as.flatMap (treach H 2), []⟩) (hf.more rfl rfl rfl rfl (fun t ht => ht) (fun q hq => ?_)) rfl rfl hb rfl (fun x hx => by simp at hx) (by simpa [tapply] using k)
  rw [hargs] at hq
  simp only [embC_eq, List.flatMap_map] at hq
  obtain ⟨x, hx, hr'⟩ := List.mem_flatMap.1 hq
  exact List.mem_flatMap.2 ⟨x, hx, treach_ok E.ok H 2 x 3 (by omega) q hr'⟩

end
end Go.Lite

namespace Go.Lite
/-! ### Tables -/
def lookT {β : Type} (l : List (Nat × β)) (d : Nat → Option β) (t : Nat) : Option β :=
  match l with
  | [] => d t
  | (s, x) :: r => cond (Nat.beq s t) (some x) (lookT r d t)
def lookN (l : List (Nat × Nat)) (d : Nat → Nat) (t : Nat) : Nat :=
  match l with
  | [] => d t
  | (s, x) :: r => cond (Nat.beq s t) x (lookN r d t)
def okL {β : Type} (d : Nat → Option β) : List (Nat × β) → Prop
  | [] => True
  | (s, x) :: r => d s = some x ∧ okL d r
def okN (d : Nat → Nat) : List (Nat × Nat) → Prop
  | [] => True
  | (s, x) :: r => d s = x ∧ okN d r
theorem lookT_eq {β : Type} {d : Nat → Option β} : ∀ {l : List (Nat × β)}, okL d l → lookT l d = d
  | [], _ => rfl
  | (s, x) :: r, h => by
    funext t
    simp only [lookT]
    cases hb : Nat.beq s t with
    | true => rw [← Nat.eq_of_beq_eq_true hb, h.1]; rfl
    | false => simp only [cond_false]; rw [lookT_eq h.2]
theorem lookN_eq {d : Nat → Nat} : ∀ {l : List (Nat × Nat)}, okN d l → lookN l d = d
  | [], _ => rfl
  | (s, x) :: r, h => by
    funext t
    simp only [lookN]
    cases hb : Nat.beq s t with
    | true => rw [← Nat.eq_of_beq_eq_true hb, h.1]; rfl
    | false => simp only [cond_false]; rw [lookN_eq h.2]
end Go.Lite
