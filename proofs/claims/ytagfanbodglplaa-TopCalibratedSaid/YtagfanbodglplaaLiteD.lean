/- Lite, parts D. -/
import Derived.Test.YtagfanbodglplaaLiteC
set_option linter.unusedVariables false
set_option linter.unusedSimpArgs false

/- Lite, part D: the operations that only compute do what pureOp says, all of them. -/
namespace Go.Lite
open Go Go.RowKit
set_option linter.unusedVariables false

section
variable {P : Program} {w : World} {ι : Pl} {per : Nat → Prop} {F : Fr} {a : Act}

theorem run_equal_bool {t : TypeId} (h : P.underlying t = some .bool) (x y : Bool) (w : World) : (Op.equal t (.bool x) (.bool y)).run P w = .ok (x == y) w := by
  unfold Op.equal
  rw [show Op.maxDepth = 9999 + 1 from rfl, Op.equalIn]
  simp only [Sem.run_bind, run_underlying h, Result.andThen_ok, Sem.run_pure]

/-- The first cells of two rows of a plain type, compared. -/
theorem flat_eq {t : TypeId} {kd : Nat} (h : flatTy P t = some kd) {ks : List Nat} {x y : LV} {u v : Value} (hx : VR w per ι x u) (hy : VR w per ι y v) {r r' : List LV} {b : Bool} (he : eqCells (kd :: ks) (x :: r) (y :: r') = some b) :
    ∃ c b', (∀ d w', (Op.equalIn (d + 1) t u v).run P w' = .ok c w') ∧ eqCells ks r r' = some b' ∧ b = (c && b') := by
  have hi : ∀ (a b : Int), decide (a = b) = (a == b) := fun a b => by by_cases e : a = b <;> simp [e]
  unfold flatTy at h
  split at h
  · rename_i k' hu
    obtain rfl := Option.some.inj h
    cases x <;> cases y <;> simp only [eqCells, reduceCtorEq] at he
    split at he
    · rename_i e
      subst e
      obtain ⟨b', h1, rfl⟩ := Option.map_eq_some_iff.1 he
      cases hx; cases hy
      exact ⟨_, b', fun d w' => run_equalIn_int w' d t _ _ _ _ hu, h1, by rw [hi]⟩
    · cases he
  · rename_i hu
    obtain rfl := Option.some.inj h
    cases x <;> cases y <;> simp only [eqCells, reduceCtorEq] at he
    obtain ⟨b', h1, rfl⟩ := Option.map_eq_some_iff.1 he
    cases hx; cases hy
    exact ⟨_, b', fun d w' => run_equalIn_bool' w' d t _ _ hu, h1, rfl⟩
  · rename_i hu
    obtain rfl := Option.some.inj h
    cases x <;> cases y <;> simp only [eqCells, reduceCtorEq] at he
    obtain ⟨b', h1, rfl⟩ := Option.map_eq_some_iff.1 he
    cases hx; cases hy
    exact ⟨_, b', fun d w' => run_equalIn_string w' d t _ _ hu, h1, rfl⟩
  · cases h

theorem flat_part {t : TypeId} {kd : Nat} (h : flatTy P t = some kd) {xs : Array Value} {n : Nat} {v : Value} (hv : xs[n]? = some v) (w' : World) : (part t xs n).run P w' = .ok v w' := by
  have : ∃ d, P.underlying t = some d ∧ aggOf P t = false := by
    unfold flatTy at h
    unfold aggOf
    split at h <;> first | (rename_i hu; rw [hu]; exact ⟨_, rfl, rfl⟩) | (rename_i _ hu; rw [hu]; exact ⟨_, rfl, rfl⟩) | cases h
  obtain ⟨d, hd, ha⟩ := this
  unfold part
  simp [run_isAgg hd, ha, hv]

theorem eqCells_len : ∀ (ks : List Nat) (a b : List LV) (r : Bool), eqCells ks a b = some r → a.length = ks.length ∧ b.length = ks.length := by
  intro ks
  induction ks with
  | nil => intro a b r h; cases a <;> cases b <;> simp [eqCells] at h; exact ⟨rfl, rfl⟩
  | cons k ks ih =>
    intro a b r h
    have fin : ∀ {a b : List LV} {f : Bool → Bool}, (eqCells ks a b).map f = some r → a.length = ks.length ∧ b.length = ks.length := fun h => by
      obtain ⟨b', h1, _⟩ := Option.map_eq_some_iff.1 h
      exact ih _ _ _ h1
    rcases a with _ | ⟨x, a⟩
    · rcases k with _ | _ | _ | k <;> cases b <;> simp [eqCells] at h
    · rcases b with _ | ⟨y, b⟩
      · rcases k with _ | _ | _ | k <;> cases x <;> simp [eqCells] at h
      · simp only [List.length_cons, Nat.add_right_cancel_iff]
        rcases k with _ | _ | _ | k
        · cases x <;> cases y <;> simp only [eqCells, reduceCtorEq] at h
          split at h
          · exact fin h
          · cases h
        · cases x <;> cases y <;> simp only [eqCells, reduceCtorEq, Nat.zero_add] at h
          exact fin h
        · cases x <;> cases y <;> simp only [eqCells, reduceCtorEq, Nat.zero_add, Nat.reduceAdd] at h
          exact fin h
        · cases x <;> cases y <;> simp [eqCells] at h

theorem fields_eq {us vs : List Value} : ∀ (l : List Field) (n : Nat) (ks : List Nat) (xs ys : List LV) (b : Bool), flatFs P n l = some ks → VL w ι per xs (us.drop n) → VL w ι per ys (vs.drop n) → eqCells ks xs ys = some b →
    ∀ d w', (Op.eqFields (d + 1) us.toArray vs.toArray l).run P w' = .ok b w' := by
  intro l
  induction l with
  | nil =>
    intro n ks xs ys b h _ _ he d w'
    obtain rfl := Option.some.inj h
    have := eqCells_len _ _ _ _ he
    cases xs with
    | cons => simp at this
    | nil =>
      cases ys with
      | cons => simp at this
      | nil =>
        obtain rfl := Option.some.inj he
        simp [Op.eqFields]
  | cons f l ih =>
    intro n ks xs ys b h hx hy he d w'
    simp only [flatFs] at h
    split at h
    · rename_i hc
      simp only [Bool.and_eq_true] at hc
      have hoff : f.offset = n := Nat.eq_of_beq_eq_true hc.2
      split at h
      · rename_i k ks' hk hks
        obtain rfl := Option.some.inj h
        have hl := eqCells_len _ _ _ _ he
        cases xs with
        | nil => simp at hl
        | cons x xs =>
          cases ys with
          | nil => simp at hl
          | cons y ys =>
            have hun : n < us.length := by have := hx.1; simp at this; omega
            have hvn : n < vs.length := by have := hy.1; simp at this; omega
            have h0 := hx.2 0 (by simp)
            have h0' := hy.2 0 (by simp)
            simp only [List.getElem_cons_zero] at h0 h0'
            have du : us.drop n = us[n] :: us.drop (n + 1) := List.drop_eq_getElem_cons hun
            have dv : vs.drop n = vs[n] :: vs.drop (n + 1) := List.drop_eq_getElem_cons hvn
            rw [du, List.getD_cons_zero] at h0
            rw [dv, List.getD_cons_zero] at h0'
            obtain ⟨c, b', h1, h2, rfl⟩ := flat_eq hk h0 h0' he
            have tl : ∀ {zs : List LV} {z : LV} {ws : List Value} {wv : Value}, VL w ι per (z :: zs) (wv :: ws) → VL w ι per zs ws := fun h => ⟨by simpa using h.1, fun i hi => by have := h.2 (i + 1) (by simpa using hi); rwa [List.getElem_cons_succ, List.getD_cons_succ] at this⟩
            rw [du] at hx
            rw [dv] at hy
            have := ih (n + 1) ks' xs ys b' hks (tl hx) (tl hy) h2 d w'
            have hne : f.name ≠ "_" := by simpa using hc.1
            simp only [Op.eqFields, hne, ne_eq, not_false_eq_true, if_true, Sem.run_bind, hoff, flat_part hk (show us.toArray[n]? = some us[n] by simp [hun]), flat_part hk (show vs.toArray[n]? = some vs[n] by simp [hvn]), Result.andThen_ok, h1]
            cases c
            · simp
            · simpa using this
      · cases h
    · cases h

theorem array_eq {e : TypeId} {kd : Nat} (hk : flatTy P e = some kd) {us vs : List Value} (d : Nat) : ∀ (m n : Nat) (xs ys : List LV) (b : Bool), VL w ι per xs (us.drop n) → VL w ι per ys (vs.drop n) → eqCells (List.replicate m kd) xs ys = some b →
    ∀ w', (do for i in List.range' n m do
                if !(← Op.equalIn (d + 1) e (← part e us.toArray (i * 1)) (← part e vs.toArray (i * 1))) then return false
              pure true : Sem Bool).run P w' = .ok b w' := by
  intro m
  induction m with
  | zero =>
    intro n xs ys b _ _ he w'
    have := eqCells_len _ _ _ _ he
    cases xs with
    | cons => simp at this
    | nil =>
      cases ys with
      | cons => simp at this
      | nil => obtain rfl := Option.some.inj he; simp
  | succ m ih =>
    intro n xs ys b hx hy he w'
    have hl := eqCells_len _ _ _ _ he
    cases xs with
    | nil => simp at hl
    | cons x xs =>
      cases ys with
      | nil => simp at hl
      | cons y ys =>
        have hun : n < us.length := by have := hx.1; simp at this; omega
        have hvn : n < vs.length := by have := hy.1; simp at this; omega
        have h0 := hx.2 0 (by simp)
        have h0' := hy.2 0 (by simp)
        simp only [List.getElem_cons_zero] at h0 h0'
        have du : us.drop n = us[n] :: us.drop (n + 1) := List.drop_eq_getElem_cons hun
        have dv : vs.drop n = vs[n] :: vs.drop (n + 1) := List.drop_eq_getElem_cons hvn
        rw [du, List.getD_cons_zero] at h0
        rw [dv, List.getD_cons_zero] at h0'
        rw [List.replicate_succ] at he
        obtain ⟨c, b', h1, h2, rfl⟩ := flat_eq hk h0 h0' he
        have tl : ∀ {zs : List LV} {z : LV} {ws : List Value} {wv : Value}, VL w ι per (z :: zs) (wv :: ws) → VL w ι per zs ws := fun h => ⟨by simpa using h.1, fun i hi => by have := h.2 (i + 1) (by simpa using hi); rwa [List.getElem_cons_succ, List.getD_cons_succ] at this⟩
        rw [du] at hx
        rw [dv] at hy
        have := ih (n + 1) xs ys b' (tl hx) (tl hy) h2 w'
        simp only [List.range'_succ, List.forIn_cons, Sem.run_bind, Nat.mul_one, flat_part hk (show us.toArray[n]? = some us[n] by simp [hun]), flat_part hk (show vs.toArray[n]? = some vs[n] by simp [hvn]), Result.andThen_ok, h1]
        cases c
        · simp
        · simpa [Nat.mul_one] using this

theorem agg_eq {t : TypeId} {ks : List Nat} (ht : eqOf P t = some ks) {a b : List LV} {us vs : List Value} (hx : VL w ι per a us) (hy : VL w ι per b vs) {r : Bool} (he : eqCells ks a b = some r) :
    P.eqGuardType P.depth t = false ∧ ∀ w', (Op.equalIn 10000 t (.agg us.toArray) (.agg vs.toArray)).run P w' = .ok r w' := by
  unfold eqOf at ht
  split at ht
  · rename_i fs hu
    split at ht
    · rename_i hc
      simp only [Bool.and_eq_true, Bool.not_eq_true'] at hc
      refine ⟨hc.1, fun w' => ?_⟩
      have hf : P.fieldsOf t = fs := by unfold Program.fieldsOf; rw [hu]
      rw [run_equalIn_struct w' 9999 t us.toArray vs.toArray (by rw [hf]; exact hu) hc.2, hf]
      exact fields_eq (us := us) (vs := vs) fs.toList 0 ks a b r ht (by simpa using hx) (by simpa using hy) he 9998 w'
    · cases ht
  · rename_i n e hu
    split at ht
    · rename_i hc
      split at ht
      · rename_i k j hk hj
        split at ht
        · rename_i hs
          obtain rfl := Option.some.inj ht
          refine ⟨by simpa using hc, fun w' => ?_⟩
          have hs' : j.size = 1 := Nat.eq_of_beq_eq_true hs
          have := array_eq (P := P) hk (us := us) (vs := vs) 9998 n 0 a b r (by simpa using hx) (by simpa using hy) he w'
          rw [show (10000 : Nat) = 9999 + 1 from rfl, Op.equalIn]
          simp only [Sem.run_bind, run_underlying hu, Result.andThen_ok, run_sizeOf hj, hs']
          simpa [Std.Legacy.Range.forIn_eq_forIn_range', Std.Legacy.Range.size] using this
        · cases ht
      · cases ht
    · cases ht
  · cases ht

theorem lbinT_sound {op : BinOp} {t : TypeId} {x y : LV} {u v : Value} {ox oy : Operand} (hx : VR w per ι x u) (hy : VR w per ι y v) {r : LV}
    (h : lbinT (ttOf P) t op x y = some r) : ∃ z, (∀ w', (do eqGuard op t ox oy u v; binOp op t u v : Sem Value).run P w' = .ok z w') ∧ VR w per ι r z := by
  have fin : ∀ {c : Bool}, (∀ w', (eqGuard op t ox oy u v).run P w' = .ok () w') → (∀ w', (Op.equalIn 10000 t u v).run P w' = .ok c w') → (∀ op w', op = BinOp.eql ∨ op = BinOp.neq → (binOp op t u v).run P w' = ((Op.equalIn 10000 t u v).run P w').andThen fun b w' => .ok (.bool (if op = .eql then b else !b)) w') →
      eqB op c = some r → ∃ z, (∀ w', (do eqGuard op t ox oy u v; binOp op t u v : Sem Value).run P w' = .ok z w') ∧ VR w per ι r z := by
    intro c h1 h2 h3 h4
    unfold eqB at h4
    split at h4
    · obtain rfl := Option.some.inj h4
      exact ⟨_, fun w' => by simp only [Sem.run_bind, h1, Result.andThen_ok, h3 .eql w' (.inl rfl), h2]; rfl, .bool _⟩
    · obtain rfl := Option.some.inj h4
      exact ⟨_, fun w' => by simp only [Sem.run_bind, h1, Result.andThen_ok, h3 .neq w' (.inr rfl), h2]; rfl, .bool _⟩
    · cases h4
  unfold lbinT at h
  split at h
  · cases hx; cases hy
    simp only [Sem.run_bind, eqGuard_bool, Result.andThen_ok]
    split at h
    · rename_i ht
      obtain rfl := Option.some.inj h
      refine ⟨_, ?_, .bool _⟩
      intro w'
      simp only [binOp, Sem.run_bind, run_equal_bool (bool_spec ht), Result.andThen_ok, Sem.run_pure]
    · rename_i ht
      obtain rfl := Option.some.inj h
      refine ⟨_, ?_, .bool _⟩
      intro w'
      simp only [binOp, Sem.run_bind, run_equal_bool (bool_spec ht), Result.andThen_ok, Sem.run_pure]
    · cases h
  · obtain ⟨us, rfl, hu⟩ := hx.agg_inv
    obtain ⟨vs, rfl, hv⟩ := hy.agg_inv
    split at h
    · rename_i ks hks
      split at h
      · rename_i c hc
        obtain ⟨g1, g2⟩ := agg_eq (show eqOf P t = some ks from hks) hu hv hc
        refine fin (fun w' => run_eqGuard_agg w' op t ox oy _ _ g1) g2 (fun o w' ho => ?_) h
        rcases ho with rfl | rfl
        · rw [run_eql_struct]; rfl
        · rw [run_neq_struct]; rfl
      · cases h
    · cases h
  all_goals first
    | exact lbin_sound hx hy h
    | ((first | (obtain ⟨_, _, rfl⟩ := hx.fn_form) | cases hx); cases hy
       split at h
       · rename_i ht
         have ht' : nilOf P t = _ := Nat.eq_of_beq_eq_true ht
         unfold nilOf at ht'
         split at ht' <;> first | cases ht' | (split at ht' <;> cases ht'; done) | skip
         rename_i hu
         refine fin (fun w' => by cases op <;> rfl) (fun w' => ?_) (fun o w' ho => ?_) h
         · rw [show (10000 : Nat) = 9999 + 1 from rfl, Op.equalIn]
           simp [run_underlying hu]
         · rcases ho with rfl | rfl <;> simp [binOp, Op.equal, Op.maxDepth]
       · cases h)
    | (cases hx; cases hy
       split at h
       · rename_i ht
         have hs : ∃ e, P.underlying t = some (.slice e) := by
           have ht' : Nat.ble 3 (nilOf P t) = true := ht
           unfold nilOf at ht'
           split at ht' <;> first | (cases ht'; done) | exact ⟨_, by assumption⟩
         obtain ⟨e, hu⟩ := hs
         refine fin (fun w' => by cases op <;> rfl) (fun w' => ?_) (fun o w' ho => ?_) h
         · rw [show (10000 : Nat) = 9999 + 1 from rfl, Op.equalIn]
           simp [run_underlying hu]
         · rcases ho with rfl | rfl <;> simp [binOp, Op.equal, Op.maxDepth]
       · cases h)

theorem VR.asI {x : LV} {v : Value} (h : VR w per ι x v) {n : Int} (hn : asI x = some n) : ∃ k, v = .int k n := by
  cases h <;> simp only [Lite.asI, Option.some.injEq, reduceCtorEq] at hn
  subst hn; exact ⟨_, rfl⟩

theorem run_sliceBound {v : Value} {n : Int} {k : IntKind} {y : Nat} {code : BoundsCode} (hv : v = .int k n) (h0 : 0 ≤ n) (h1 : n ≤ y) : (Instr.sliceBound v y code).run P w = .ok n.toNat w := by
  subst hv
  simp [Instr.sliceBound, asIntOf, h0, h1]

def VO (w : World) (ι : Pl) (per : Nat → Prop) : Option LV → Option Value → Prop
  | none, none => True
  | some x, some v => VR w per ι x v
  | _, _ => False

theorem VO.map (hF : FR w ι per F a) (x : Option Operand) : VO w ι per (x.map (evalO F)) (x.map a.eval) := by
  cases x with
  | none => trivial
  | some x => exact hF.eval x

theorem bnds_sound {isSl : Bool} {len cap : Nat} (hlc : len ≤ cap) {lo hi : Option LV} {vlo vhi : Option Value}
    (hlo : VO w ι per lo vlo) (hhi : VO w ι per hi vhi) {l r : Nat} (h : sliceBnds len lo hi = some (l, r)) :
    (∀ w', (Instr.sliceBounds isSl len cap vlo vhi none).run P w' = .ok (l, r, cap) w') ∧ l ≤ r ∧ r ≤ len := by
  unfold sliceBnds at h
  split at h
  · rename_i hh ll ehi elo
    split at h
    · rename_i hc
      simp only [Option.some.injEq, Prod.mk.injEq] at h
      obtain ⟨rfl, rfl⟩ := h
      refine ⟨?_, by omega, by omega⟩
      intro w'
      unfold Instr.sliceBounds
      cases hi with
      | none =>
        cases vhi with
        | some v => exact hhi.elim
        | none =>
          simp only [hiOf, Option.some.injEq] at ehi
          subst ehi
          cases lo with
          | none =>
            cases vlo with
            | some v => exact hlo.elim
            | none =>
              simp only [loOf, Option.some.injEq] at elo
              subst elo
              simp
          | some x =>
            cases vlo with
            | none => exact hlo.elim
            | some u =>
              obtain ⟨k, rfl⟩ := VR.asI hlo elo
              simp [run_sliceBound (P := P) (w := w') (v := .int k ll) (y := len) rfl (by omega) (by omega)]
      | some y =>
        cases vhi with
        | none => exact hhi.elim
        | some v =>
          obtain ⟨kh, rfl⟩ := VR.asI hhi ehi
          have hb := fun code => run_sliceBound (P := P) (w := w') (v := .int kh hh) (y := cap) (code := code) rfl (by omega) (by omega)
          cases lo with
          | none =>
            cases vlo with
            | some v => exact hlo.elim
            | none =>
              simp only [loOf, Option.some.injEq] at elo
              subst elo
              simp [hb]
          | some x =>
            cases vlo with
            | none => exact hlo.elim
            | some u =>
              obtain ⟨k, rfl⟩ := VR.asI hlo elo
              have hl := fun code => run_sliceBound (P := P) (w := w') (v := .int k ll) (y := hh.toNat) (code := code) rfl (by omega) (by omega)
              simp [hb, hl]
    · cases h
  · cases h

theorem Room.le {b n m : Nat} (h : Room w b n) (hm : m ≤ n) : Room w b m := by
  obtain ⟨c, e, fz, h1, h2⟩ := h
  exact ⟨c, e, fz, h1, by omega⟩

theorem lmin_sound : ∀ (l : List LV) (vs : List Value) (x : LV) (v : Value) (r : LV), VL w ι per l vs → VR w per ι x v → lmin l x = some r →
    ∃ u, (∀ w', (vs.foldlM Builtin.min2 v).run P w' = .ok u w') ∧ VR w per ι r u := by
  intro l
  induction l with
  | nil =>
    intro vs x v r hl hx h
    have : vs = [] := by have := hl.1; simpa using this.symm
    subst this
    obtain rfl := Option.some.inj h
    exact ⟨v, by simp, hx⟩
  | cons y l ih =>
    intro vs x v r hl hx h
    cases vs with
    | nil => have := hl.1; simp at this
    | cons z vs =>
      cases y <;> try simp only [lmin, reduceCtorEq] at h
      rename_i k n
      cases x <;> try simp only [lmin, reduceCtorEq] at h
      rename_i k' m
      have hz := hl.2 0 (by simp)
      simp only [List.getElem_cons_zero, List.getD_cons_zero] at hz
      cases hz
      cases hx
      have hl' : VL w ι per l vs := by
        refine ⟨by simpa using hl.1, fun i hi => ?_⟩
        have := hl.2 (i + 1) (by simpa using hi)
        simpa using this
      obtain ⟨u, hu, hr⟩ := ih vs _ (.int k' (if n < m then n else m)) r hl' (.int _ _) h
      refine ⟨u, ?_, hr⟩
      intro w'
      simp only [List.foldlM_cons, Builtin.min2, pure_bind]
      exact hu w'

theorem lmax_sound : ∀ (l : List LV) (vs : List Value) (x : LV) (v : Value) (r : LV), VL w ι per l vs → VR w per ι x v → lmax l x = some r →
    ∃ u, (∀ w', (vs.foldlM Builtin.max2 v).run P w' = .ok u w') ∧ VR w per ι r u := by
  intro l
  induction l with
  | nil =>
    intro vs x v r hl hx h
    have : vs = [] := by have := hl.1; simpa using this.symm
    subst this
    obtain rfl := Option.some.inj h
    exact ⟨v, by simp, hx⟩
  | cons y l ih =>
    intro vs x v r hl hx h
    cases vs with
    | nil => have := hl.1; simp at this
    | cons z vs =>
      cases y <;> try simp only [lmax, reduceCtorEq] at h
      rename_i k n
      cases x <;> try simp only [lmax, reduceCtorEq] at h
      rename_i k' m
      have hz := hl.2 0 (by simp)
      simp only [List.getElem_cons_zero, List.getD_cons_zero] at hz
      cases hz
      cases hx
      have hl' : VL w ι per l vs := by
        refine ⟨by simpa using hl.1, fun i hi => ?_⟩
        have := hl.2 (i + 1) (by simpa using hi)
        simpa using this
      obtain ⟨u, hu, hr⟩ := ih vs _ (.int k' (if m < n then n else m)) r hl' (.int _ _) h
      refine ⟨u, ?_, hr⟩
      intro w'
      simp only [List.foldlM_cons, Builtin.max2, pure_bind]
      exact hu w'

/-- Persistent cells seen from a later cell on. -/
theorem VR.pp_drop {cs : List LV} {b o : Nat} (vs : Nat → Value) (hp : per b) (hc : ∀ i, i < cs.length → w.cell? ⟨b, o + i, none⟩ = some (vs i)) (hv : ∀ i (h : i < cs.length), VR w per [] cs[i] (vs i)) (n m : Nat) :
    VR w per ι (.pp ((cs.drop n).take m)) (.pointer (some ⟨b, o + n, none⟩)) := by
  refine .pp (fun i => vs (n + i)) hp (fun i hi => ?_) fun i hi => ?_
  · have : n + i < cs.length := by simp at hi; omega
    rw [← hc (n + i) this, Nat.add_assoc]
  · have : n + i < cs.length := by simp at hi; omega
    rw [List.getElem_take, List.getElem_drop]
    exact hv (n + i) this

theorem VR.pp_drop' {cs : List LV} {b o : Nat} (vs : Nat → Value) (hp : per b) (hc : ∀ i, i < cs.length → w.cell? ⟨b, o + i, none⟩ = some (vs i)) (hv : ∀ i (h : i < cs.length), VR w per [] cs[i] (vs i)) (n : Nat) :
    VR w per ι (.pp (cs.drop n)) (.pointer (some ⟨b, o + n, none⟩)) := by
  have := VR.pp_drop (ι := ι) vs hp hc hv n (cs.drop n).length
  rwa [List.take_length] at this

theorem evalL (hF : FR w ι per F a) (xs : List Operand) : VL w ι per (xs.map (evalO F)) (xs.map a.eval) :=
  ⟨by simp, fun i hi => by
    have hi' : i < xs.length := by simpa using hi
    simp [hi']
    exact hF.eval _⟩

theorem pure_sound (hF : FR w ι per F a) {o : Oper} {x : LV} (h : pureOp (ttOf P) F o.op = some x) : Yields P w ι per x (execOp a.eval o) := by
  obtain ⟨dst, op, ty, pos, after, guard⟩ := o
  cases op with
  | move y =>
    obtain rfl := Option.some.inj h
    exact ⟨a.eval y, by intro w'; simp [execOp], hF.eval y⟩
  | assign y =>
    obtain rfl := Option.some.inj h
    exact ⟨a.eval y, by intro w'; simp [execOp], hF.eval y⟩
  | pick c y z =>
    simp only [pureOp] at h
    split at h
    · rename_i t ht
      have hc := hF.eval c
      rw [ht] at hc
      generalize hcv : a.eval c = v at hc
      cases hc
      obtain rfl := Option.some.inj h
      refine ⟨if t then a.eval y else a.eval z, ?_, ?_⟩
      · intro w'; simp [execOp, hcv, asBool]
      · cases t
        · exact hF.eval z
        · exact hF.eval y
    · cases h
  | nilCheck y =>
    simp only [pureOp] at h
    have hc := hF.eval y
    generalize hcv : a.eval y = v at hc
    split at h
    · rename_i e
      rw [e] at hc
      obtain rfl := Option.some.inj h
      refine ⟨v, ?_, hc⟩
      cases hc
      intro w'; simp [execOp, hcv]
    · rename_i e
      rw [e] at hc
      obtain rfl := Option.some.inj h
      refine ⟨v, ?_, hc⟩
      cases hc
      intro w'; simp [execOp, hcv]
    · rename_i e
      rw [e] at hc
      obtain rfl := Option.some.inj h
      refine ⟨v, ?_, hc⟩
      obtain ⟨_, _, rfl⟩ := hc.fn_form
      intro w'; simp [execOp, hcv]
    · cases h
  | binOp op t y z yt =>
    obtain ⟨v, hv, hr⟩ := lbinT_sound (P := P) (t := t) (ox := y) (oy := z) (hF.eval y) (hF.eval z) h
    refine ⟨v, ?_, hr⟩
    intro w'
    have hv := hv w'
    simp only [execOp, Sem.run_bind] at hv ⊢
    rw [hv]; simp
  | unOp op t y =>
    obtain ⟨v, hv, hr⟩ := lun_sound (P := P) (hF.eval y) h
    exact ⟨v, by intro w'; simp [execOp, hv], hr⟩
  | convert s d y =>
    simp only [pureOp] at h
    have hc := hF.eval y
    generalize hcv : a.eval y = v at hc
    split at h
    · rename_i ts k _ _ _ k' n hs hd e
      rw [e] at hc
      obtain rfl := Option.some.inj h
      obtain ⟨_, sd, _, _, hs2, _⟩ := ti_spec hs
      cases hc
      refine ⟨_, ?_, .int _ _⟩
      intro w'; simp only [execOp, hcv, convert, Sem.run_bind, run_underlying hs2, run_underlying (int_spec hd), Result.andThen_ok, Conv.intToInt, Sem.run_pure]
    · rename_i ts _ _ _ b hs hd e
      rw [e] at hc
      obtain rfl := Option.some.inj h
      obtain ⟨_, sd, _, _, hs2, _⟩ := ti_spec hs
      cases hc
      refine ⟨_, ?_, .str _⟩
      intro w'; simp only [execOp, hcv, convert, Sem.run_bind, run_underlying hs2, run_underlying (str_spec hd), Result.andThen_ok, Sem.run_pure]
    · cases h
  | extract y i =>
    simp only [pureOp] at h
    have hc := hF.eval y
    generalize hcv : a.eval y = v at hc
    split at h
    · rename_i vs e
      rw [e] at hc
      obtain ⟨us, rfl, hl⟩ := hc.tup_inv
      obtain ⟨u, hu, hr⟩ := hl.get h
      exact ⟨u, by intro w'; simp [execOp, hcv, Instr.extract, hu], hr⟩
    · cases h
  | makeFunc f first captured =>
    cases f with
    | func f =>
      simp only [pureOp] at h
      split at h
      · rename_i h0
        split at h
        · rename_i hu
          obtain rfl := Option.some.inj h
          have h1 : first = #[] := Array.eq_empty_of_size_eq_zero h0
          subst h1
          have hl := evalL hF captured.toList
          refine ⟨.func (.func f) #[] (captured.toList.map a.eval).toArray, ?_, fnV_off hu ▸ .fn hl.1 hl.2⟩
          intro w'; simp [execOp, Instr.makeFunc]
          apply Array.ext'
          simp
        · cases h
      · split at h
        · rename_i h0
          obtain rfl := Option.some.inj h
          have h1 : captured = #[] := Array.eq_empty_of_size_eq_zero h0
          subst h1
          have hl := evalL hF first.toList
          have hv : VR w per ι (.fn f (.und :: first.toList.map (evalO F))) (fnV f (.und :: first.toList.map (evalO F)) (undef :: first.toList.map a.eval)) := .fn (by simp) fun i hi => by
            cases i with
            | zero => exact .und
            | succ i => exact hl.2 i (by simpa using hi)
          refine ⟨.func (.func f) (first.toList.map a.eval).toArray #[], ?_, hv⟩
          intro w'; simp [execOp, Instr.makeFunc]
          apply Array.ext'
          simp
        · cases h
    | _ => cases h
  | fieldAddr s y f =>
    simp only [pureOp] at h
    have hc := hF.eval y
    generalize hcv : a.eval y = v at hc
    split at h
    · rename_i fs _ _ _ hh oo hs e
      rw [e] at hc
      split at h
      · rename_i off size g hf
        split at h
        · cases h
        · rename_i hz
          obtain rfl := Option.some.inj h
          obtain ⟨fl, hu, hfl⟩ := struct_spec hs
          obtain ⟨fd, j, d, hfd, hj, hd, rfl, rfl, rfl⟩ := (fieldsOf_spec _ _ hfl).2 f _ _ _ hf
          obtain ⟨b, o, hi, rfl⟩ := hc.ptr_inv
          refine ⟨.pointer (some ⟨b, o + (oo + fd.offset), none⟩), ?_, .ptr hi⟩
          have hfd' : fl[f]? = some fd := by simpa using hfd
          intro w'; simp [execOp, hcv, Instr.fieldAt, run_underlying hu, hfd', Instr.sureAddr, fieldPlace, run_sizeOf hj, hz, add_plain, Nat.add_assoc]
      · cases h
    · rename_i fs _ _ _ cs hs e
      rw [e] at hc
      split at h
      · rename_i off size g hf
        split at h
        · cases h
        · rename_i hz
          obtain rfl := Option.some.inj h
          obtain ⟨fl, hu, hfl⟩ := struct_spec hs
          obtain ⟨fd, j, d, hfd, hj, hd, rfl, rfl, rfl⟩ := (fieldsOf_spec _ _ hfl).2 f _ _ _ hf
          obtain ⟨b, o, vs, hp, hcc, hvv, rfl⟩ := hc.pp_inv
          refine ⟨.pointer (some ⟨b, o + fd.offset, none⟩), ?_, VR.pp_drop' vs hp hcc hvv fd.offset⟩
          have hfd' : fl[f]? = some fd := by simpa using hfd
          intro w'; simp [execOp, hcv, Instr.fieldAt, run_underlying hu, hfd', Instr.sureAddr, fieldPlace, run_sizeOf hj, hz, add_plain]
      · cases h
    · cases h
  | field s y f =>
    simp only [pureOp] at h
    have hc := hF.eval y
    generalize hcv : a.eval y = v at hc
    split at h
    · rename_i fs _ _ _ cs hs e
      rw [e] at hc
      split at h
      · rename_i off size g hf
        obtain ⟨fl, hu, hfl⟩ := struct_spec hs
        obtain ⟨fd, j, d, hfd, hj, hd, rfl, rfl, rfl⟩ := (fieldsOf_spec _ _ hfl).2 f _ _ _ hf
        obtain ⟨vs, rfl, hl⟩ := hc.agg_inv
        obtain ⟨u, hu2, hr⟩ := lpart_sound hj hd hl h
        have hfd' : fl[f]? = some fd := by simpa using hfd
        refine ⟨u, ?_, hr⟩
        intro w'; simp [execOp, hcv, Instr.field, run_underlying hu, hfd', asAgg, hu2]
      · cases h
    · cases h
  | indexAddr t y i =>
    simp only [pureOp] at h
    have hc := hF.eval y
    have hn := hF.eval i
    generalize hcv : a.eval y = v at hc
    generalize hnv : a.eval i = vi at hn
    split at h
    · rename_i esz eb ez _ _ _ sz hh oo len k n ht e ei
      rw [e] at hc
      rw [ei] at hn
      split at h
      · rename_i hb
        obtain rfl := Option.some.inj h
        obtain ⟨et, j, ze, hu, hj, hsz, _⟩ := slice_spec ht
        cases hn
        rcases hc.sl_inv with ⟨b, o, cap, hi, hl, hr, rfl⟩ | ⟨h0, aa, rfl⟩
        · refine ⟨.pointer (some ⟨b, o + (oo + n.toNat * sz), none⟩), ?_, .ptr hi⟩
          intro w'; simp [execOp, hcv, hnv, Instr.indexAt, asIntOf, run_underlying hu, hb.2.1, hb.2.2, run_sizeOf hj, add_plain, hsz, hb.1, Nat.add_assoc]
        · omega
      · cases h
    · rename_i esz eb ez _ _ _ sz len cs k n ht e ei
      rw [e] at hc
      rw [ei] at hn
      split at h
      · rename_i hb
        obtain rfl := Option.some.inj h
        obtain ⟨et, j, ze, hu, hj, hsz, _⟩ := slice_spec ht
        cases hn
        rcases hc.ps_inv with ⟨b, o, cap, vs, hp, hnn, hl, hcc, hvv, rfl⟩ | ⟨h0, _, aa, cap, rfl⟩
        · refine ⟨.pointer (some ⟨b, o + n.toNat * sz, none⟩), ?_, VR.pp_drop vs hp hcc hvv _ _⟩
          intro w'; simp [execOp, hcv, hnv, Instr.indexAt, asIntOf, run_underlying hu, hb.2.1, hb.2.2, run_sizeOf hj, add_plain, hsz, hb.1]
        · omega
      · cases h
    · rename_i m esz eg _ _ _ hh oo k n ht e ei
      rw [e] at hc
      rw [ei] at hn
      split at h
      · rename_i hb
        obtain rfl := Option.some.inj h
        obtain ⟨et, j, d, hu, hj, hd, hsz, _⟩ := arr_spec ht
        cases hn
        obtain ⟨b, o, hi, rfl⟩ := hc.ptr_inv
        refine ⟨.pointer (some ⟨b, o + (oo + n.toNat * esz), none⟩), ?_, .ptr hi⟩
        intro w'; simp [execOp, hcv, hnv, Instr.indexAt, asIntOf, run_underlying hu, hb.1, hb.2, run_sizeOf hj, add_plain, hsz, Instr.sureAddr, Nat.add_assoc]
      · cases h
    · rename_i m esz eg _ _ _ cs k n ht e ei
      rw [e] at hc
      rw [ei] at hn
      split at h
      · rename_i hb
        obtain rfl := Option.some.inj h
        obtain ⟨et, j, d, hu, hj, hd, hsz, _⟩ := arr_spec ht
        cases hn
        obtain ⟨b, o, vs, hp, hcc, hvv, rfl⟩ := hc.pp_inv
        refine ⟨.pointer (some ⟨b, o + n.toNat * esz, none⟩), ?_, VR.pp_drop' vs hp hcc hvv _⟩
        intro w'; simp [execOp, hcv, hnv, Instr.indexAt, asIntOf, run_underlying hu, hb.1, hb.2, run_sizeOf hj, add_plain, hsz, Instr.sureAddr]
      · cases h
    · cases h
  | index t y i =>
    simp only [pureOp] at h
    have hc := hF.eval y
    have hn := hF.eval i
    generalize hcv : a.eval y = v at hc
    generalize hnv : a.eval i = vi at hn
    split at h
    · rename_i m esz eg _ _ _ cs k n ht e ei
      rw [e] at hc
      rw [ei] at hn
      split at h
      · rename_i hb
        obtain ⟨et, j, d, hu, hj, hd, hsz, heg, _⟩ := arr_spec ht
        subst hsz heg
        cases hn
        obtain ⟨vs, rfl, hl⟩ := hc.agg_inv
        obtain ⟨u, hu2, hr⟩ := lpart_sound hj hd hl h
        refine ⟨u, ?_, hr⟩
        intro w'; simp [execOp, hcv, hnv, Instr.index, asIntOf, run_underlying hu, hb.1, hb.2, run_sizeOf hj, hu2]
      · cases h
    · rename_i _ _ _ s k n ht e ei
      rw [e] at hc
      rw [ei] at hn
      split at h
      · rename_i hb
        split at h
        · rename_i bb hbb
          obtain rfl := Option.some.inj h
          cases hn
          cases hc
          refine ⟨.int .u8 bb.toNat, ?_, .int _ _⟩
          intro w'; simp [execOp, hcv, hnv, Instr.index, asIntOf, run_underlying (str_spec ht), hb, hbb]
        · cases h
      · cases h
    · cases h
  | build t parts =>
    simp only [pureOp] at h
    have hparts : ∀ (i : Nat) (p : Nat × LV), (parts.toList.map fun p => (p.1, evalO F p.2))[i]? = some p → ∃ v, (parts.toList.map fun p => (p.1, a.eval p.2))[i]? = some (p.1, v) ∧ VR w per ι p.2 v := by
      intro i p hp
      simp only [List.getElem?_map, Option.map_eq_some_iff] at hp ⊢
      obtain ⟨q, hq, rfl⟩ := hp
      exact ⟨a.eval q.2, ⟨q, hq, rfl⟩, hF.eval q.2⟩
    split at h
    · rename_i fs sz ag z ht
      obtain ⟨i, d, zv, hi, hd, hzv, hz, _, _, _, _⟩ := ti_spec ht
      obtain ⟨fl, hu, hfl⟩ := struct_spec ht
      have hspec := fieldsOf_spec _ _ hfl
      simp only [Option.map_eq_some_iff] at h
      obtain ⟨cs, hcs, rfl⟩ := h
      simp only at hz
      subst hz
      have hmap : ∀ (l : List Field) (lf : List (Nat × Nat × Bool)), fieldsOf P l = some lf → ∀ (acc : Array (Nat × Nat)) (w' : World),
          (l.foldlM (fun (bs : Array (Nat × Nat)) f => bs.push <$> (do pure (f.offset, ← sizeOf f.type) : Sem (Nat × Nat))) acc).run P w' = .ok (acc ++ (lf.map fun f => (f.1, f.2.1)).toArray) w' := by
        intro l
        induction l with
        | nil => intro lf hlf acc w'; obtain rfl := Option.some.inj hlf; simp
        | cons f r ih =>
          intro lf hlf acc w'
          simp only [fieldsOf] at hlf
          split at hlf
          · rename_i j dd l' hj hdd hl'
            obtain rfl := Option.some.inj hlf
            simp only [List.foldlM_cons, Sem.run_bind, Sem.run_map, run_sizeOf hj, Result.andThen_ok, Sem.run_pure]
            rw [ih l' hl']
            simp
          · cases hlf
      have hm : ∀ w', (fl.mapM fun f => (do pure (f.offset, ← sizeOf f.type) : Sem (Nat × Nat))).run P w' = .ok (fs.map fun f => (f.1, f.2.1)).toArray w' := by
        intro w'
        rw [Array.mapM_eq_foldlM, ← Array.foldlM_toList]
        have := hmap fl.toList fs hfl #[] w'
        simpa using this
      obtain ⟨out, ho, hl⟩ := lfill_sound (w := w) (ι := ι) (per := per) (fun i => (fs[i]?).map fun f => (f.1, f.2.1)) ((fs.map fun f => (f.1, f.2.1)).toArray[·]?) (by intro i; simp) _ _ (by simp) hparts _ zv.cells (VL.scalars _) cs hcs
      refine ⟨.agg out.toList.toArray, ?_, .agg hl.1 hl.2⟩
      have hpm : (parts.map fun (x : Nat × Operand) => (x.1, a.eval x.2)).toList = parts.toList.map fun p => (p.1, a.eval p.2) := by simp
      intro w'; simp only [execOp, Instr.build, Sem.run_bind, run_zeroValue hi hzv, Result.andThen_ok, run_underlying hu, hm]
      rw [hpm, ho]
      simp
    · rename_i n esz eg sz ag z ht
      obtain ⟨i, d, zv, hi, hd, hzv, hz, _, _, _, _⟩ := ti_spec ht
      obtain ⟨et, j, dd, hu, hj, hdd, hsz, _⟩ := arr_spec ht
      simp only [Option.map_eq_some_iff] at h
      obtain ⟨cs, hcs, rfl⟩ := h
      simp only at hz
      subst hz
      obtain ⟨out, ho, hl⟩ := lfill_sound (w := w) (ι := ι) (per := per) (fun i => some (i * esz, esz)) (fun i => some (i * esz, esz)) (by intro i; rfl) _ _ (by simp) hparts _ zv.cells (VL.scalars _) cs hcs
      refine ⟨.agg out.toList.toArray, ?_, .agg hl.1 hl.2⟩
      have hpm : (parts.map fun (x : Nat × Operand) => (x.1, a.eval x.2)).toList = parts.toList.map fun p => (p.1, a.eval p.2) := by simp
      intro w'; simp only [execOp, Instr.build, Sem.run_bind, run_zeroValue hi hzv, Result.andThen_ok, run_underlying hu, run_sizeOf hj, hsz]
      rw [hpm, ho]
      simp
    · cases h
  | slice t y lo hi mx =>
    cases mx with
    | some m => cases h
    | none =>
      simp only [pureOp] at h
      have hc := hF.eval y
      generalize hcv : a.eval y = v at hc
      have hlo := VO.map hF lo
      have hhi := VO.map hF hi
      split at h
      · rename_i _ _ _ s ht e
        rw [e] at hc
        split at h
        · rename_i l r hb
          obtain rfl := Option.some.inj h
          obtain ⟨hrun, _, _⟩ := bnds_sound (P := P) (w := w) (isSl := false) (Nat.le_refl s.size) hlo hhi hb
          cases hc
          refine ⟨.string (s.extract l r), ?_, .str _⟩
          intro w'; simp [execOp, hcv, Instr.sliceAt, Instr.slice, run_underlying (str_spec ht), hrun]
        · cases h
      · rename_i esz eb ez _ _ _ sz hh oo len ht e
        rw [e] at hc
        split at h
        · cases h
        · rename_i hse
          simp only [ne_eq, Decidable.not_not] at hse
          split at h
          · rename_i l r hb
            obtain rfl := Option.some.inj h
            obtain ⟨et, j, ze, hu, hj, hsz, _⟩ := slice_spec ht
            rcases hc.sl_inv with ⟨b, o, cap, hi', hl, hr, rfl⟩ | ⟨h0, aa, rfl⟩
            · obtain ⟨hrun, h1, h2⟩ := bnds_sound (P := P) (w := w) (isSl := true) hl hlo hhi hb
              by_cases hcl : cap = l
              · subst hcl
                have hrl : r - cap = 0 := by omega
                refine ⟨.slice (some ⟨b, o + oo, none⟩) 0 0, ?_, by rw [hrl]; exact .slz⟩
                intro w'; simp [execOp, hcv, Instr.sliceAt, Instr.slice, run_underlying hu, hrun, run_sizeOf hj, hrl]
              · refine ⟨.slice (some ⟨b, o + (oo + l * sz), none⟩) (r - l) (cap - l), ?_, .sl hi' (by omega) (hr.le ?_)⟩
                · intro w'; simp [execOp, hcv, Instr.sliceAt, Instr.slice, run_underlying hu, hrun, run_sizeOf hj, hcl, hsz, hse, add_plain, Nat.add_assoc]
                · have : l * sz + (cap - l) * sz = cap * sz := by rw [← Nat.add_mul]; congr 1; omega
                  omega
            · subst h0
              obtain ⟨hrun, h1, h2⟩ := bnds_sound (P := P) (w := w) (isSl := true) (Nat.le_refl 0) hlo hhi hb
              have hr0 : r - l = 0 := by omega
              have hl0 : l = 0 := by omega
              refine ⟨.slice aa 0 0, ?_, by rw [hr0]; exact .slz⟩
              intro w'; simp [execOp, hcv, Instr.sliceAt, Instr.slice, run_underlying hu, hrun, run_sizeOf hj, hl0]
              omega
          · cases h
      · rename_i esz eb ez _ _ _ sz len cs ht e
        rw [e] at hc
        split at h
        · cases h
        · rename_i hse
          simp only [ne_eq, Decidable.not_not] at hse
          split at h
          · rename_i l r hb
            obtain rfl := Option.some.inj h
            obtain ⟨et, j, ze, hu, hj, hsz, _⟩ := slice_spec ht
            replace hc := hc.ps_inv
            rcases hc with hc | hc
            · obtain ⟨b, o, cap, vs, hp, hnn, hl, hcc, hvv, rfl⟩ := hc
              obtain ⟨hrun, h1, h2⟩ := bnds_sound (P := P) (w := w) (isSl := true) hl hlo hhi hb
              by_cases hcl : cap = l
              · subst hcl
                have hrl : r - cap = 0 := by omega
                refine ⟨.slice (some ⟨b, o, none⟩) 0 0, ?_, by rw [hrl]; simp; exact .psz⟩
                intro w'; simp [execOp, hcv, Instr.sliceAt, Instr.slice, run_underlying hu, hrun, run_sizeOf hj, hrl]
              · have hlen : ((cs.drop (l * sz)).take ((r - l) * sz)).length = (r - l) * sz := by
                  have : l * sz + (r - l) * sz = r * sz := by rw [← Nat.add_mul]; congr 1; omega
                  have h3 : r * sz ≤ len * sz := Nat.mul_le_mul_right _ h2
                  simp; omega
                refine ⟨.slice (some ⟨b, o + l * sz, none⟩) (r - l) (cap - l), ?_, .ps (fun i => vs (l * sz + i)) hp hlen (by omega) (fun i hi => ?_) fun i hi => ?_⟩
                · intro w'; simp [execOp, hcv, Instr.sliceAt, Instr.slice, run_underlying hu, hrun, run_sizeOf hj, hcl, hsz, hse, add_plain]
                · have : l * sz + i < cs.length := by simp at hi; omega
                  rw [← hcc _ this, Nat.add_assoc]
                · have : l * sz + i < cs.length := by simp at hi; omega
                  rw [List.getElem_take, List.getElem_drop]
                  exact hvv _ this
            · obtain ⟨rfl, rfl, aa, cap, rfl⟩ := hc
              obtain ⟨hrun, h1, h2⟩ := bnds_sound (P := P) (w := w) (isSl := true) (Nat.zero_le cap) hlo hhi hb
              have hr0 : r - l = 0 := by omega
              refine ⟨_, ?_, by rw [hr0]; simp; exact .psz (a := if cap = l then aa else aa.map (·.add (l * j.size))) (cap := cap - l)⟩
              intro w'; simp [execOp, hcv, Instr.sliceAt, Instr.slice, run_underlying hu, hrun, run_sizeOf hj, hr0]
          · cases h
      · rename_i _ _ _ _ _ _ ht e
        rw [e] at hc
        split at h
        · rename_i lr hb
          obtain rfl := Option.some.inj h
          obtain ⟨et, j, ze, hu, hj, hsz, _⟩ := slice_spec ht
          cases hc
          obtain ⟨l, r⟩ := lr
          obtain ⟨hrun, h1, h2⟩ := bnds_sound (P := P) (w := w) (isSl := true) (Nat.le_refl 0) hlo hhi hb
          have hr0 : r = 0 := by omega
          have hl0 : l = 0 := by omega
          subst hr0 hl0
          refine ⟨.slice none 0 0, ?_, .nils⟩
          intro w'; simp [execOp, hcv, Instr.sliceAt, Instr.slice, run_underlying hu, hrun, run_sizeOf hj]
        · cases h
      · cases h
  | call c =>
    obtain ⟨callee, args, argTypes⟩ := c
    cases callee with
    | builtin b =>
      cases b with
      | len =>
        simp only [pureOp] at h
        split at h
        · rename_i _ _ _ sv e1 e2
          obtain ⟨t, ht, htt⟩ := Option.bind_eq_some_iff.1 e1
          obtain ⟨y, hy, e⟩ := Option.map_eq_some_iff.1 e2
          have hc := hF.eval y
          rw [e] at hc
          generalize hcv : a.eval y = v at hc
          cases hc
          obtain rfl := Option.some.inj h
          refine ⟨.int .i64 sv.size, ?_, .int _ _⟩
          intro w'; simp [execOp, resolve, invoke, builtin, Builtin.len_, ht, hy, hcv, run_underlying (str_spec htt), goInt]
        · rename_i _ _ _ _ _ _ _ _ _ n e1 e2
          obtain ⟨t, ht, htt⟩ := Option.bind_eq_some_iff.1 e1
          obtain ⟨y, hy, e⟩ := Option.map_eq_some_iff.1 e2
          have hc := hF.eval y
          rw [e] at hc
          generalize hcv : a.eval y = v at hc
          obtain rfl := Option.some.inj h
          obtain ⟨et, j, ze, hu, hj, hsz, _⟩ := slice_spec htt
          refine ⟨.int .i64 n, ?_, .int _ _⟩
          rcases hc.sl_inv with ⟨b, o, cap, hi, hl, hr, rfl⟩ | ⟨rfl, aa, rfl⟩ <;>
          (intro w'; simp [execOp, resolve, invoke, builtin, Builtin.len_, ht, hy, hcv, run_underlying hu, goInt])
        · rename_i _ _ _ _ _ _ _ n _ e1 e2
          obtain ⟨t, ht, htt⟩ := Option.bind_eq_some_iff.1 e1
          obtain ⟨y, hy, e⟩ := Option.map_eq_some_iff.1 e2
          have hc := hF.eval y
          rw [e] at hc
          generalize hcv : a.eval y = v at hc
          obtain rfl := Option.some.inj h
          obtain ⟨et, j, ze, hu, hj, hsz, _⟩ := slice_spec htt
          refine ⟨.int .i64 n, ?_, .int _ _⟩
          rcases hc.ps_inv with ⟨b, o, cap, vs, hp, hnn, hl, hcc, hvv, rfl⟩ | ⟨rfl, _, aa, cap, rfl⟩ <;>
          (intro w'; simp [execOp, resolve, invoke, builtin, Builtin.len_, ht, hy, hcv, run_underlying hu, goInt])
        · rename_i e1 e2
          obtain ⟨t, ht, htt⟩ := Option.bind_eq_some_iff.1 e1
          obtain ⟨y, hy, e⟩ := Option.map_eq_some_iff.1 e2
          have hc := hF.eval y
          rw [e] at hc
          generalize hcv : a.eval y = v at hc
          obtain rfl := Option.some.inj h
          obtain ⟨et, j, ze, hu, hj, hsz, _⟩ := slice_spec htt
          refine ⟨.int .i64 0, ?_, .int _ _⟩
          cases hc
          intro w'; simp [execOp, resolve, invoke, builtin, Builtin.len_, ht, hy, hcv, run_underlying hu, goInt]
        · rename_i n _ _ _ _ _ _ e1 e2
          obtain ⟨t, ht, htt⟩ := Option.bind_eq_some_iff.1 e1
          obtain ⟨y, hy, e⟩ := Option.map_eq_some_iff.1 e2
          obtain rfl := Option.some.inj h
          obtain ⟨et, j, d, hu, _⟩ := arr_spec htt
          refine ⟨.int .i64 n, ?_, .int _ _⟩
          intro w'; simp [execOp, resolve, invoke, builtin, Builtin.len_, ht, hy, run_underlying hu, goInt]
        · cases h
      | min =>
        simp only [pureOp] at h
        have hl := evalL hF args.toList
        split at h
        · rename_i x r e
          rw [e] at hl
          cases hv : args.toList.map a.eval with
          | nil => rw [hv] at hl; have := hl.1; simp at this
          | cons v vs =>
            rw [hv] at hl
            have hx := hl.2 0 (by simp)
            have hr : VL w ι per r vs := ⟨by simpa using hl.1, fun i hi => by have := hl.2 (i + 1) (by simpa using hi); simpa using this⟩
            obtain ⟨u, hu, hres⟩ := lmin_sound (P := P) r vs x v _ hr (by simpa using hx) h
            refine ⟨u, ?_, hres⟩
            have he : (args.map a.eval).toList = v :: vs := by simpa using hv
            intro w'; simp only [execOp, resolve, invoke, builtin, Builtin.min_, Sem.run_bind, Sem.run_pure, Result.andThen_ok, he, hu w']
        · cases h
      | max =>
        simp only [pureOp] at h
        have hl := evalL hF args.toList
        split at h
        · rename_i x r e
          rw [e] at hl
          cases hv : args.toList.map a.eval with
          | nil => rw [hv] at hl; have := hl.1; simp at this
          | cons v vs =>
            rw [hv] at hl
            have hx := hl.2 0 (by simp)
            have hr : VL w ι per r vs := ⟨by simpa using hl.1, fun i hi => by have := hl.2 (i + 1) (by simpa using hi); simpa using this⟩
            obtain ⟨u, hu, hres⟩ := lmax_sound (P := P) r vs x v _ hr (by simpa using hx) h
            refine ⟨u, ?_, hres⟩
            have he : (args.map a.eval).toList = v :: vs := by simpa using hv
            intro w'; simp only [execOp, resolve, invoke, builtin, Builtin.max_, Sem.run_bind, Sem.run_pure, Result.andThen_ok, he, hu w']
        · cases h
      | _ => cases h
    | _ => cases h
  | _ => cases h

end
end Go.Lite
