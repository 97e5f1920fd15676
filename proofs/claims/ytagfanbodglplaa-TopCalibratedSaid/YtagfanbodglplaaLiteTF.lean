/- Lite, parts TE TF. -/
import Derived.Test.YtagfanbodglplaaLiteTD
set_option linter.unusedVariables false
set_option linter.unusedSimpArgs false

/- Lite, part TE: the operations that make or write memory, on typed values. -/
namespace Go.Lite
open Go Go.RowKit
set_option linter.unusedVariables false

section
variable {A : Nat → Type} (R : Reg A)

def tsolid : TV A → Bool
  | .dead | .und | .agg _ | .tup _ | .opt _ _ => false
  | _ => true

theorem tsolid_emb {v : TV A} (h : tsolid v = true) : solid (emb R v) = true := by
  cases v <;> simp [tsolid] at h <;> rfl

theorem tsolid_all {cs : List (TV A)} (h : cs.all tsolid = true) : (embC R cs).all solid = true := by
  rw [embC_eq, List.all_map, List.all_eq_true]
  exact fun x hx => tsolid_emb R (List.all_eq_true.1 h x hx)

def zerosT (n : Nat) (zs : List (TV A)) : List (TV A) := (List.replicate n zs).flatten

theorem zerosT_emb (n : Nat) {ez : List LV} (h : flatL ez = true) : embC R (zerosT n (upL ez)) = zerosL n ez := by
  have e : ∀ n, embC R (zerosT n (upL ez)) = (List.replicate n ez).flatten := by
    intro n
    induction n with
    | zero => rfl
    | succ n ih =>
      have : zerosT (n + 1) (upL (A := A) ez) = upL ez ++ zerosT n (upL ez) := by simp [zerosT, List.replicate_succ]
      rw [this, embC_append, ih, embC_up R ez h, List.replicate_succ, List.flatten_cons]
  rw [e]
  unfold zerosL
  split
  · rename_i z
    induction n with
    | zero => rfl
    | succ n ih => rw [List.replicate_succ, List.flatten_cons, ih, List.replicate_succ]; rfl
  · rfl

/-- The elements of a source of append or copy. -/
def tsrc (H : TH A) (t esz : Nat) : TV A → Option (List Prop × (Σ e, List (A e)))
  | .nils => (match R.el t with | some e => cond (Nat.beq (R.sz e) esz) (some ([], ⟨e, []⟩)) none | none => none)
  | .lst e ys => cond (Nat.beq (R.sz e) esz) (some ([], ⟨e, ys⟩)) none
  | .sla sz h o m => (match trow H h with
    | some (.arr e ys) => cond (Nat.beq (R.sz e) esz && Nat.beq sz esz) (some ([o + m ≤ ys.length], ⟨e, cut ys o m⟩)) none
    | _ => none)
  | _ => none

theorem tsrc_ok (hR : R.Ok) {H : TH A} {t esz : Nat} {y : TV A} {cs : List Prop} {p : Σ e, List (A e)} (h : tsrc R H t esz y = some (cs, p)) (hc : Conj cs) :
    R.sz p.1 = esz ∧ srcCells (embH R H) esz (emb R y) = some (p.2.length, p.2.flatMap (R.encL p.1)) := by
  unfold tsrc at h
  split at h
  · split at h
    · rename_i e he
      cases hb : Nat.beq (R.sz e) esz with
      | false => rw [hb] at h; cases h
      | true =>
        rw [hb] at h
        simp only [cond_true, Option.some.injEq, Prod.mk.injEq] at h
        obtain ⟨_, rfl⟩ := h
        exact ⟨Nat.eq_of_beq_eq_true hb, rfl⟩
    · cases h
  · rename_i e ys
    cases hb : Nat.beq (R.sz e) esz with
    | false => rw [hb] at h; cases h
    | true =>
      rw [hb] at h
      simp only [cond_true, Option.some.injEq, Prod.mk.injEq] at h
      obtain ⟨_, rfl⟩ := h
      refine ⟨Nat.eq_of_beq_eq_true hb, ?_⟩
      simp only [emb, srcCells]
      rw [if_pos (Nat.eq_of_beq_eq_true hb)]
  · rename_i sz r o m
    split at h
    · rename_i e ys hr
      cases hb : Nat.beq (R.sz e) esz && Nat.beq sz esz with
      | false => rw [hb] at h; cases h
      | true =>
        rw [hb] at h
        simp only [Bool.and_eq_true] at hb
        simp only [cond_true, Option.some.injEq, Prod.mk.injEq] at h
        obtain ⟨rfl, rfl⟩ := h
        have e1 := Nat.eq_of_beq_eq_true hb.1
        have e2 := Nat.eq_of_beq_eq_true hb.2
        obtain ⟨c1, _⟩ := hc
        refine ⟨e1, ?_⟩
        simp only [emb, srcCells, row_emb R hr, embR]
        rw [if_pos e2, if_pos]
        · simp only [cut_length c1, Option.some.injEq, Prod.mk.injEq, true_and]
          rw [cut_eq, ← fm_take (hR.len e), ← fm_drop (hR.len e), e1, e2]
        · rw [fm_length (hR.len e), e1, e2, ← Nat.add_mul]
          exact Nat.mul_le_mul_right _ c1
    · cases h
  · cases h

/-- The element of a new slice, if it is a plain one. -/
def tmk (t esz : Nat) (zs : List (TV A)) : Option (Σ e, A e) :=
  match R.el t with
  | some e => cond (Nat.beq (R.sz e) esz) (match R.dec e zs with | some d => some ⟨e, d⟩ | none => none) none
  | none => none
theorem tmk_ok {t esz : Nat} {zs : List (TV A)} {p : Σ e, A e} (h : tmk R t esz zs = some p) : R.sz p.1 = esz ∧ R.dec p.1 zs = some p.2 := by
  unfold tmk at h
  split at h
  · rename_i e he
    cases hb : Nat.beq (R.sz e) esz with
    | false => rw [hb] at h; cases h
    | true =>
      rw [hb] at h
      simp only [cond_true] at h
      split at h
      · rename_i d hd
        obtain rfl := Option.some.inj h
        exact ⟨Nat.eq_of_beq_eq_true hb, hd⟩
      · cases h
  · cases h
/-- The same where the elements stand as cells. -/
def csrc (H : TH A) (esz : Nat) : TV A → Option (Nat × List (TV A))
  | .sl sz h o m => (match trow H h with
    | some (.cells cs) => cond (Nat.beq sz esz && Nat.ble (o + m * sz) cs.length) (some (m, (cs.drop o).take (m * sz))) none
    | _ => none)
  | _ => none
theorem csrc_ok {H : TH A} {esz : Nat} {y : TV A} {m : Nat} {ds : List (TV A)} (h : csrc H esz y = some (m, ds)) : srcCells (embH R H) esz (emb R y) = some (m, embC R ds) := by
  unfold csrc at h
  split at h
  · rename_i sz r o n
    split at h
    · rename_i cs hr
      cases hb : Nat.beq sz esz && Nat.ble (o + n * sz) cs.length with
      | false => rw [hb] at h; cases h
      | true =>
        rw [hb] at h
        simp only [Bool.and_eq_true] at hb
        simp only [cond_true, Option.some.injEq, Prod.mk.injEq] at h
        obtain ⟨rfl, rfl⟩ := h
        simp only [emb, srcCells, row_emb R hr, embR]
        rw [if_pos (Nat.eq_of_beq_eq_true hb.1), if_pos (by rw [embC_length]; exact Nat.le_of_ble_eq_true hb.2), embC_take, embC_drop]
    · cases h
  · cases h
def capp (H : TH A) (esz eb n : Nat) (y x : TV A) : Option (List Prop × TV A × List (Nat × Option (TRow A))) :=
  match csrc H esz y with
  | some (m, ds) => (match x with
    | .nils => some ([m * eb ≤ 140737488355328 ∧ m ≤ 140737488355328], .sl esz n 0 m, [(n, some (.cells ds))])
    | .sl sz h o k => (match trow H h with
      | some (.cells cs) => cond (Nat.beq sz esz && Nat.ble (o + k * sz) cs.length && ds.all tsolid)
          (some ([(k + m) * eb ≤ 140737488355328 ∧ k + m ≤ 140737488355328], .sl sz n 0 (k + m), [(h, none), (n, some (.cells ((cs.drop o).take (k * sz) ++ ds)))])) none
      | _ => none)
    | _ => none)
  | none => none
def teff (τ : TT) (F : TF A) (H : TH A) (n : Nat) (op : Op) : Option (List Prop × TV A × List (Nat × Option (TRow A))) :=
  match op with
  | .store t x y => (match τ t, tO F x, tcells (tO F y) with
    | some ti, .ptr h o, some ds => (match trow H h with
      | some (.cells cs) => cond (Nat.beq ds.length ti.size && Nat.ble (o + ds.length) cs.length && ds.all tsolid) (some ([], .und, [(h, some (.cells (tput cs o ds)))])) none
      | _ => none)
    | some ti, .ptrE sz h i o, some ds => (match trow H h with
      | some (.arr e xs) => cond (Nat.beq sz (R.sz e) && Nat.beq ds.length ti.size && Nat.ble (o + ds.length) (R.sz e) && ds.all tsolid)
          (match R.dec e (tput (R.enc e (xs.getD i (R.d e))) o ds) with
          | some a => some ([i < xs.length], .und, [(h, some (.arr e (xs.set i a)))])
          | none => none) none
      | _ => none)
    | _, _, _ => none)
  | .alloc t => (match τ t with
    | some ti => cond (flatL ti.zero) (some ([], .ptr n 0, [(n, some (.cells (upL ti.zero)))])) none
    | none => none)
  | .box t x => (match tcells (tO F x) with
    | some cs => some ([], .ptr n 0, [(n, some (.cells cs))])
    | none => none)
  | .buildSlice t len ps => (match τ t with
    | some ⟨.slice esz _ ez, _, _, _⟩ => cond (Nat.ble (len * esz) 16777216 && flatL ez)
        (match tfill (fun i => some (i * esz, esz)) (zerosT len (upL ez)) (ps.toList.map fun p => (p.1, tO F p.2)) with
        | some cs => (match R.el t with
          | some e => cond (Nat.beq (R.sz e) esz && Nat.beq cs.length (len * esz))
              (match decAll R e len cs with
              | some xs => some ([], .sla esz n 0 len, [(n, some (.arr e xs))])
              | none => some ([], .sl esz n 0 len, [(n, some (.cells cs))])) none
          | none => some ([], .sl esz n 0 len, [(n, some (.cells cs))]))
        | none => none) none
    | _ => none)
  | .makeSlice t l c => (match τ t, tO F l, tO F c with
    | some ⟨.slice esz eb ez, _, _, _⟩, .int _ a, .int _ b => cond (flatL ez) (match tmk R t esz (upL ez) with
        | some ⟨e, d⟩ => some ([0 ≤ a ∧ a ≤ b ∧ b ≤ 281474976710656 ∧ eb * b ≤ 281474976710656], .sla esz n 0 a.toNat, [(n, some (.arr e (List.replicate a.toNat d)))])
        | none => some ([0 ≤ a ∧ a ≤ b ∧ b ≤ 281474976710656 ∧ eb * b ≤ 281474976710656], .sl esz n 0 a.toNat, [(n, some (.cells (zerosT a.toNat (upL ez))))])) none
    | _, _, _ => none)
  | .call ⟨.builtin .append, args, tys⟩ => (match tys[0]?, tys[1]?, args[0]?, args[1]? with
    | some t, some u, some x, some y => (match τ t, τ u with
      | some ⟨.slice esz eb _, _, _, _⟩, some ⟨ud, _, _, _⟩ => (match ud with
        | .int _ => none
        | _ => (match tsrc R H t esz (tO F y), tO F x with
          | some (cs, ⟨e, ys⟩), .nils => some (cs ++ [ys.length * eb ≤ 140737488355328 ∧ ys.length ≤ 140737488355328], .sla esz n 0 ys.length, [(n, some (.arr e ys))])
          | some (cs, ⟨e, ys⟩), .sla sz h o m => (match trow H h with
            | some (.arr e' xs) => (match Nat.decEq e e' with
              | .isTrue p => cond (Nat.beq sz esz) (some (cs ++ [o + m ≤ xs.length, (m + ys.length) * eb ≤ 140737488355328 ∧ m + ys.length ≤ 140737488355328], .sla sz n 0 (m + ys.length),
                  [(h, none), (n, some (.arr e' (cut xs o m ++ p ▸ ys)))])) none
              | .isFalse _ => none)
            | _ => none)
          | _, _ => capp H esz eb n (tO F y) (tO F x)))
      | _, _ => none)
    | _, _, _, _ => none)
  | .call ⟨.builtin .copy, args, tys⟩ => (match tys[0]?, args[0]?, args[1]? with
    | some t, some x, some y => (match τ t with
      | some ⟨.slice esz eb _, _, _, _⟩ => (match tsrc R H t esz (tO F y), tO F x with
        | some (cs, ⟨e, ys⟩), .sla sz h o m => (match trow H h with
          | some (.arr e' xs) => (match Nat.decEq e e' with
            | .isTrue p => cond (Nat.beq sz esz) (some (cs ++ [o + m ≤ xs.length], .int .i64 (Nat.min ys.length m),
                [(h, some (.arr e' (xs.take o ++ (p ▸ ys : List (A e')).take (Nat.min ys.length m) ++ xs.drop (o + Nat.min ys.length m))))])) none
            | .isFalse _ => none)
          | _ => none)
        | _, _ => none)
      | _ => none)
    | _, _, _ => none)
  | .call ⟨.builtin .clear, args, tys⟩ => (match tys[0]?, args[0]? with
    | some t, some x => (match τ t, tO F x with
      | some ⟨.slice esz _ ez, _, _, _⟩, .sla sz h o m => (match trow H h, tmk R t esz (upL ez) with
        | some (.arr e xs), some ⟨e', d⟩ => (match Nat.decEq e' e with
          | .isTrue p => cond (Nat.beq sz esz && ez.all solid && flatL ez) (some ([o + m ≤ xs.length], .tup [], [(h, some (.arr e (xs.take o ++ List.replicate m (p ▸ d : A e) ++ xs.drop (o + m))))])) none
          | .isFalse _ => none)
        | _, _ => none)
      | _, _ => none)
    | _, _ => none)
  | _ => none

theorem putCells_fm {α : Type} {f : α → List LV} {c : Nat} (hf : ∀ a, (f a).length = c) {xs ys : List α} {o : Nat} : putCells (xs.flatMap f) (o * c) (ys.flatMap f) = (xs.take o ++ ys ++ xs.drop (o + ys.length)).flatMap f := by
  unfold putCells
  rw [fm_take hf, fm_length hf, ← Nat.add_mul, fm_drop hf, List.flatMap_append, List.flatMap_append]

theorem replicate_fm {α : Type} {f : α → List LV} (d : α) (n : Nat) : (List.replicate n d).flatMap f = (List.replicate n (f d)).flatten := by
  induction n with
  | zero => rfl
  | succ n ih => rw [List.replicate_succ, List.flatMap_cons, ih, List.replicate_succ, List.flatten_cons]

theorem zerosL_flatten (n : Nat) (ez : List LV) : zerosL n ez = (List.replicate n ez).flatten := by
  unfold zerosL
  split
  · induction n with
    | zero => rfl
    | succ n ih => rw [List.replicate_succ, List.replicate_succ, List.flatten_cons, ← ih]; rfl
  · rfl

theorem teff_ok (hR : R.Ok) {τ : TT} {F : TF A} {H : TH A} {n : Nat} {op : Op} {cs : List Prop} {x : TV A} {ws : List (Nat × Option (TRow A))} (h : teff R τ F H n op = some (cs, x, ws)) (hc : Conj cs) :
    effOp τ (embF R F) (embH R H) n op = some (emb R x, embW R ws) := by
  have E := evalO_emb R F
  unfold teff at h
  split at h
  · -- store
    split at h
    · rename_i ti r o ds h1 hx hy
      split at h
      · rename_i rc hr
        cases hb : Nat.beq ds.length ti.size && Nat.ble (o + ds.length) rc.length && ds.all tsolid with
        | false => rw [hb] at h; cases h
        | true =>
          rw [hb] at h
          simp only [cond_true, Option.some.injEq, Prod.mk.injEq] at h
          obtain ⟨_, rfl, rfl⟩ := h
          simp only [Bool.and_eq_true] at hb
          obtain ⟨⟨b1, b2⟩, b3⟩ := hb
          simp only [effOp, E, h1, hx, emb, tcells_emb R hy, row_emb R hr, embR]
          rw [if_pos ⟨by rw [embC_length]; exact Nat.eq_of_beq_eq_true b1, by rw [embC_length, embC_length]; exact Nat.le_of_ble_eq_true b2, tsolid_all R b3⟩]
          simp only [embW, embO, embR, tput_emb]
      · cases h
    · rename_i ti ss r i o ds h1 hx hy
      split at h
      · rename_i e xs hr
        cases hb : Nat.beq ss (R.sz e) && Nat.beq ds.length ti.size && Nat.ble (o + ds.length) (R.sz e) && ds.all tsolid with
        | false => rw [hb] at h; cases h
        | true =>
          rw [hb] at h
          simp only [cond_true] at h
          split at h
          · rename_i a ha
            simp only [Option.some.injEq, Prod.mk.injEq] at h
            obtain ⟨rfl, rfl, rfl⟩ := h
            obtain ⟨c1, _⟩ := hc
            simp only [Bool.and_eq_true] at hb
            obtain ⟨⟨⟨b0, b1⟩, b2⟩, b3⟩ := hb
            have e0 := Nat.eq_of_beq_eq_true b0
            have e2 := Nat.le_of_ble_eq_true b2
            obtain ⟨s1, s2⟩ := fm_split (hR.len e) c1
            have hmul : i * R.sz e + (o + ds.length) ≤ xs.length * R.sz e := by
              have : (i + 1) * R.sz e ≤ xs.length * R.sz e := Nat.mul_le_mul_right _ c1
              rw [Nat.add_mul, Nat.one_mul] at this
              omega
            simp only [effOp, E, h1, hx, emb, tcells_emb R hy, row_emb R hr, embR]
            rw [if_pos ⟨by rw [embC_length]; exact Nat.eq_of_beq_eq_true b1, by rw [embC_length, fm_length (hR.len e), e0]; omega, tsolid_all R b3⟩]
            simp only [embW, embO, embR, Option.some.injEq, Prod.mk.injEq, true_and, List.cons.injEq, and_true]
            rw [s1, e0, ← s2, putC_mid (by rw [embC_length, hR.len]; exact e2)]
            have hd := hR.dec e _ a ha
            rw [tput_emb, hR.ok, getD_get _ c1] at hd
            rw [hd]
            have e1 : (xs.set i a).take i = xs.take i := by rw [List.take_set_of_le (Nat.le_refl _)]
            have e3 : (xs.set i a).drop (i + 1) = xs.drop (i + 1) := by rw [List.drop_set_of_lt (by omega)]
            obtain ⟨t1, _⟩ := fm_split (hR.len e) (xs := xs.set i a) (i := i) (by simpa using c1)
            rw [t1, e1, e3]
            simp
          · cases h
      · cases h
    · cases h
  · -- alloc
    split at h
    · rename_i ti h1
      cases hf : flatL ti.zero with
      | false => rw [hf] at h; cases h
      | true =>
        rw [hf] at h
        simp only [cond_true, Option.some.injEq, Prod.mk.injEq] at h
        obtain ⟨_, rfl, rfl⟩ := h
        simp only [effOp, h1, emb, embW, embO, embR, embC_up R _ hf]
    · cases h
  · -- box
    split at h
    · rename_i ds h1
      simp only [Option.some.injEq, Prod.mk.injEq] at h
      obtain ⟨_, rfl, rfl⟩ := h
      simp only [effOp, E, tcells_emb R h1, emb, embW, embO, embR]
    · cases h
  · -- buildSlice
    rename_i t len ps
    split at h
    · rename_i esz eb ez sz ag z h1
      cases hb : Nat.ble (len * esz) 16777216 && flatL ez with
      | false => rw [hb] at h; cases h
      | true =>
        rw [hb] at h
        simp only [Bool.and_eq_true] at hb
        simp only [cond_true] at h
        split at h
        · rename_i ds hd
          have hfill := tfill_emb R _ _ _ _ hd
          rw [zerosT_emb R len hb.2] at hfill
          have raw : effOp τ (embF R F) (embH R H) n (.buildSlice t len ps) = some (.sl esz n 0 len, [(n, some (embC R ds))]) := by
            simp only [effOp, h1]
            rw [if_pos (Nat.le_of_ble_eq_true hb.1), parts_emb (R := R), hfill]
          have plain : some (([] : List Prop), TV.sl (A := A) esz n 0 len, [(n, some (TRow.cells ds))]) = some (cs, x, ws) → effOp τ (embF R F) (embH R H) n (.buildSlice t len ps) = some (emb R x, embW R ws) := by
            intro h
            simp only [Option.some.injEq, Prod.mk.injEq] at h
            obtain ⟨_, rfl, rfl⟩ := h
            rw [raw]; rfl
          split at h
          · rename_i e he
            cases hb2 : Nat.beq (R.sz e) esz && Nat.beq ds.length (len * esz) with
            | false => rw [hb2] at h; cases h
            | true =>
              rw [hb2] at h
              simp only [Bool.and_eq_true] at hb2
              simp only [cond_true] at h
              split at h
              · rename_i xs hxs
                simp only [Option.some.injEq, Prod.mk.injEq] at h
                obtain ⟨_, rfl, rfl⟩ := h
                have e1 := Nat.eq_of_beq_eq_true hb2.1
                have := (decAll_ok R hR _ _ _ (by rw [e1]; exact Nat.eq_of_beq_eq_true hb2.2) hxs).1
                rw [raw, this]
                simp [emb, embW, embO, embR]
              · exact plain h
          · exact plain h
        · cases h
    · cases h
  · -- makeSlice
    split at h
    · rename_i esz eb ez sz ag z k a k' b h1 hl hcc
      cases hb : flatL ez with
      | false => rw [hb] at h; cases h
      | true =>
        rw [hb] at h
        simp only [cond_true] at h
        split at h
        · rename_i e d hd
          simp only [Option.some.injEq, Prod.mk.injEq] at h
          obtain ⟨rfl, rfl, rfl⟩ := h
          obtain ⟨c1, _⟩ := hc
          obtain ⟨_, hd2⟩ := tmk_ok R hd
          have := hR.dec e _ d hd2
          rw [embC_up R ez hb] at this
          simp only [effOp, E, h1, hl, hcc, emb]
          rw [if_pos c1]
          simp only [emb, embW, embO, embR, Nat.zero_mul]
          rw [replicate_fm, ← this, zerosL_flatten]
        · simp only [Option.some.injEq, Prod.mk.injEq] at h
          obtain ⟨rfl, rfl, rfl⟩ := h
          obtain ⟨c1, _⟩ := hc
          simp only [effOp, E, h1, hl, hcc, emb]
          rw [if_pos c1]
          simp only [emb, embW, embO, embR]
          rw [zerosT_emb R _ hb]
    · cases h
  · -- append
    split at h
    · rename_i t u ox oy ht hu hox hoy
      split at h
      · rename_i esz eb ez _ _ _ ud _ _ _ h1 h2
        split at h
        · cases h
        · rename_i hni
          have redi : ∀ {α : Type} (f : α) , True := fun _ => trivial
          split at h
          · rename_i ds e ys hs hx
            simp only [Option.some.injEq, Prod.mk.injEq] at h
            obtain ⟨rfl, rfl, rfl⟩ := h
            obtain ⟨c0, c1⟩ := Conj.app hc
            obtain ⟨s1, s2⟩ := tsrc_ok R hR hs c0
            cases ud with
            | int k => exact absurd rfl (hni k)
            | _ =>
              simp only [effOp, ht, hu, hox, hoy, h1, h2]
              rw [E, E, hx, s2]
              simp only [emb]
              rw [if_pos c1.1]
              simp [emb, embW, embO, embR]
          · rename_i ds e ys sz r o m hs hx
            split at h
            · rename_i e' xs hr
              split at h
              · rename_i p hdec
                subst p
                cases hb : Nat.beq sz esz with
                | false => rw [hb] at h; cases h
                | true =>
                  rw [hb] at h
                  simp only [cond_true, Option.some.injEq, Prod.mk.injEq] at h
                  obtain ⟨rfl, rfl, rfl⟩ := h
                  obtain ⟨c0, c1⟩ := Conj.app hc
                  obtain ⟨s1, s2⟩ := tsrc_ok R hR hs c0
                  obtain ⟨d1, d2, _⟩ := c1
                  have e1 := Nat.eq_of_beq_eq_true hb
                  subst e1
                  cases ud with
                  | int k => exact absurd rfl (hni k)
                  | _ =>
                    simp only [effOp, ht, hu, hox, hoy, h1, h2]
                    rw [E, E, hx, s2]
                    simp only at s1
                    simp only [emb, row_emb R hr, embR]
                    rw [if_pos]
                    · simp only [emb, embW, embO, embR, Nat.zero_mul]
                      rw [List.flatMap_append, cut_eq, ← s1, fm_drop (hR.len e), fm_take (hR.len e)]
                    · refine ⟨trivial, ?_, d2.1, d2.2, ?_⟩
                      · rw [fm_length (hR.len e), s1, ← Nat.add_mul]
                        exact Nat.mul_le_mul_right _ d1
                      · rw [List.all_flatMap, List.all_eq_true]
                        exact fun a _ => hR.sol e a
              · cases h
            · cases h
          · have hcp : capp H esz eb n (tO F oy) (tO F ox) = some (cs, x, ws) := h
            clear h
            unfold capp at hcp
            split at hcp
            · rename_i m ds hds
              have s2 := csrc_ok R hds
              split at hcp
              · rename_i hx
                simp only [Option.some.injEq, Prod.mk.injEq] at hcp
                obtain ⟨rfl, rfl, rfl⟩ := hcp
                cases ud with
                | int k => exact absurd rfl (hni k)
                | _ =>
                  simp only [effOp, ht, hu, hox, hoy, h1, h2]
                  rw [E, E, hx, s2]
                  simp only [emb]
                  rw [if_pos hc.1]
                  simp [emb, embW, embO, embR]
              · rename_i sz r o k hx
                split at hcp
                · rename_i rc hr
                  cases hb : Nat.beq sz esz && Nat.ble (o + k * sz) rc.length && ds.all tsolid with
                  | false => rw [hb] at hcp; cases hcp
                  | true =>
                    rw [hb] at hcp
                    simp only [Bool.and_eq_true] at hb
                    simp only [cond_true, Option.some.injEq, Prod.mk.injEq] at hcp
                    obtain ⟨rfl, rfl, rfl⟩ := hcp
                    have b1 := Nat.eq_of_beq_eq_true hb.1.1
                    have b2 := Nat.le_of_ble_eq_true hb.1.2
                    cases ud with
                    | int k => exact absurd rfl (hni k)
                    | _ =>
                      simp only [effOp, ht, hu, hox, hoy, h1, h2]
                      rw [E, E, hx, s2]
                      simp only [emb, row_emb R hr, embR]
                      rw [if_pos ⟨b1, by rw [embC_length]; exact b2, hc.1.1, hc.1.2, tsolid_all R hb.2⟩]
                      simp only [emb, embW, embO, embR, embC_append, embC_take, embC_drop]
                · cases hcp
              · cases hcp
            · cases hcp
      · cases h
    · cases h
  · -- copy
    split at h
    · rename_i t ox oy ht hox hoy
      split at h
      · rename_i esz eb ez _ _ _ h1
        split at h
        · rename_i ds e ys sz r o m hs hx
          split at h
          · rename_i e' xs hr
            split at h
            · rename_i p hdec
              subst p
              cases hb : Nat.beq sz esz with
              | false => rw [hb] at h; cases h
              | true =>
                rw [hb] at h
                simp only [cond_true, Option.some.injEq, Prod.mk.injEq] at h
                obtain ⟨rfl, rfl, rfl⟩ := h
                obtain ⟨c0, c1⟩ := Conj.app hc
                obtain ⟨s1, s2⟩ := tsrc_ok R hR hs c0
                obtain ⟨d1, _⟩ := c1
                have e1 := Nat.eq_of_beq_eq_true hb
                subst e1
                simp only at s1
                simp only [effOp, ht, hox, hoy, h1]
                rw [E, E, hx, s2]
                simp only [emb, row_emb R hr, embR]
                rw [if_pos]
                · simp only [emb, embW, embO, embR]
                  have hk : (ys.take (Nat.min ys.length m)).length = Nat.min ys.length m := by
                    rw [List.length_take]; have : Nat.min ys.length m ≤ ys.length := Nat.min_le_left _ _; omega
                  rw [← s1, fm_take (hR.len e), putCells_fm (hR.len e), hk]
                · refine ⟨trivial, ?_, ?_⟩
                  · rw [fm_length (hR.len e), s1, ← Nat.add_mul]
                    exact Nat.mul_le_mul_right _ d1
                  · rw [List.all_flatMap, List.all_eq_true]
                    exact fun a _ => hR.sol e a
            · cases h
          · cases h
        · cases h
      · cases h
    · cases h
  · -- clear
    split at h
    · rename_i t ox ht hox
      split at h
      · rename_i esz eb ez _ _ _ sz r o m h1 hx
        split at h
        · rename_i e xs e' d hr hd
          split at h
          · rename_i p hdec
            subst p
            cases hb : Nat.beq sz esz && ez.all solid && flatL ez with
            | false => rw [hb] at h; cases h
            | true =>
              rw [hb] at h
              simp only [Bool.and_eq_true] at hb
              simp only [cond_true, Option.some.injEq, Prod.mk.injEq] at h
              obtain ⟨rfl, rfl, rfl⟩ := h
              obtain ⟨c1, _⟩ := hc
              have e1 := Nat.eq_of_beq_eq_true hb.1.1
              subst e1
              obtain ⟨s1, s2⟩ := tmk_ok R hd
              have s3 := hR.dec e' _ d s2
              rw [embC_up R ez hb.2] at s3
              simp only at s1 s3
              simp only [effOp, ht, hox, h1]
              rw [E, hx]
              simp only [emb, row_emb R hr, embR]
              rw [if_pos]
              · have e2 : zerosL m ez = (List.replicate m d).flatMap (R.encL e') := by rw [zerosL_flatten, replicate_fm, ← s3]
                simp only [embC, embW, embO, embR]
                rw [e2, ← s1, putCells_fm (hR.len e'), List.length_replicate]
              · refine ⟨trivial, ?_, hb.1.2⟩
                rw [fm_length (hR.len e'), s1, ← Nat.add_mul]
                exact Nat.mul_le_mul_right _ c1
          · cases h
        · cases h
      · cases h
    · cases h
  · cases h

end
end Go.Lite

/- Lite, part TF: lists of operations on typed values, in the order of the text and in any order. -/
namespace Go.Lite
open Go Go.RowKit
set_option linter.unusedVariables false

section
variable {A : Nat → Type} (R : Reg A)

def tlput : Option Nat → TV A → TF A → TF A
  | none, _, F => F
  | some d, x, F => (d, x) :: F
theorem tlput_emb (d : Option Nat) (x : TV A) (F : TF A) : embF R (tlput d x F) = lput d (emb R x) (embF R F) := by cases d <;> rfl

def tapply (H : TH A) : List (Nat × Option (TRow A)) → TH A
  | [] => H
  | (h, r) :: ws => tapply (H.set h r) ws
theorem embH_set (H : TH A) (h : Nat) (r : Option (TRow A)) : embH R (H.set h r) = (embH R H).set h (embO R r) := by
  induction H generalizing h with
  | nil => rfl
  | cons x H ih => cases h <;> simp [embH, ih]
theorem tapply_emb : ∀ (ws : List (Nat × Option (TRow A))) (H : TH A), embH R (tapply H ws) = applyWs (embH R H) (embW R ws) := by
  intro ws
  induction ws with
  | nil => intro H; rfl
  | cons p r ih => intro H; obtain ⟨h, x⟩ := p; simp only [tapply, embW, applyWs]; rw [ih, embH_set]

def tmore (op : Op) (H : TH A) : TH A := cond (makes op) (H ++ [none]) H
theorem embH_append (H G : TH A) : embH R (H ++ G) = embH R H ++ embH R G := by
  induction H with
  | nil => rfl
  | cons r H ih => simp [embH, ih]
theorem tmore_emb (op : Op) (H : TH A) : embH R (tmore op H) = more op (embH R H) := by
  unfold tmore more
  cases makes op <;> simp [embH_append, embH, embO]

/-- The frame where values that are there under a condition are taken for what they are. -/
def strip (g : Bool) (F : TF A) : List Nat → List Prop × TF A
  | [] => ([], F)
  | t :: r => match tget F t with
    | .opt g' v => (match strip g F r with | (cs, F') => ((g = true → g' = true) :: cs, (t, v) :: F'))
    | _ => strip g F r

theorem strip_ok (g : Bool) (F : TF A) (hg : g = true) : ∀ (l : List Nat), Conj (strip g F l).1 → ∀ t, (t ∈ l → emb R (tget (strip g F l).2 t) = emb R (tget F t)) ∧ (t ∉ l → tget (strip g F l).2 t = tget F t) := by
  intro l
  induction l with
  | nil => intro _ t; exact ⟨fun h => by simp at h, fun _ => rfl⟩
  | cons s r ih =>
    intro hc t
    simp only [strip] at hc ⊢
    split at hc
    · rename_i g' v e
      generalize hs : strip g F r = q at *
      obtain ⟨cs, F'⟩ := q
      obtain ⟨c1, c2⟩ := hc
      obtain ⟨i1, i2⟩ := ih c2 t
      have hg' := c1 hg
      by_cases hst : Nat.beq s t = true
      · have := Nat.eq_of_beq_eq_true hst
        subst this
        refine ⟨fun _ => ?_, fun h => by simp at h⟩
        simp only [tget, hst, cond_true, e, emb, hg']
      · have hb : Nat.beq s t = false := by
          cases hb : Nat.beq s t with
          | false => rfl
          | true => exact absurd hb hst
        have hne : s ≠ t := fun e => by subst e; simp at hst
        simp only [tget, hb, cond_false]
        exact ⟨fun h => i1 ((List.mem_cons.1 h).resolve_left fun e => hne e.symm), fun h => i2 (by simp at h; exact h.2)⟩
    · rename_i hn
      obtain ⟨i1, i2⟩ := ih hc t
      refine ⟨fun h => ?_, fun h => i2 (by simp at h; exact h.2)⟩
      by_cases hr : t ∈ r
      · exact i1 hr
      · rw [i2 hr]

/-- The operands that must be there: of a choice the condition alone. -/
def slotsU : Op → List Nat
  | .pick (.tmp c) _ _ => [c]
  | .pick _ _ _ => []
  | op => slotsOf op

/-- One operation: what is asked, its value, the rows that it lays. -/
def tbase (τ : TT) (F : TF A) (H : TH A) (op : Op) : Option (List Prop × TV A × List (Nat × Option (TRow A))) :=
  match strip true F (slotsU op) with
  | (sc, F') => match tval R τ F' H op with
    | some (cs, v) => some (sc ++ cs, v, [])
    | none => match teff R τ F' H H.length op with
      | some (cs, v, ws) => some (sc ++ cs, v, ws)
      | none => none

def tguard (τ : TT) (g : Bool) (F : TF A) (H : TH A) (op : Op) : Option (List Prop × TV A × List (Nat × Option (TRow A))) :=
  match strip g F (slotsU op) with
  | (sc, F') => match tval R τ F' H op with
    | some (cs, v) => some (sc ++ cs.map (fun p => g = true → p), .opt g v, [])
    | none => none

def tone (τ : TT) (s : SO) (F : TF A) (H : TH A) : Option (List Prop × TV A × List (Nat × Option (TRow A))) :=
  match s.g with
  | none => tbase R τ F H s.op
  | some (t, want) => match tget F t with
    | .und => some ([], .und, [])
    | .bool b => tguard R τ (cond want b (!b)) F H s.op
    | .opt g0 (.bool b) => tguard R τ (g0 && cond want b (!b)) F H s.op
    | _ => none

theorem strip_slots (g : Bool) (F : TF A) (hg : g = true) {op : Op} (hc : Conj (strip g F (slotsU op)).1) : ∀ t ∈ slotsOf op, fget (embF R (strip g F (slotsU op)).2) t = fget (embF R F) t := by
  intro t ht
  rw [fget_embF, fget_embF]
  obtain ⟨h1, h2⟩ := strip_ok R g F hg _ hc t
  by_cases hm : t ∈ slotsU op
  · exact h1 hm
  · rw [h2 hm]

theorem Conj.imp {g : Prop} (hg : g) : ∀ {cs : List Prop}, Conj (cs.map (fun p => g → p)) → Conj cs
  | [], _ => trivial
  | _ :: _, h => ⟨h.1 hg, Conj.imp hg h.2⟩

/-- What one operation comes to. -/
def OneOk (τ : TT) (s : SO) (F : TF A) (H : TH A) (x : TV A) (ws : List (Nat × Option (TRow A))) : Prop :=
  (ws = [] ∧ ((wantS s.g (embF R F) = some true ∧ valP τ (embF R F) (embH R H) s.op = some (emb R x)) ∨ (wantS s.g (embF R F) = some false ∧ emb R x = .und))) ∨
  (wantS s.g (embF R F) = some true ∧ s.g = none ∧ effOp τ (embF R F) (embH R H) H.length s.op = some (emb R x, embW R ws))

theorem tone_ok (hR : R.Ok) {τ : TT} {s : SO} {F : TF A} {H : TH A} {cs : List Prop} {x : TV A} {ws : List (Nat × Option (TRow A))} (h : tone R τ s F H = some (cs, x, ws)) (hc : Conj cs) : OneOk R τ s F H x ws := by
  have gd : ∀ {g : Bool}, wantS s.g (embF R F) = some g → tguard R τ g F H s.op = some (cs, x, ws) → OneOk R τ s F H x ws := by
    intro g hw h
    unfold tguard at h
    generalize hs : strip g F (slotsU s.op) = q at h
    obtain ⟨sc, F'⟩ := q
    simp only at h
    split at h
    · rename_i cs' v hv
      simp only [Option.some.injEq, Prod.mk.injEq] at h
      obtain ⟨rfl, rfl, rfl⟩ := h
      obtain ⟨c1, c2⟩ := Conj.app hc
      refine .inl ⟨rfl, ?_⟩
      cases g with
      | false => exact .inr ⟨hw, rfl⟩
      | true =>
        refine .inl ⟨hw, ?_⟩
        have h1 := tval_ok hR hv (Conj.imp rfl c2)
        have h2 := strip_slots R true F rfl (op := s.op) (by rw [hs]; exact c1)
        rw [hs] at h2
        have h3 := valP_congr (τ := τ) (F := embF R F') (F' := embF R F) (H := embH R H) (H' := embH R H) (op := s.op) (fun t ht => (h2 t ht).symm) (fun _ _ => rfl)
        rw [h3, h1]; rfl
    · cases h
  unfold tone at h
  split at h
  · rename_i hg
    have hw : wantS s.g (embF R F) = some true := by rw [hg]; rfl
    unfold tbase at h
    generalize hs : strip true F (slotsU s.op) = q at h
    obtain ⟨sc, F'⟩ := q
    simp only at h
    split at h
    · rename_i cs' v hv
      simp only [Option.some.injEq, Prod.mk.injEq] at h
      obtain ⟨rfl, rfl, rfl⟩ := h
      obtain ⟨c1, c2⟩ := Conj.app hc
      have h2 := strip_slots R true F rfl (op := s.op) (by rw [hs]; exact c1)
      rw [hs] at h2
      have h3 := valP_congr (τ := τ) (F := embF R F') (F' := embF R F) (H := embH R H) (H' := embH R H) (op := s.op) (fun t ht => (h2 t ht).symm) (fun _ _ => rfl)
      exact .inl ⟨rfl, .inl ⟨hw, by rw [h3]; exact tval_ok hR hv c2⟩⟩
    · split at h
      · rename_i cs' v ws' hv
        simp only [Option.some.injEq, Prod.mk.injEq] at h
        obtain ⟨rfl, rfl, rfl⟩ := h
        obtain ⟨c1, c2⟩ := Conj.app hc
        have h2 := strip_slots R true F rfl (op := s.op) (by rw [hs]; exact c1)
        rw [hs] at h2
        have h3 := eff_congr (τ := τ) (F := embF R F') (F' := embF R F) (H := embH R H) (H' := embH R H) (n := H.length) (op := s.op) (evalO_congr fun t ht => (h2 t ht).symm) (fun _ _ => rfl)
        exact .inr ⟨hw, hg, by rw [h3]; exact teff_ok R hR hv c2⟩
      · cases h
  · rename_i t want hg
    split at h
    · rename_i e
      simp only [Option.some.injEq, Prod.mk.injEq] at h
      obtain ⟨_, rfl, rfl⟩ := h
      exact .inl ⟨rfl, .inr ⟨by rw [hg]; simp [wantS, fget_embF, e, emb], rfl⟩⟩
    · rename_i b e
      exact gd (by rw [hg]; simp only [wantS, fget_embF, e, emb]; cases b <;> cases want <;> rfl) h
    · rename_i g0 b e
      exact gd (by rw [hg]; simp only [wantS, fget_embF, e, emb]; cases g0 <;> cases b <;> cases want <;> rfl) h
    · cases h

end

/-! ### In the order of the text -/
section
variable {A : Nat → Type} {R : Reg A} {P : Program} {N : Dim}

/-- What is to be shown of a list of operations. -/
def TOps (R : Reg A) (P : Program) (N : Dim) (l : List SO) (Q : TF A → TH A → Prop) (F : TF A) (H : TH A) : Prop :=
  OpsW P N l (fun F' H' => ∃ G X, Q G X ∧ F' = embF R G ∧ H' = embH R X) (embF R F) (embH R H)

theorem TOps.nil {Q : TF A → TH A → Prop} {F : TF A} {H : TH A} (h : Q F H) : TOps R P N [] Q F H := OpsW.nil ⟨F, H, h, rfl, rfl⟩

theorem stepOp_val {op : Op} {F : Fr} {H : Hp} {x : LV} {K : LV → Fr → Hp → Prop} (h : valP (ttOf P) F H op = some x) (k : K x F H) : stepOp P op K F H := by
  unfold valP at h
  unfold stepOp
  split at h
  · rename_i y hy
    obtain rfl := Option.some.inj h
    rw [hy]; exact k
  · rename_i hy
    rw [hy, h]; exact k

theorem eff_kind {τ : TT} {F : Fr} {H H2 : Hp} {n : Nat} {op : Op} {r : LV × List (Nat × Option (List LV))} (h : effOp τ F H n op = some r) : pureOp τ F op = none ∧ loadOp τ F H2 op = none := by
  cases op with
  | alloc t => exact ⟨rfl, rfl⟩
  | box t x => exact ⟨rfl, rfl⟩
  | buildSlice t len ps => exact ⟨rfl, rfl⟩
  | makeSlice t l c => exact ⟨rfl, rfl⟩
  | store t x y => exact ⟨rfl, rfl⟩
  | call c =>
    obtain ⟨callee, args, tys⟩ := c
    cases callee with
    | builtin b => cases b <;> first | exact ⟨rfl, rfl⟩ | cases h
    | _ => cases h
  | _ => cases h

theorem stepOp_eff {op : Op} {F : Fr} {H : Hp} {x : LV} {ws : List (Nat × Option (List LV))} {K : LV → Fr → Hp → Prop} (h : effOp (ttOf P) F (more op H) H.length op = some (x, ws)) (k : K x F (applyWs (more op H) ws)) : stepOp P op K F H := by
  obtain ⟨h1, h2⟩ := eff_kind (H2 := H) h
  unfold stepOp
  rw [h1, h2]
  unfold effN
  rw [h]
  exact k

/-- The rows that are looked at are there: one more makes no difference. -/
theorem eff_more {τ : TT} {F : Fr} {H : Hp} {n : Nat} {op : Op} {r : LV × List (Nat × Option (List LV))} (h : effOp τ F H n op = some r) : effOp τ F (more op H) n op = some r := by
  unfold more
  split
  · rename_i hm
    have rowm : ∀ {k : Nat} {cs : List LV}, row H k = some cs → row (H ++ [none]) k = some cs := by
      intro k cs hk
      unfold row at *
      split at hk
      · rename_i c hc
        rw [List.getElem?_append_left (lt_row hc), hc]; exact hk
      · cases hk
    have srcm : ∀ {esz : Nat} {x : LV} {p : Nat × List LV}, srcCells H esz x = some p → srcCells (H ++ [none]) esz x = some p := by
      intro esz x p hp
      cases x with
      | sl sz k o m =>
        simp only [srcCells] at hp ⊢
        split at hp
        · rename_i e
          rw [if_pos e]
          split at hp
          · rename_i cs hcs; rw [rowm hcs]; exact hp
          · cases hp
        · cases hp
      | _ => exact hp
    cases op with
    | alloc t => exact h
    | box t x => exact h
    | buildSlice t len ps => exact h
    | makeSlice t l c => exact h
    | call c =>
      obtain ⟨callee, args, tys⟩ := c
      cases callee with
      | builtin b =>
        cases b with
        | append =>
          simp only [effOp] at h ⊢
          split at h
          · rename_i t u x y h1 h2 h3 h4
            split at h
            · rename_i esz eb ez _ _ _ ud _ _ _ g1 g2
              split at h
              · cases h
              · split at h
                · rename_i n' xs hs hx
                  rw [srcm hs, hx]; exact h
                · rename_i n' xs sz k o m hs hx
                  split at h
                  · rename_i cs hcs
                    rw [srcm hs, hx]
                    simp only [rowm hcs]
                    exact h
                  · cases h
                · cases h
            · cases h
          · cases h
        | _ => simp [makes] at hm
      | _ => simp [makes] at hm
    | _ => simp [makes] at hm
  · exact h

theorem TOps.one (hR : R.Ok) {τ : TT} (hτ : τ = ttOf P) {s : SO} {r : List SO} {Q : TF A → TH A → Prop} {F : TF A} {H : TH A} {cs : List Prop} {x : TV A} {ws : List (Nat × Option (TRow A))}
    (h : tone R τ s F H = some (cs, x, ws)) (hc : Conj cs) (k : TOps R P N r Q (tlput s.dst x F) (tapply (cond (Nat.beq ws.length 0) H (tmore s.op H)) ws)) : TOps R P N (s :: r) Q F H := by
  subst hτ
  unfold TOps at k ⊢
  rw [tlput_emb, tapply_emb] at k
  rcases tone_ok R hR h hc with ⟨rfl, ⟨hw, hv⟩ | ⟨hw, hv⟩⟩ | ⟨hw, hg, hv⟩
  · exact .step hw (stepOp_val hv k)
  · rw [hv] at k
    exact .skip hw k
  · refine .step hw (stepOp_eff (x := emb R x) (ws := embW R ws) (by rw [embH_length]; exact eff_more hv) ?_)
    cases hl : Nat.beq ws.length 0 with
    | false => rw [hl] at k; simp only [cond_false] at k; rw [tmore_emb] at k; exact k
    | true =>
      rw [hl] at k
      have : ws = [] := List.eq_nil_of_length_eq_zero (Nat.eq_of_beq_eq_true hl)
      subst this
      exfalso
      -- an operation that lays nothing is none of these
      cases hop : s.op <;> rw [hop] at hv
      all_goals first
        | (simp only [effOp] at hv; (repeat' split at hv) <;> simp [embW] at hv; done)
        | cases hv

/-- The operations up to the first that is not one of these. -/
def trun (R : Reg A) (τ : TT) : List SO → TF A → TH A → List Prop → List Prop × List SO × TF A × TH A
  | [], F, H, acc => (acc, [], F, H)
  | s :: r, F, H, acc => match tone R τ s F H with
    | some (cs, x, ws) => trun R τ r (tlput s.dst x F) (tapply (cond (Nat.beq ws.length 0) H (tmore s.op H)) ws) (acc ++ cs)
    | none => (acc, s :: r, F, H)

theorem trun_ok (hR : R.Ok) {τ : TT} (hτ : τ = ttOf P) {Q : TF A → TH A → Prop} : ∀ (l : List SO) (F F' : TF A) (H H' : TH A) (acc cs : List Prop) (rest : List SO), trun R τ l F H acc = (cs, rest, F', H') → Conj cs → TOps R P N rest Q F' H' → Conj acc ∧ TOps R P N l Q F H := by
  intro l
  induction l with
  | nil =>
    intro F F' H H' acc cs rest h hc k
    simp only [trun, Prod.mk.injEq] at h
    obtain ⟨rfl, rfl, rfl, rfl⟩ := h
    exact ⟨hc, k⟩
  | cons s r ih =>
    intro F F' H H' acc cs rest h hc k
    simp only [trun] at h
    split at h
    · rename_i c x ws h1
      obtain ⟨c1, c2⟩ := ih _ _ _ _ _ _ _ h hc k
      obtain ⟨c3, c4⟩ := Conj.app c1
      exact ⟨c3, .one hR hτ h1 c4 c2⟩
    · simp only [Prod.mk.injEq] at h
      obtain ⟨rfl, rfl, rfl, rfl⟩ := h
      exact ⟨hc, k⟩

theorem TOps.run (hR : R.Ok) {τ : TT} (hτ : τ = ttOf P) {Q : TF A → TH A → Prop} {l rest : List SO} {F F' : TF A} {H H' : TH A} {cs : List Prop} (h : trun R τ l F H [] = (cs, rest, F', H')) (hc : Conj cs) (k : TOps R P N rest Q F' H') : TOps R P N l Q F H :=
  (trun_ok hR hτ l F F' H H' [] cs rest h hc k).2

end
end Go.Lite
