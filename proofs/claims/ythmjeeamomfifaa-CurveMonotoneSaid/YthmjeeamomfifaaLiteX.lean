/- Lite, part X: what the operations of a region that draws its order do. -/
import Derived.Test.YthmjeeamomfifaaLiteW
namespace Go.Lite
open Go Go.RowKit
set_option linter.unusedVariables false

/-- A value that is computed or read. -/
def valP (τ : TT) (F : Fr) (H : Hp) (op : Op) : Option LV :=
  match pureOp τ F op with
  | some x => some x
  | none => loadOp τ F H op

def isLoad : Op → Bool
  | .load _ _ => true
  | _ => false

/-- The rows that such an operation looks at. -/
def valRows (F : Fr) (op : Op) : List Nat := if isLoad op then lookRows F op else []

section
variable {P : Program} {F : Fr} {H : Hp} {s : SO}

theorem wantS_congr {g : Option (Nat × Bool)} {F F' : Fr} (h : ∀ t ∈ guardSlot g, fget F' t = fget F t) : wantS g F' = wantS g F := by
  unfold wantS
  rcases g with _ | ⟨t, b⟩
  · rfl
  · simp only
    rw [h t (by simp [guardSlot])]

theorem valP_congr {τ : TT} {F' : Fr} {H' : Hp} {op : Op} (h : ∀ t ∈ slotsOf op, fget F' t = fget F t) (hr : ∀ r ∈ valRows F op, H'[r]? = H[r]?) : valP τ F' H' op = valP τ F H op := by
  have ho := evalO_congr h
  unfold valP
  rw [pure_congr ho]
  split
  · rfl
  · cases hop : isLoad op with
    | true => exact load_congr ho (by intro r hr'; exact hr r (by rw [valRows, if_pos hop]; exact hr'))
    | false => cases op <;> first | rfl | (simp [isLoad] at hop)

theorem val_run {cx : Ctx} {N : Dim} {ι : Pl} {per : Nat → Prop} {a : Act} {w : World} (hst : ST cx N ι per F H a w) {o : Oper} {x : LV} (h : valP (ttOf P) F H o.op = some x) :
    ∃ u, (execOp a.eval o).run P w = .ok (.value u) w ∧ VR w per ι x u := by
  unfold valP at h
  split at h
  · rename_i y hy
    obtain rfl := Option.some.inj h
    obtain ⟨u, hu, hr⟩ := pure_sound (P := P) hst.fr hy
    exact ⟨u, hu w, hr⟩
  · obtain ⟨u, hu, hr⟩ := load_sound (P := P) hst h
    exact ⟨u, hu w (Ext.refl w), hr⟩

theorem SFact.val {x : LV} (hg : wantS s.g F = some true) (hx : valP (ttOf P) F H s.op = some x) : SFact P s F H ⟨s.dst, x, [], guardSlot s.g ++ slotsOf s.op, valRows F s.op, []⟩ := by
  refine ⟨rfl, fun ops o h1 h2 h3 cx N ι per G X a w hst hls hrs hnw K Q hK => ?_⟩
  have hw : Region.wanted o (yielded ops a.tmps) = true := wanted_sound hst (by rw [h3, wantS_congr fun t ht => hls t (by simp [ht])]; exact hg)
  rw [if_pos hw]
  have hv : valP (ttOf P) G X o.op = some x := by
    rw [h2, valP_congr (F := F) (H := H) (fun t ht => hls t (by simp [ht])) hrs]; exact hx
  obtain ⟨u, hu, hr⟩ := val_run hst hv
  unfold Oper.wp
  rw [hu]
  exact hK ι per u w hst hr (fun _ _ => rfl)

theorem SFact.skip (hg : wantS s.g F = some false) : SFact P s F H ⟨s.dst, .und, [], guardSlot s.g, [], []⟩ := by
  refine ⟨rfl, fun ops o h1 h2 h3 cx N ι per G X a w hst hls hrs hnw K Q hK => ?_⟩
  have hw : Region.wanted o (yielded ops a.tmps) = false := wanted_sound hst (by rw [h3, wantS_congr fun t ht => hls t (by simpa using ht)]; exact hg)
  rw [if_neg (by rw [hw]; simp)]
  exact hK ι per undef w hst .und (fun _ _ => rfl)

/-- An operation that may come up or not. -/
theorem SFact.maybe {x : LV} {g : Bool} (hg : wantS s.g F = some g) (hx : g = true → valP (ttOf P) F H s.op = some x) : SFact P s F H ⟨s.dst, cond g x .und, [], guardSlot s.g ++ slotsOf s.op, valRows F s.op, []⟩ := by
  cases g with
  | true => exact .val hg (hx rfl)
  | false =>
    obtain ⟨_, h⟩ := SFact.skip (P := P) (H := H) hg
    refine ⟨rfl, fun ops o h1 h2 h3 cx N ι per G X a w hst hls hrs hnw K Q hK => ?_⟩
    exact h ops o h1 h2 h3 cx N ι per G X a w hst (fun t ht => hls t (by simp only [List.mem_append]; exact .inl ht)) (fun _ h => by simp at h) (fun _ h => by simp at h) K Q hK

theorem SFact.eff {x : LV} {ws : List (Nat × Option (List LV))} (hg : wantS s.g F = some true) (hx : effOp (ttOf P) F H H.length s.op = some (x, ws)) :
    SFact P s F H ⟨s.dst, x, ws, guardSlot s.g ++ slotsOf s.op, lookRows F s.op, if makes s.op then [H.length] else []⟩ := by
  refine ⟨rfl, fun ops o h1 h2 h3 cx N ι per G X a w hst hls hrs hnw K Q hK => ?_⟩
  have hw : Region.wanted o (yielded ops a.tmps) = true := wanted_sound hst (by rw [h3, wantS_congr fun t ht => hls t (by simp [ht])]; exact hg)
  rw [if_pos hw]
  have hv : effOp (ttOf P) G X H.length o.op = some (x, ws) := by
    rw [h2, eff_congr (F := F) (H := H) (evalO_congr fun t ht => hls t (by simp [ht])) hrs]; exact hx
  have main : ∃ u w' ι', ((execOp a.eval o).run P w = .ok (.value u) w' ∨ ((execOp a.eval o).run P w = .ok .skip w' ∧ u = undef)) ∧ ST cx N ι' per G (applyWs X ws) a w' ∧ VR w' per ι' x u ∧
      ∀ h, h ∉ (if makes s.op then [H.length] else []) → ι'[h]? = ι[h]? := by
    by_cases hm : makes s.op = true
    · obtain ⟨u, w', ι', hu, hst', hr, _, hoth⟩ := eff_sound (P := P) hst (nn := H.length) (o := o) (fun _ => hnw _ (by rw [if_pos hm]; simp)) hv
      exact ⟨u, w', ι', hu, hst', hr, fun h hh => hoth h (by rw [if_pos hm] at hh; simpa using hh)⟩
    · have hv2 : effOp (ttOf P) G X ι.length o.op = some (x, ws) := by
        rw [← hv]
        rw [h2]
        cases hop : s.op <;> simp only [hop, makes, not_true_eq_false] at hm <;> try rfl
        rename_i c
        obtain ⟨callee, args, tys⟩ := c
        cases callee with
        | builtin b => cases b <;> first | rfl | (simp [makes] at hm)
        | _ => rfl
      obtain ⟨u, w', ι', hu, hst', hr, _, hoth⟩ := eff_sound (P := P) hst (nn := ι.length) (o := o) (fun e => absurd (by rw [← h2]; exact e) hm) hv2
      refine ⟨u, w', ι', hu, hst', hr, fun h _ => ?_⟩
      by_cases e : h = ι.length
      · subst e
        rw [List.getElem?_eq_none (Nat.le_refl _), List.getElem?_eq_none]
        rw [hst'.rep.len, applyWs_length, hst.rep.len]
        exact Nat.le_refl _
      · exact hoth h e
  obtain ⟨u, w', ι', hu, hst', hr, hι⟩ := main
  unfold Oper.wp
  rcases hu with hu | ⟨hu, rfl⟩
  · rw [hu]; exact hK ι' per u w' hst' hr hι
  · rw [hu]; exact hK ι' per undef w' hst' hr hι

end

/-! ### Calls -/
mutual
/-- A value that says all of itself. -/
def rigid : LV → Bool
  | .bool _ | .int _ _ | .str _ | .nilp | .nils | .nilf | .und => true
  | .tup cs => rigidL cs
  | .agg cs => rigidL cs
  | _ => false
def rigidL : List LV → Bool
  | [] => true
  | c :: r => rigid c && rigidL r
end

theorem rigidL_get {cs : List LV} (h : rigidL cs = true) : ∀ i (hi : i < cs.length), rigid cs[i] = true := by
  induction cs with
  | nil => intro i hi; simp at hi
  | cons c r ih =>
    simp only [rigidL, Bool.and_eq_true] at h
    intro i hi
    cases i with
    | zero => exact h.1
    | succ i => exact ih h.2 i (by simpa using hi)

theorem VR.rigid {w w' : World} {per per' : Nat → Prop} {ι ι' : Pl} {x : LV} {v : Value} (h : VR w per ι x v) : Lite.rigid x = true → VR w' per' ι' x v := by
  induction h with
  | dead v => intro h; simp [Lite.rigid] at h
  | und => intro _; exact .und
  | bool b => intro _; exact .bool b
  | int k n => intro _; exact .int k n
  | str s => intro _; exact .str s
  | nilp => intro _; exact .nilp
  | ptr hi => intro h; simp [Lite.rigid] at h
  | pp vs h1 h2 h3 _ => intro h; simp [Lite.rigid] at h
  | nils => intro _; exact .nils
  | sl h1 h2 h3 => intro h; simp [Lite.rigid] at h
  | slz => intro h; simp [Lite.rigid] at h
  | psz => intro h; simp [Lite.rigid] at h
  | ps vs h1 h2 h3 h4 h5 _ => intro h; simp [Lite.rigid] at h
  | nilf => intro _; exact .nilf
  | fn hn hv ih => intro h; simp [Lite.rigid] at h
  | agg hn hv ih => intro h; exact .agg hn fun i hi => ih i hi (rigidL_get (by simpa [Lite.rigid] using h) i hi)
  | tup hn hv ih => intro h; exact .tup hn fun i hi => ih i hi (rigidL_get (by simpa [Lite.rigid] using h) i hi)

/-- Worlds in which all that was there is as it was. -/
theorem ST.later {cx : Ctx} {N : Dim} {ι : Pl} {per : Nat → Prop} {F : Fr} {H : Hp} {a : Act} {w w' : World} (hst : ST cx N ι per F H a w) (h : Below w.heap.size w w') : ST cx N ι per F H a w' := by
  have hk : ∀ kp : Nat → Prop, (∀ b, kp b → b < w.heap.size) → Kept kp w w' := fun kp hk => .of_below h hk
  have hs : Step per w w' := (hk per hst.rep.perlt).step
  refine ⟨⟨hst.rep.len, fun b hb => Nat.lt_of_lt_of_le (hst.rep.perlt b hb) h.size, fun k ds hk => ?_, hst.rep.inj⟩, hst.p1, hst.p2, hst.fr.step hs (fun _ _ h => h), hst.size, hst.defers,
    hst.below.trans (hk _ hst.bs), fun b hb => Nat.lt_of_lt_of_le (hst.bs b hb) h.size, hst.grow⟩
  rcases hst.rep.live k ds hk with h1 | ⟨b, o, c, e, h1, h2, h3, h4, h5, h6⟩
  · exact .inl h1
  · exact .inr ⟨b, o, c, e, h1, h2, h3, by rw [h.block _ (lt_of_get h4)]; exact h4, h5, fun i hi => (h6 i hi).step hs (fun _ h => h) (fun _ _ h => h)⟩

/-- The rows that a reader reaches. -/
def reach (H : Hp) : Nat → LV → List Nat
  | 0, _ => []
  | k + 1, x => match x with
    | .sl _ h _ _ => h :: (match row H h with | some cs => if hfreeL cs then [] else cs.flatMap (reach H k) | none => [])
    | .agg cs => if hfreeL cs then [] else cs.flatMap (reach H k)
    | .fn _ cs => if hfreeL cs then [] else cs.flatMap (reach H k)
    | _ => []

theorem snap_congr {H H' : Hp} : ∀ (k : Nat) (x : LV), (∀ r ∈ reach H k x, H'[r]? = H[r]?) → snap H' k x = snap H k x := by
  intro k
  induction k with
  | zero => intro x _; rfl
  | succ k ih =>
    have ihL : ∀ (cs : List LV), (∀ r ∈ (if hfreeL cs then [] else cs.flatMap (reach H k)), H'[r]? = H[r]?) → snL (snap H' k) cs = snL (snap H k) cs := by
      intro cs h
      unfold snL
      split
      · rfl
      · rename_i hf
        rw [if_neg hf] at h
        exact List.map_congr_left fun c hc => ih c fun r hr => h r (List.mem_flatMap.2 ⟨c, hc, hr⟩)
    intro x h
    cases x with
    | sl sz r o n =>
      simp only [snap]
      have h0 := h r (by simp [reach])
      rw [row_congr h0]
      cases hrow : row H r with
      | none => rfl
      | some cs =>
        simp only [reach, hrow] at h
        simp only
        split
        · congr 1
          -- the part that is seen: its cells are among the row's
          unfold snL
          by_cases hf : hfreeL cs = true
          · have : hfreeL ((cs.drop o).take (n * sz)) = true := by
              have gen : ∀ (l : List LV), (∀ c ∈ l, hfree c = true) → hfreeL l = true := by
                intro l
                induction l with
                | nil => intro _; rfl
                | cons c r ih => intro h; simp only [hfreeL, Bool.and_eq_true]; exact ⟨h c (by simp), ih fun d hd => h d (by simp [hd])⟩
              refine gen _ fun c hc => ?_
              have hc2 := List.mem_of_mem_drop (List.mem_of_mem_take hc)
              obtain ⟨i, hi, rfl⟩ := List.getElem_of_mem hc2
              exact hfreeL_get hf i hi
            rw [if_pos this, if_pos this]
          · rw [if_neg hf] at h
            split
            · rfl
            · refine List.map_congr_left fun c hc => ih c fun r' hr => h r' ?_
              have hc2 := List.mem_of_mem_drop (List.mem_of_mem_take hc)
              exact List.mem_cons_of_mem _ (List.mem_flatMap.2 ⟨c, hc2, hr⟩)
        · rfl
    | agg cs => simp only [snap]; rw [ihL cs (by simpa only [reach] using h)]
    | fn f cs => simp only [snap]; rw [ihL cs (by simpa only [reach] using h)]
    | _ => rfl

section
variable {P : Program} {F : Fr} {H : Hp} {s : SO}

theorem enter_run {cx : Ctx} {N : Dim} {ι : Pl} {per : Nat → Prop} {a : Act} {w : World} {F : Fr} {H : Hp} (hst : ST cx N ι per F H a w) {o : Oper} {g : Operand} {args : Array Operand} {tys : Array TypeId} {f : Nat} {cap : List LV}
    (hop : o.op = .call ⟨.value g, args, tys⟩) (hg : evalO F g = .fn f cap) (hc : callable P f = true) : ∃ vs, VL w ι per (args.toList.map (evalO F) ++ cap) vs ∧ (execOp a.eval o).run P w = .ok (.enter f vs.toArray) w := by
  have hgv := hst.fr.eval g
  rw [hg] at hgv
  generalize hgg : a.eval g = gv at hgv
  cases hgv with
  | @fn _ _ _ vs hn hv =>
    refine ⟨args.toList.map a.eval ++ vs, (evalL hst.fr args.toList).append ⟨hn, hv⟩, ?_⟩
    obtain ⟨dst, op, ty, pos, after, guard⟩ := o
    simp only at hop
    subst hop
    simp only [execOp, resolve, hgg, Deferred.ofValue, Sem.run_bind, Sem.run_pure, Result.andThen_ok, invoke]
    have e : (#[] ++ args.map a.eval ++ vs.toArray : Array Value) = (args.toList.map a.eval ++ vs).toArray := by apply Array.ext'; simp
    rw [e]
    exact callFunc_enter hc _

/-- A callee that only reads and hands back a value that says all of itself. -/
theorem SFact.quiet {g : Operand} {args : Array Operand} {tys : Array TypeId} {f : Nat} {cap : List LV} {x : LV} {R : LV → Hp → Prop} (hw : wantS s.g F = some true) (hop : s.op = .call ⟨.value g, args, tys⟩) (hg : evalO F g = .fn f cap)
    (hc : LC P f ((args.toList.map (evalO F) ++ cap).map (snap H 3)) [] R) (hR : ∀ y G, R y G → y = x) (hx : rigid x = true) :
    SFact P s F H ⟨s.dst, x, [], guardSlot s.g ++ slotsOf s.op, (args.toList.map (evalO F) ++ cap).flatMap (reach H 3), []⟩ := by
  refine ⟨rfl, fun ops o h1 h2 h3 cx N ι per G X a w hst hls hrs hnw K Q hK => ?_⟩
  have hwt : Region.wanted o (yielded ops a.tmps) = true := wanted_sound hst (by rw [h3, wantS_congr fun t ht => hls t (by simp [ht])]; exact hw)
  rw [if_pos hwt]
  have ho := evalO_congr (F := G) (F' := F) (op := s.op) fun t ht => hls t (by simp [ht])
  have hg' : evalO G g = .fn f cap := by rw [ho g (by rw [hop]; simp [Op.operands, Call.operands])]; exact hg
  have ha : args.toList.map (evalO G) = args.toList.map (evalO F) := List.map_congr_left fun y hy => ho y (by rw [hop]; simp [Op.operands, Call.operands]; exact .inr (by simpa using hy))
  obtain ⟨vs, hvl, hrun⟩ := enter_run hst (o := o) (h2.trans hop) hg' hc.1
  rw [ha] at hvl
  have hsn : VL w [] (allOf w) ((args.toList.map (evalO F) ++ cap).map (snap H 3)) vs := by
    refine ⟨by simpa using hvl.1, fun i hi => ?_⟩
    rw [List.getElem_map]
    have hi2 : i < (args.toList.map (evalO F) ++ cap).length := by simpa using hi
    have := snap_sound hst 3 _ _ (hvl.2 i hi2)
    rwa [snap_congr (H := H) (H' := X) 3 _ fun r hr => hrs r (List.mem_flatMap.2 ⟨_, List.getElem_mem hi2, hr⟩)] at this
  unfold Oper.wp
  rw [hrun, Oper.upon_enter]
  refine (hc.2 (fun b => b < w.heap.size) (allOf w) [] w vs (Rep.nil _ _ _ fun b hb => hb) (fun b hb => hb) (fun b hb => hb) hsn).mono fun e w' ⟨v, res, G1, ι1, per1, he, hr, hkept, _, hv, _⟩ => ?_
  subst he
  have := hR _ _ hr
  subst this
  exact hK ι per v w' (hst.later hkept.below) (hv.rigid hx) (fun _ _ => rfl)

end
end Go.Lite
