/- Lite, part W: a region that draws its order, walked in the order of the text. -/
import Derived.Test.YthmjeeamomfifaaLiteQ
namespace Go.Lite
open Go Go.RowKit
set_option linter.unusedVariables false

theorem DFact.mono {P : Program} {ops : Array Oper} {o : Oper} {F F2 : Fr} {H H2 : Hp} {c : DA} (h : DFact P ops o F H c) (hF : ∀ t ∈ c.ls, fget F2 t = fget F t) (hH : ∀ r ∈ c.rs, H2[r]? = H[r]?) : DFact P ops o F2 H2 c :=
  fun cx N ι per G X a w hst hls hrs hnw => h cx N ι per G X a w hst (fun t ht => (hls t ht).trans (hF t ht)) (fun r hr => (hrs r hr).trans (hH r hr)) hnw

/-- The same, said of an operation in few words. -/
def SFact (P : Program) (s : SO) (F : Fr) (H : Hp) (c : DA) : Prop :=
  c.d = s.dst ∧ ∀ (ops : Array Oper) (o : Oper), o.dst = s.dst → o.op = s.op → (∀ F, wantedL ops o F = wantS s.g F) → DFact P ops o F H c

/-- The operations one behind the other; each may make rows, whose numbers follow those that there are. -/
inductive Chain (P : Program) : List SO → Fr → Hp → List DA → Fr → Hp → Prop where
  | nil {F : Fr} {H : Hp} : Chain P [] F H [] F H
  | cons {s : SO} {r : List SO} {F F' : Fr} {H H' : Hp} {c : DA} {cs : List DA} (e : Nat) (h : SFact P s F H c) (hr : ∀ x ∈ c.rs, x < H.length) (hk : ∀ x ∈ c.keys, x < H.length + e)
      (hn : ∀ x ∈ c.nw, H.length ≤ x ∧ x < H.length + e) (k : Chain P r (lput s.dst c.x F) (applyWs (H ++ List.replicate e none) c.ws) cs F' H') : Chain P (s :: r) F H (c :: cs) F' H'

theorem fD_shift (D : Nat → Bool) : ∀ (cs : List DA) (k : Nat) (F : Fr), fD D (k + 1) cs F = fD (fun i => D (i + 1)) k cs F := by
  intro cs
  induction cs with
  | nil => intro k F; rfl
  | cons c r ih => intro k F; simp only [fD]; rw [ih (k + 1)]
theorem hD_shift (D : Nat → Bool) : ∀ (cs : List DA) (k : Nat) (H : Hp), hD D (k + 1) cs H = hD (fun i => D (i + 1)) k cs H := by
  intro cs
  induction cs with
  | nil => intro k F; rfl
  | cons c r ih => intro k F; simp only [hD]; rw [ih (k + 1)]

theorem applyWs_append : ∀ (ws : List (Nat × Option (List LV))) (H X : Hp), (∀ x ∈ ws.map (·.1), x < H.length) → applyWs (H ++ X) ws = applyWs H ws ++ X := by
  intro ws
  induction ws with
  | nil => intro H X _; rfl
  | cons p r ih =>
    intro H X h
    obtain ⟨k, x⟩ := p
    simp only [List.map_cons, List.mem_cons, forall_eq_or_imp] at h
    simp only [applyWs]
    rw [List.set_append_left _ _ h.1, ih _ _ (by simpa using h.2)]

theorem Chain.len {P : Program} {l : List SO} {F F' : Fr} {H H' : Hp} {cs : List DA} (h : Chain P l F H cs F' H') : H.length ≤ H'.length ∧ cs.length = l.length := by
  induction h with
  | nil => exact ⟨Nat.le_refl _, rfl⟩
  | cons e h hr hk hn k ih => rw [applyWs_length] at ih; simp at ih; refine ⟨by omega, by simp [ih.2]⟩

theorem Chain.facts {P : Program} {l : List SO} {F F' : Fr} {H H' : Hp} {cs : List DA} (h : Chain P l F H cs F' H') :
    (∀ (j : Nat) (s : SO) (c : DA), l[j]? = some s → cs[j]? = some c → SFact P s (fD (fun i => decide (i < j)) 0 cs F) (hD (fun i => decide (i < j)) 0 cs (H ++ List.replicate (H'.length - H.length) none)) c) ∧
    F' = fD (fun _ => true) 0 cs F ∧ H' = hD (fun _ => true) 0 cs (H ++ List.replicate (H'.length - H.length) none) ∧ ∀ (j : Nat) (c : DA), cs[j]? = some c → ∀ x ∈ c.nw, H.length ≤ x ∧ x < H'.length := by
  induction h with
  | nil => exact ⟨fun j s c h => by simp at h, rfl, by simp [hD], fun j c h => by simp at h⟩
  | @cons s r F F' H H' c cs e h hr hk hn k ih =>
    obtain ⟨i1, i2, i3, i4⟩ := ih
    have hle := k.len.1
    rw [applyWs_length, List.length_append, List.length_replicate] at hle
    have hrow : applyWs (H ++ List.replicate (H'.length - H.length) none) c.ws = applyWs (H ++ List.replicate e none) c.ws ++ List.replicate (H'.length - (applyWs (H ++ List.replicate e none) c.ws).length) none := by
      rw [← applyWs_append _ _ _ (by intro x hx; rw [List.length_append, List.length_replicate]; exact hk x hx), applyWs_length, List.length_append, List.length_replicate, List.append_assoc, List.replicate_append_replicate]
      congr 3; omega
    have none0 : ∀ (cs : List DA) (k : Nat) (F : Fr), fD (fun _ => false) k cs F = F := by
      intro cs
      induction cs with
      | nil => intro k F; rfl
      | cons c r ih => intro k F; simp only [fD, Bool.false_eq_true, if_false]; exact ih _ _
    have none1 : ∀ (cs : List DA) (k : Nat) (F : Hp), hD (fun _ => false) k cs F = F := by
      intro cs
      induction cs with
      | nil => intro k F; rfl
      | cons c r ih => intro k F; simp only [hD, Bool.false_eq_true, if_false]; exact ih _ _
    refine ⟨fun j s' c' hl hc => ?_, ?_, ?_, fun j c' hc x hx => ?_⟩
    · cases j with
      | zero =>
        simp only [List.getElem?_cons_zero, Option.some.injEq] at hl hc
        subst hl hc
        have e1 : (fun i => decide (i < 0)) = fun _ : Nat => false := by funext i; simp
        rw [e1, none0, none1]
        refine ⟨h.1, fun ops o h1 h2 h3 => (h.2 ops o h1 h2 h3).mono (fun _ _ => rfl) fun x hx => ?_⟩
        rw [List.getElem?_append_left (hr x hx)]
      | succ j =>
        simp only [List.getElem?_cons_succ] at hl hc
        have := i1 j s' c' hl hc
        have e1 : (fun i => decide (i + 1 < j + 1)) = fun i => decide (i < j) := by funext i; simp
        simp only [fD, hD]
        rw [if_pos (by simp), if_pos (by simp), fD_shift, hD_shift, e1, hrow, h.1]
        exact this
    · simp only [fD, if_true]
      rw [fD_shift, h.1]
      exact i2
    · simp only [hD, if_true]
      rw [hD_shift, hrow]
      exact i3
    · cases j with
      | zero =>
        simp only [List.getElem?_cons_zero, Option.some.injEq] at hc
        subst hc
        have := hn x hx
        omega
      | succ j =>
        have := i4 j c' (by simpa using hc) x hx
        rw [applyWs_length, List.length_append, List.length_replicate] at this
        omega

theorem ST.extn {cx : Ctx} {N : Dim} {ι : Pl} {per : Nat → Prop} {F : Fr} {H : Hp} {a : Act} {w : World} (hst : ST cx N ι per F H a w) : ∀ n, ST cx N (ι ++ List.replicate n none) per F (H ++ List.replicate n none) a w := by
  intro n
  induction n with
  | zero => simpa using hst
  | succ n ih =>
    simp only [List.replicate_succ', ← List.append_assoc]
    exact ih.ext1.1

theorem slimOps_get {ops : Array Oper} : ∀ {l0 : List Oper} {l : List SO}, slimOps ops l0 = some l → l.length = l0.length ∧ ∀ (j : Nat) (s : SO) (o : Oper), l[j]? = some s → l0[j]? = some o → o.dst = s.dst ∧ o.op = s.op ∧ ∀ F, wantedL ops o F = wantS s.g F := by
  intro l0
  induction l0 with
  | nil => intro l h; obtain rfl := Option.some.inj h; exact ⟨rfl, fun j s o h => by simp at h⟩
  | cons o r ih =>
    intro l h
    cases l with
    | nil => have := slim_nil h; cases this
    | cons s l' =>
      obtain ⟨o', l1, e, h1, h2, h3, h4⟩ := slim_cons h
      obtain ⟨rfl, rfl⟩ := List.cons.inj e
      obtain ⟨i1, i2⟩ := ih h1
      refine ⟨by simp [i1], fun j s' o' hs ho => ?_⟩
      cases j with
      | zero =>
        simp only [List.getElem?_cons_zero, Option.some.injEq] at hs ho
        subst hs ho
        exact ⟨h2, h3, h4⟩
      | succ j => exact i2 j s' o' (by simpa using hs) (by simpa using ho)

/-- A region that draws its order. -/
theorem Lw.regd {P : Program} {N : Dim} {Q : LPost} {F F' : Fr} {H H' : Hp} {l : List SO} {af : List (List Nat)} {cs : List DA} (hm : P.follows .mixedOrders = true) (hc : Chain P l F H cs F' H') (hok : okB af cs = true)
    (hQ : Q .normal F' H') : Lw P N (.regd l af) Q F H := by
  intro c hcc
  obtain ⟨id, ops, rfl, hN, hs, rfl⟩ := slim_inv hcc
  intro cx a w hsr
  obtain ⟨ι, per, hst0⟩ := hsr.st
  refine wp_region_any hm ?_
  have hst1 : ST cx N ι per F H a { w with drawn := w.drawn + 1 } := hst0.same rfl rfl rfl rfl
  have hst := hst1.extn (H'.length - H.length)
  obtain ⟨f1, f2, f3, f4⟩ := hc.facts
  obtain ⟨g1, g2⟩ := slimOps_get hs
  have hln : cs.length = ops.size := by rw [hc.len.2, g1]; simp
  have hil := hst1.rep.len
  have so : ∀ (j : Nat) (o : Oper), ops[j]? = some o → ∃ s, l[j]? = some s ∧ o.dst = s.dst ∧ o.op = s.op ∧ ∀ F, wantedL ops o F = wantS s.g F := by
    intro j o ho
    have hj : j < l.length := by rw [g1]; have := (Array.getElem?_eq_some_iff.1 ho).1; simpa using this
    have e := List.getElem?_eq_getElem hj
    exact ⟨_, e, g2 j _ o e (by simpa using ho)⟩
  have none0 : ∀ (cs : List DA) (k : Nat) (F : Fr), fD (fun _ => false) k cs F = F := by
    intro cs
    induction cs with
    | nil => intro k F; rfl
    | cons c r ih => intro k F; simp only [fD, Bool.false_eq_true, if_false]; exact ih _ _
  have none1 : ∀ (cs : List DA) (k : Nat) (F : Hp), hD (fun _ => false) k cs F = F := by
    intro cs
    induction cs with
    | nil => intro k F; rfl
    | cons c r ih => intro k F; simp only [hD, Bool.false_eq_true, if_false]; exact ih _ _
  have ee : (fun i => (Array.replicate ops.size false).getD i false) = fun _ : Nat => false := by
    funext i
    simp only [Array.getD_eq_getD_getElem?, Array.getElem?_replicate]
    split <;> rfl
  refine wpAny_da (F0 := F) (H0 := H ++ List.replicate (H'.length - H.length) none) hln (okB_spec hok) (fun j o c ho hcj => ?_) (fun j o c ho hcj => ?_) (fun j c hcj x hx => ?_) (fun G X hG hX a w hs => ?_)
    ops.size (Array.replicate ops.size false) a _ (ι ++ List.replicate (H'.length - H.length) none) per F _ (by simp) ?_ (fun j o ho hD => ?_) (fun t => by rw [ee, none0]) (by rw [ee, none1]) (fun j c hcj _ x hx => ?_) hst
  · obtain ⟨s, k1, k2, k3, k4⟩ := so j o ho
    refine ⟨by rw [(f1 j s c k1 hcj).1, k2], fun k hk => ?_⟩
    have : o ∈ ops.toList := by
      obtain ⟨h1, rfl⟩ := Array.getElem?_eq_some_iff.1 ho
      simp
    have := List.all_eq_true.1 hN o this
    rw [hk] at this
    simpa using this
  · obtain ⟨s, k1, k2, k3, k4⟩ := so j o ho
    exact (f1 j s c k1 hcj).2 ops o k2 k3 k4
  · obtain ⟨h1, h2⟩ := f4 j c hcj x hx
    refine ⟨Nat.le_trans hst1.mle (by rw [hil]; exact h1), ?_⟩
    rw [List.getElem?_append_right h1, List.getElem?_replicate, if_pos (by omega)]
  · refine ⟨F', H', hQ, ?_⟩
    rw [← f3] at hX
    subst hX
    exact hs.weaken fun t => .inl (by rw [f2]; exact (hG t).symm)
  · simp [Array.toList_replicate]
  · have h0 : (Array.replicate ops.size false).getD j false = false := congrFun ee j
    rw [h0] at hD; cases hD
  · obtain ⟨h1, h2⟩ := f4 j c hcj x hx
    rw [List.getElem?_append_right (by rw [hil]; exact h1), List.getElem?_replicate, if_pos (by omega)]

/-! ### What an operation looks at -/
def slotsOf (op : Op) : List Nat := op.operands.toList.filterMap fun o => match o with
  | .tmp t => some t
  | _ => none
def guardSlot : Option (Nat × Bool) → List Nat
  | some (s, _) => [s]
  | none => []
def rowsIn : LV → List Nat
  | .ptr h _ => [h]
  | .sl _ h _ _ => [h]
  | _ => []
def lookRows (F : Fr) (op : Op) : List Nat := (op.operands.toList.map (evalO F)).flatMap rowsIn

theorem evalO_congr {F F' : Fr} {op : Op} (h : ∀ t ∈ slotsOf op, fget F t = fget F' t) : ∀ o ∈ op.operands.toList, evalO F o = evalO F' o := by
  intro o ho
  cases o with
  | tmp t => exact h t (List.mem_filterMap.2 ⟨.tmp t, ho, rfl⟩)
  | _ => rfl

theorem map_parts {F F' : Fr} {ps : Array (Nat × Operand)} (h : ∀ o ∈ (ps.toList.map (·.2)), evalO F o = evalO F' o) : (ps.toList.map fun p => (p.1, evalO F p.2)) = ps.toList.map fun p => (p.1, evalO F' p.2) :=
  List.map_congr_left fun p hp => by rw [h p.2 (List.mem_map.2 ⟨p, hp, rfl⟩)]

theorem pure_congr {τ : TT} {F F' : Fr} {op : Op} (h : ∀ o ∈ op.operands.toList, evalO F o = evalO F' o) : pureOp τ F op = pureOp τ F' op := by
  cases op with
  | move x => simp only [pureOp]; rw [h x (by simp [Op.operands])]
  | assign x => simp only [pureOp]; rw [h x (by simp [Op.operands])]
  | pick c a b => simp only [pureOp]; rw [h c (by simp [Op.operands]), h a (by simp [Op.operands]), h b (by simp [Op.operands])]
  | nilCheck x => simp only [pureOp]; rw [h x (by simp [Op.operands])]
  | binOp o t x y u => simp only [pureOp]; rw [h x (by simp [Op.operands]), h y (by simp [Op.operands])]
  | unOp o t x => simp only [pureOp]; rw [h x (by simp [Op.operands])]
  | convert s d x => simp only [pureOp]; rw [h x (by simp [Op.operands])]
  | makeFunc f a b =>
    cases f with
    | func f =>
      simp only [pureOp]
      rw [List.map_congr_left (f := evalO F) (g := evalO F') (l := b.toList) fun o ho => h o (by simp only [Op.operands, Array.toList_append, List.mem_append]; exact .inr ho)]
    | _ => rfl
  | extract x i => simp only [pureOp]; rw [h x (by simp [Op.operands])]
  | fieldAddr s x f => simp only [pureOp]; rw [h x (by simp [Op.operands])]
  | field s x f => simp only [pureOp]; rw [h x (by simp [Op.operands])]
  | indexAddr t x i => simp only [pureOp]; rw [h x (by simp [Op.operands]), h i (by simp [Op.operands])]
  | index t x i => simp only [pureOp]; rw [h x (by simp [Op.operands]), h i (by simp [Op.operands])]
  | build t ps => simp only [pureOp]; rw [map_parts (fun o ho => h o (by simpa [Op.operands] using ho))]
  | slice t x lo hi mx =>
    cases mx with
    | some m => rfl
    | none =>
      have h1 := h x (by simp [Op.operands])
      have h2 : lo.map (evalO F) = lo.map (evalO F') := by
        cases lo with
        | none => rfl
        | some o => simp only [Option.map_some]; rw [h o (by simp [Op.operands])]
      have h3 : hi.map (evalO F) = hi.map (evalO F') := by
        cases hi with
        | none => rfl
        | some o => simp only [Option.map_some]; rw [h o (by simp [Op.operands])]
      simp only [pureOp]
      rw [h1, h2, h3]
  | call c =>
    obtain ⟨callee, args, argTypes⟩ := c
    cases callee with
    | builtin b =>
      have ha : ∀ o ∈ args.toList, evalO F o = evalO F' o := fun o ho => h o (by simp [Op.operands, Call.operands]; simpa using ho)
      cases b with
      | len =>
        simp only [pureOp]
        have : (args[0]?).map (evalO F) = (args[0]?).map (evalO F') := by
          cases h0 : args[0]? with
          | none => rfl
          | some o => simp only [Option.map_some]; rw [ha o (by obtain ⟨h1, rfl⟩ := Array.getElem?_eq_some_iff.1 h0; simp)]
        rw [this]
      | min => simp only [pureOp]; rw [List.map_congr_left ha]
      | max => simp only [pureOp]; rw [List.map_congr_left ha]
      | _ => rfl
    | _ => rfl
  | _ => rfl

theorem row_congr {H H' : Hp} {h : Nat} (e : H'[h]? = H[h]?) : row H' h = row H h := by unfold row; rw [e]

theorem load_congr {τ : TT} {F F' : Fr} {H H' : Hp} {op : Op} (h : ∀ o ∈ op.operands.toList, evalO F' o = evalO F o) (hr : ∀ r ∈ lookRows F op, H'[r]? = H[r]?) : loadOp τ F' H' op = loadOp τ F H op := by
  cases op with
  | load t x =>
    have hx := h x (by simp [Op.operands])
    simp only [loadOp]
    rw [hx]
    split
    · rename_i ti r o hti e
      rw [row_congr (hr r (by simp [lookRows, Op.operands, e, rowsIn]))]
    · rfl
    · rfl
  | _ => rfl

theorem src_congr {H H' : Hp} {esz : Nat} {x : LV} (hr : ∀ r ∈ rowsIn x, H'[r]? = H[r]?) : srcCells H' esz x = srcCells H esz x := by
  cases x with
  | sl sz h o n => simp only [srcCells]; rw [row_congr (hr h (by simp [rowsIn]))]
  | _ => rfl

theorem eff_congr {τ : TT} {F F' : Fr} {H H' : Hp} {n : Nat} {op : Op} (h : ∀ o ∈ op.operands.toList, evalO F' o = evalO F o) (hr : ∀ r ∈ lookRows F op, H'[r]? = H[r]?) : effOp τ F' H' n op = effOp τ F H n op := by
  cases op with
  | alloc t => rfl
  | box t x => simp only [effOp]; rw [h x (by simp [Op.operands])]
  | buildSlice t len ps => simp only [effOp]; rw [map_parts (fun o ho => h o (by simpa [Op.operands] using ho))]
  | makeSlice t l c => simp only [effOp]; rw [h l (by simp [Op.operands]), h c (by simp [Op.operands])]
  | store t x y =>
    have hx := h x (by simp [Op.operands])
    have hy := h y (by simp [Op.operands])
    simp only [effOp]
    rw [hx, hy]
    split
    · rename_i ti r o ds hti e hds
      rw [row_congr (hr r (by simp [lookRows, Op.operands, e, rowsIn]))]
    · rfl
  | call c =>
    obtain ⟨callee, args, argTypes⟩ := c
    cases callee with
    | builtin b =>
      have ha : ∀ o ∈ args.toList, evalO F' o = evalO F o := fun o ho => h o (by simp [Op.operands, Call.operands]; simpa using ho)
      have hrw : ∀ o ∈ args.toList, ∀ r ∈ rowsIn (evalO F o), H'[r]? = H[r]? := fun o ho r hr' => hr r (by
        simp only [lookRows, List.mem_flatMap, List.mem_map]
        exact ⟨_, ⟨o, by simp [Op.operands, Call.operands]; simpa using ho, rfl⟩, hr'⟩)
      have mem : ∀ (i : Nat) (o : Operand), args[i]? = some o → o ∈ args.toList := fun i o h0 => by obtain ⟨h1, rfl⟩ := Array.getElem?_eq_some_iff.1 h0; simp
      cases b with
      | append =>
        simp only [effOp]
        split
        · rename_i t u x y ht hu hx hy
          have mx := mem _ _ hx
          have my := mem _ _ hy
          have hs : ∀ esz, srcCells H' esz (evalO F y) = srcCells H esz (evalO F y) := fun esz => src_congr (hrw y my)
          rw [ha x mx, ha y my]
          simp only [hs]
          split
          · split
            · rfl
            · split
              · rfl
              · rename_i n' xs sz r o m hsrc e
                rw [row_congr (hrw x mx r (by rw [e]; simp [rowsIn]))]
              · rfl
          · rfl
        · rfl
      | copy =>
        simp only [effOp]
        split
        · rename_i t x y ht hx hy
          have mx := mem _ _ hx
          have my := mem _ _ hy
          have hs : ∀ esz, srcCells H' esz (evalO F y) = srcCells H esz (evalO F y) := fun esz => src_congr (hrw y my)
          rw [ha x mx, ha y my]
          simp only [hs]
          split
          · split
            · rename_i sz r o m n' xs e hsrc
              rw [row_congr (hrw x mx r (by rw [e]; simp [rowsIn]))]
            · rfl
          · rfl
        · rfl
      | _ => rfl
    | _ => rfl
  | _ => rfl

end Go.Lite
