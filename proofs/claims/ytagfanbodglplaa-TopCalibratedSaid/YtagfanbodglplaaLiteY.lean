/- Lite, parts W X Y. -/
import Derived.Test.YtagfanbodglplaaLiteQ
set_option linter.unusedVariables false
set_option linter.unusedSimpArgs false

/- Lite, part W: a region that draws its order, walked in the order of the text. -/
namespace Go.Lite
open Go Go.RowKit
set_option linter.unusedVariables false

theorem DFact.mono {P : Program} {ops : Array Oper} {o : Oper} {F F2 : Fr} {H H2 : Hp} {c : DA} (h : DFact P ops o F H c) (hF : ∀ t ∈ c.ls, fget F2 t = fget F t) (hH : ∀ r ∈ c.rs, H2[r]? = H[r]?) : DFact P ops o F2 H2 c :=
  fun cx N ι per G X a w hst hls hrs hnw => h cx N ι per G X a w hst (fun t ht => (hls t ht).trans (hF t ht)) (fun r hr => (hrs r hr).trans (hH r hr)) hnw

/-- The same, said of an operation in few words. -/
def SFact (P : Program) (s : SO) (F : Fr) (H : Hp) (c : DA) : Prop :=
  c.d = s.dst ∧ ∀ (ops : Array Oper) (o : Oper), o.dst = s.dst → o.op = s.op → (∀ F, wantedL ops o F = wantS s.g F) → DFact P ops o F H c

/-- The operations one behind the other; each may make rows, whose numbers follow those that there are. -/
inductive Chain (P : Program) : List SO → Fr → Hp → List DA → Fr → Hp → Prop where
  | nil {F : Fr} {H : Hp} : Chain P [] F H [] F H
  | cons {s : SO} {r : List SO} {F F' : Fr} {H H' : Hp} {c : DA} {cs : List DA} (e : Nat) (h : SFact P s F H c) (hr : ∀ x ∈ c.rs, x < H.length) (hk : ∀ x ∈ c.keys, x < H.length + e)
      (hn : ∀ x ∈ c.nw, H.length ≤ x ∧ x < H.length + e) (k : Chain P r (lput s.dst c.x F) (applyWs (H ++ List.replicate e none) c.ws) cs F' H') : Chain P (s :: r) F H (c :: cs) F' H'

theorem fD_shift (D : Nat → Bool) : ∀ (cs : List DA) (k : Nat) (F : Fr), fD D (k + 1) cs F = fD (fun i => D (i + 1)) k cs F := by
  intro cs
  induction cs with
  | nil => intro k F; rfl
  | cons c r ih => intro k F; simp only [fD]; rw [ih (k + 1)]
theorem hD_shift (D : Nat → Bool) : ∀ (cs : List DA) (k : Nat) (H : Hp), hD D (k + 1) cs H = hD (fun i => D (i + 1)) k cs H := by
  intro cs
  induction cs with
  | nil => intro k F; rfl
  | cons c r ih => intro k F; simp only [hD]; rw [ih (k + 1)]

theorem applyWs_append : ∀ (ws : List (Nat × Option (List LV))) (H X : Hp), (∀ x ∈ ws.map (·.1), x < H.length) → applyWs (H ++ X) ws = applyWs H ws ++ X := by
  intro ws
  induction ws with
  | nil => intro H X _; rfl
  | cons p r ih =>
    intro H X h
    obtain ⟨k, x⟩ := p
    simp only [List.map_cons, List.mem_cons, forall_eq_or_imp] at h
    simp only [applyWs]
    rw [List.set_append_left _ _ h.1, ih _ _ (by simpa using h.2)]

theorem Chain.len {P : Program} {l : List SO} {F F' : Fr} {H H' : Hp} {cs : List DA} (h : Chain P l F H cs F' H') : H.length ≤ H'.length ∧ cs.length = l.length := by
  induction h with
  | nil => exact ⟨Nat.le_refl _, rfl⟩
  | cons e h hr hk hn k ih => rw [applyWs_length] at ih; simp at ih; refine ⟨by omega, by simp [ih.2]⟩

theorem Chain.facts {P : Program} {l : List SO} {F F' : Fr} {H H' : Hp} {cs : List DA} (h : Chain P l F H cs F' H') :
    (∀ (j : Nat) (s : SO) (c : DA), l[j]? = some s → cs[j]? = some c → SFact P s (fD (fun i => decide (i < j)) 0 cs F) (hD (fun i => decide (i < j)) 0 cs (H ++ List.replicate (H'.length - H.length) none)) c) ∧
    F' = fD (fun _ => true) 0 cs F ∧ H' = hD (fun _ => true) 0 cs (H ++ List.replicate (H'.length - H.length) none) ∧ ∀ (j : Nat) (c : DA), cs[j]? = some c → ∀ x ∈ c.nw, H.length ≤ x ∧ x < H'.length := by
  induction h with
  | nil => exact ⟨fun j s c h => by simp at h, rfl, by simp [hD], fun j c h => by simp at h⟩
  | @cons s r F F' H H' c cs e h hr hk hn k ih =>
    obtain ⟨i1, i2, i3, i4⟩ := ih
    have hle := k.len.1
    rw [applyWs_length, List.length_append, List.length_replicate] at hle
    have hrow : applyWs (H ++ List.replicate (H'.length - H.length) none) c.ws = applyWs (H ++ List.replicate e none) c.ws ++ List.replicate (H'.length - (applyWs (H ++ List.replicate e none) c.ws).length) none := by
      rw [← applyWs_append _ _ _ (by intro x hx; rw [List.length_append, List.length_replicate]; exact hk x hx), applyWs_length, List.length_append, List.length_replicate, List.append_assoc, List.replicate_append_replicate]
      congr 3; omega
    have none0 : ∀ (cs : List DA) (k : Nat) (F : Fr), fD (fun _ => false) k cs F = F := by
      intro cs
      induction cs with
      | nil => intro k F; rfl
      | cons c r ih => intro k F; simp only [fD, Bool.false_eq_true, if_false]; exact ih _ _
    have none1 : ∀ (cs : List DA) (k : Nat) (F : Hp), hD (fun _ => false) k cs F = F := by
      intro cs
      induction cs with
      | nil => intro k F; rfl
      | cons c r ih => intro k F; simp only [hD, Bool.false_eq_true, if_false]; exact ih _ _
    refine ⟨fun j s' c' hl hc => ?_, ?_, ?_, fun j c' hc x hx => ?_⟩
    · cases j with
      | zero =>
        simp only [List.getElem?_cons_zero, Option.some.injEq] at hl hc
        subst hl hc
        have e1 : (fun i => decide (i < 0)) = fun _ : Nat => false := by funext i; simp
        rw [e1, none0, none1]
        refine ⟨h.1, fun ops o h1 h2 h3 => (h.2 ops o h1 h2 h3).mono (fun _ _ => rfl) fun x hx => ?_⟩
        rw [List.getElem?_append_left (hr x hx)]
      | succ j =>
        simp only [List.getElem?_cons_succ] at hl hc
        have := i1 j s' c' hl hc
        have e1 : (fun i => decide (i + 1 < j + 1)) = fun i => decide (i < j) := by funext i; simp
        simp only [fD, hD]
        rw [if_pos (by simp), if_pos (by simp), fD_shift, hD_shift, e1, hrow, h.1]
        exact this
    · simp only [fD, if_true]
      rw [fD_shift, h.1]
      exact i2
    · simp only [hD, if_true]
      rw [hD_shift, hrow]
      exact i3
    · cases j with
      | zero =>
        simp only [List.getElem?_cons_zero, Option.some.injEq] at hc
        subst hc
        have := hn x hx
        omega
      | succ j =>
        have := i4 j c' (by simpa using hc) x hx
        rw [applyWs_length, List.length_append, List.length_replicate] at this
        omega

theorem ST.extn {cx : Ctx} {N : Dim} {ι : Pl} {per : Nat → Prop} {F : Fr} {H : Hp} {a : Act} {w : World} (hst : ST cx N ι per F H a w) : ∀ n, ST cx N (ι ++ List.replicate n none) per F (H ++ List.replicate n none) a w := by
  intro n
  induction n with
  | zero => simpa using hst
  | succ n ih =>
    simp only [List.replicate_succ', ← List.append_assoc]
    exact ih.ext1.1

theorem slimOps_get {ops : Array Oper} : ∀ {l0 : List Oper} {l : List SO}, slimOps ops l0 = some l → l.length = l0.length ∧ ∀ (j : Nat) (s : SO) (o : Oper), l[j]? = some s → l0[j]? = some o → o.dst = s.dst ∧ o.op = s.op ∧ ∀ F, wantedL ops o F = wantS s.g F := by
  intro l0
  induction l0 with
  | nil => intro l h; obtain rfl := Option.some.inj h; exact ⟨rfl, fun j s o h => by simp at h⟩
  | cons o r ih =>
    intro l h
    cases l with
    | nil => have := slim_nil h; cases this
    | cons s l' =>
      obtain ⟨o', l1, e, h1, h2, h3, h4⟩ := slim_cons h
      obtain ⟨rfl, rfl⟩ := List.cons.inj e
      obtain ⟨i1, i2⟩ := ih h1
      refine ⟨by simp [i1], fun j s' o' hs ho => ?_⟩
      cases j with
      | zero =>
        simp only [List.getElem?_cons_zero, Option.some.injEq] at hs ho
        subst hs ho
        exact ⟨h2, h3, h4⟩
      | succ j => exact i2 j s' o' (by simpa using hs) (by simpa using ho)

/-- A region that draws its order. -/
theorem Lw.regdT {P : Program} {N : Dim} {Q : LPost} {F F' : Fr} {H H' : Hp} {l : List SO} {af : List (List Nat)} {cs : List DA} (tol : List (Nat × Nat)) (hm : P.follows .mixedOrders = true) (hc : Chain P l F H cs F' H') (hok : okTol tol af cs = true)
    (ht : ∀ i k, (i, k) ∈ tol → ∃ (s : SO) (c ck : DA) (r : Nat) (Hk : Hp), l[i]? = some s ∧ cs[i]? = some c ∧ cs[k]? = some ck ∧ c.rs = [r] ∧ (∀ X : Hp, X.length = H'.length → r ∈ ck.keys → (applyWs X ck.ws)[r]? = Hk[r]?) ∧ SFact P s (fD (fun m => decide (m < i)) 0 cs F) Hk c)
    (hQ : Q .normal F' H') : Lw P N (.regd l af) Q F H := by
  intro c hcc
  obtain ⟨id, ops, rfl, hN, hs, rfl⟩ := slim_inv hcc
  intro cx a w hsr
  obtain ⟨ι, per, hst0⟩ := hsr.st
  refine wpIn_region_any hm ?_
  have hst1 : ST cx N ι per F H a { w with drawn := w.drawn + 1 } := hst0.same rfl rfl rfl rfl (Nat.le_succ _)
  have hst := hst1.extn (H'.length - H.length)
  obtain ⟨f1, f2, f3, f4⟩ := hc.facts
  obtain ⟨g1, g2⟩ := slimOps_get hs
  have hln : cs.length = ops.size := by rw [hc.len.2, g1]; simp
  have hil := hst1.rep.len
  have so : ∀ (j : Nat) (o : Oper), ops[j]? = some o → ∃ s, l[j]? = some s ∧ o.dst = s.dst ∧ o.op = s.op ∧ ∀ F, wantedL ops o F = wantS s.g F := by
    intro j o ho
    have hj : j < l.length := by rw [g1]; have := (Array.getElem?_eq_some_iff.1 ho).1; simpa using this
    have e := List.getElem?_eq_getElem hj
    exact ⟨_, e, g2 j _ o e (by simpa using ho)⟩
  have none0 : ∀ (cs : List DA) (k : Nat) (F : Fr), fD (fun _ => false) k cs F = F := by
    intro cs
    induction cs with
    | nil => intro k F; rfl
    | cons c r ih => intro k F; simp only [fD, Bool.false_eq_true, if_false]; exact ih _ _
  have none1 : ∀ (cs : List DA) (k : Nat) (F : Hp), hD (fun _ => false) k cs F = F := by
    intro cs
    induction cs with
    | nil => intro k F; rfl
    | cons c r ih => intro k F; simp only [hD, Bool.false_eq_true, if_false]; exact ih _ _
  have ee : (fun i => (Array.replicate ops.size false).getD i false) = fun _ : Nat => false := by
    funext i
    simp only [Array.getD_eq_getD_getElem?, Array.getElem?_replicate]
    split <;> rfl
  refine wpAny_da (F0 := F) (H0 := H ++ List.replicate (H'.length - H.length) none) hln (okTol_spec hok) (fun i k hik o c ck ho hci hck => ?_) (fun j o c ho hcj => ?_) (fun j o c ho hcj => ?_) (fun j c hcj x hx => ?_) (fun G X hG hX a w hs => ?_)
    ops.size (Array.replicate ops.size false) a _ (ι ++ List.replicate (H'.length - H.length) none) per F _ (by simp) ?_ (fun j o ho hD => ?_) (fun t => by rw [ee, none0]) (by rw [ee, none1]) (fun j c hcj _ x hx => ?_) hst
  · obtain ⟨s, c', ck', r, Hk, t1, t2, t3, t4, t5, t6⟩ := ht i k hik
    rw [hci] at t2; obtain rfl := Option.some.inj t2
    rw [hck] at t3; obtain rfl := Option.some.inj t3
    obtain ⟨s', k1, k2, k3, k4⟩ := so i o ho
    rw [t1] at k1; obtain rfl := Option.some.inj k1
    exact ⟨r, Hk, t4, fun X hX => t5 X (by rw [hX, List.length_append, List.length_replicate]; have := hc.len.1; omega), t6.2 ops o k2 k3 k4⟩
  · obtain ⟨s, k1, k2, k3, k4⟩ := so j o ho
    refine ⟨by rw [(f1 j s c k1 hcj).1, k2], fun k hk => ?_⟩
    have : o ∈ ops.toList := by
      obtain ⟨h1, rfl⟩ := Array.getElem?_eq_some_iff.1 ho
      simp
    have := List.all_eq_true.1 hN o this
    rw [hk] at this
    simpa using this
  · obtain ⟨s, k1, k2, k3, k4⟩ := so j o ho
    exact (f1 j s c k1 hcj).2 ops o k2 k3 k4
  · obtain ⟨h1, h2⟩ := f4 j c hcj x hx
    refine ⟨Nat.le_trans hst1.mle (by rw [hil]; exact h1), ?_⟩
    rw [List.getElem?_append_right h1, List.getElem?_replicate, if_pos (by omega)]
  · refine ⟨F', H', hQ, ?_⟩
    rw [← f3] at hX
    subst hX
    exact hs.weaken fun t => .inl (by rw [f2]; exact (hG t).symm)
  · simp [Array.toList_replicate]
  · have h0 : (Array.replicate ops.size false).getD j false = false := congrFun ee j
    rw [h0] at hD; cases hD
  · obtain ⟨h1, h2⟩ := f4 j c hcj x hx
    rw [List.getElem?_append_right (by rw [hil]; exact h1), List.getElem?_replicate, if_pos (by omega)]

/-- The same, where no operation looks at what a later one lays. -/
theorem Lw.regd {P : Program} {N : Dim} {Q : LPost} {F F' : Fr} {H H' : Hp} {l : List SO} {af : List (List Nat)} {cs : List DA} (hm : P.follows .mixedOrders = true) (hc : Chain P l F H cs F' H') (hok : okB af cs = true)
    (hQ : Q .normal F' H') : Lw P N (.regd l af) Q F H := .regdT [] hm hc hok (fun i k h => by cases h) hQ

/-! ### What an operation looks at -/
def slotsOf (op : Op) : List Nat := op.operands.toList.filterMap fun o => match o with
  | .tmp t => some t
  | _ => none
def guardSlot : Option (Nat × Bool) → List Nat
  | some (s, _) => [s]
  | none => []
def rowsIn : LV → List Nat
  | .ptr h _ => [h]
  | .sl _ h _ _ => [h]
  | _ => []
def lookRows (F : Fr) (op : Op) : List Nat := (op.operands.toList.map (evalO F)).flatMap rowsIn

theorem evalO_congr {F F' : Fr} {op : Op} (h : ∀ t ∈ slotsOf op, fget F t = fget F' t) : ∀ o ∈ op.operands.toList, evalO F o = evalO F' o := by
  intro o ho
  cases o with
  | tmp t => exact h t (List.mem_filterMap.2 ⟨.tmp t, ho, rfl⟩)
  | _ => rfl

theorem map_parts {F F' : Fr} {ps : Array (Nat × Operand)} (h : ∀ o ∈ (ps.toList.map (·.2)), evalO F o = evalO F' o) : (ps.toList.map fun p => (p.1, evalO F p.2)) = ps.toList.map fun p => (p.1, evalO F' p.2) :=
  List.map_congr_left fun p hp => by rw [h p.2 (List.mem_map.2 ⟨p, hp, rfl⟩)]

theorem pure_congr {τ : TT} {F F' : Fr} {op : Op} (h : ∀ o ∈ op.operands.toList, evalO F o = evalO F' o) : pureOp τ F op = pureOp τ F' op := by
  cases op with
  | move x => simp only [pureOp]; rw [h x (by simp [Op.operands])]
  | assign x => simp only [pureOp]; rw [h x (by simp [Op.operands])]
  | pick c a b => simp only [pureOp]; rw [h c (by simp [Op.operands]), h a (by simp [Op.operands]), h b (by simp [Op.operands])]
  | nilCheck x => simp only [pureOp]; rw [h x (by simp [Op.operands])]
  | binOp o t x y u => simp only [pureOp]; rw [h x (by simp [Op.operands]), h y (by simp [Op.operands])]
  | unOp o t x => simp only [pureOp]; rw [h x (by simp [Op.operands])]
  | convert s d x => simp only [pureOp]; rw [h x (by simp [Op.operands])]
  | makeFunc f a b =>
    cases f with
    | func f =>
      simp only [pureOp]
      rw [List.map_congr_left (f := evalO F) (g := evalO F') (l := b.toList) fun o ho => h o (by simp only [Op.operands, Array.toList_append, List.mem_append]; exact .inr ho),
        List.map_congr_left (f := evalO F) (g := evalO F') (l := a.toList) fun o ho => h o (by simp only [Op.operands, Array.toList_append, List.mem_append]; exact .inl ho)]
    | _ => rfl
  | extract x i => simp only [pureOp]; rw [h x (by simp [Op.operands])]
  | fieldAddr s x f => simp only [pureOp]; rw [h x (by simp [Op.operands])]
  | field s x f => simp only [pureOp]; rw [h x (by simp [Op.operands])]
  | indexAddr t x i => simp only [pureOp]; rw [h x (by simp [Op.operands]), h i (by simp [Op.operands])]
  | index t x i => simp only [pureOp]; rw [h x (by simp [Op.operands]), h i (by simp [Op.operands])]
  | build t ps => simp only [pureOp]; rw [map_parts (fun o ho => h o (by simpa [Op.operands] using ho))]
  | slice t x lo hi mx =>
    cases mx with
    | some m => rfl
    | none =>
      have h1 := h x (by simp [Op.operands])
      have h2 : lo.map (evalO F) = lo.map (evalO F') := by
        cases lo with
        | none => rfl
        | some o => simp only [Option.map_some]; rw [h o (by simp [Op.operands])]
      have h3 : hi.map (evalO F) = hi.map (evalO F') := by
        cases hi with
        | none => rfl
        | some o => simp only [Option.map_some]; rw [h o (by simp [Op.operands])]
      simp only [pureOp]
      rw [h1, h2, h3]
  | call c =>
    obtain ⟨callee, args, argTypes⟩ := c
    cases callee with
    | builtin b =>
      have ha : ∀ o ∈ args.toList, evalO F o = evalO F' o := fun o ho => h o (by simp [Op.operands, Call.operands]; simpa using ho)
      cases b with
      | len =>
        simp only [pureOp]
        have : (args[0]?).map (evalO F) = (args[0]?).map (evalO F') := by
          cases h0 : args[0]? with
          | none => rfl
          | some o => simp only [Option.map_some]; rw [ha o (by obtain ⟨h1, rfl⟩ := Array.getElem?_eq_some_iff.1 h0; simp)]
        rw [this]
      | min => simp only [pureOp]; rw [List.map_congr_left ha]
      | max => simp only [pureOp]; rw [List.map_congr_left ha]
      | _ => rfl
    | _ => rfl
  | _ => rfl

theorem row_congr {H H' : Hp} {h : Nat} (e : H'[h]? = H[h]?) : row H' h = row H h := by unfold row; rw [e]

theorem load_congr {τ : TT} {F F' : Fr} {H H' : Hp} {op : Op} (h : ∀ o ∈ op.operands.toList, evalO F' o = evalO F o) (hr : ∀ r ∈ lookRows F op, H'[r]? = H[r]?) : loadOp τ F' H' op = loadOp τ F H op := by
  cases op with
  | load t x =>
    have hx := h x (by simp [Op.operands])
    simp only [loadOp]
    rw [hx]
    split
    · rename_i ti r o hti e
      rw [row_congr (hr r (by simp [lookRows, Op.operands, e, rowsIn]))]
    · rfl
    · rfl
  | convert s d x =>
    have hx := h x (by simp [Op.operands])
    have hb : bytesAt H' (evalO F x) = bytesAt H (evalO F x) := by
      cases e : evalO F x with
      | sl sz q o n => simp only [bytesAt]; rw [row_congr (hr q (by simp [lookRows, Op.operands, e, rowsIn]))]
      | _ => rfl
    simp only [loadOp]
    rw [hx, hb]
  | slice t x lo hi mx =>
    cases mx with
    | some m => rfl
    | none =>
      have hx := h x (by simp [Op.operands])
      have hlo : lo.map (evalO F') = lo.map (evalO F) := by
        cases lo with
        | none => rfl
        | some o => simp only [Option.map_some]; rw [h o (by simp [Op.operands])]
      have hhi : hi.map (evalO F') = hi.map (evalO F) := by
        cases hi with
        | none => rfl
        | some o => simp only [Option.map_some]; rw [h o (by simp [Op.operands])]
      simp only [loadOp]
      rw [hx, hlo, hhi]
      split
      · rename_i m esz g s1 s2 s3 q o ht e
        rw [row_congr (hr q (by simp [lookRows, Op.operands, e, rowsIn]))]
      · rfl
      · rfl
  | _ => rfl

theorem src_congr {H H' : Hp} {esz : Nat} {x : LV} (hr : ∀ r ∈ rowsIn x, H'[r]? = H[r]?) : srcCells H' esz x = srcCells H esz x := by
  cases x with
  | sl sz h o n => simp only [srcCells]; rw [row_congr (hr h (by simp [rowsIn]))]
  | _ => rfl

theorem eff_congr {τ : TT} {F F' : Fr} {H H' : Hp} {n : Nat} {op : Op} (h : ∀ o ∈ op.operands.toList, evalO F' o = evalO F o) (hr : ∀ r ∈ lookRows F op, H'[r]? = H[r]?) : effOp τ F' H' n op = effOp τ F H n op := by
  cases op with
  | alloc t => rfl
  | box t x => simp only [effOp]; rw [h x (by simp [Op.operands])]
  | buildSlice t len ps => simp only [effOp]; rw [map_parts (fun o ho => h o (by simpa [Op.operands] using ho))]
  | makeSlice t l c => simp only [effOp]; rw [h l (by simp [Op.operands]), h c (by simp [Op.operands])]
  | store t x y =>
    have hx := h x (by simp [Op.operands])
    have hy := h y (by simp [Op.operands])
    simp only [effOp]
    rw [hx, hy]
    split
    · rename_i ti r o ds hti e hds
      rw [row_congr (hr r (by simp [lookRows, Op.operands, e, rowsIn]))]
    · rfl
  | call c =>
    obtain ⟨callee, args, argTypes⟩ := c
    cases callee with
    | builtin b =>
      have ha : ∀ o ∈ args.toList, evalO F' o = evalO F o := fun o ho => h o (by simp [Op.operands, Call.operands]; simpa using ho)
      have hrw : ∀ o ∈ args.toList, ∀ r ∈ rowsIn (evalO F o), H'[r]? = H[r]? := fun o ho r hr' => hr r (by
        simp only [lookRows, List.mem_flatMap, List.mem_map]
        exact ⟨_, ⟨o, by simp [Op.operands, Call.operands]; simpa using ho, rfl⟩, hr'⟩)
      have mem : ∀ (i : Nat) (o : Operand), args[i]? = some o → o ∈ args.toList := fun i o h0 => by obtain ⟨h1, rfl⟩ := Array.getElem?_eq_some_iff.1 h0; simp
      cases b with
      | append =>
        simp only [effOp]
        split
        · rename_i t u x y ht hu hx hy
          have mx := mem _ _ hx
          have my := mem _ _ hy
          have hs : ∀ esz, srcCells H' esz (evalO F y) = srcCells H esz (evalO F y) := fun esz => src_congr (hrw y my)
          rw [ha x mx, ha y my]
          simp only [hs]
          split
          · split
            · rfl
            · split
              · rfl
              · rename_i n' xs sz r o m hsrc e
                rw [row_congr (hrw x mx r (by rw [e]; simp [rowsIn]))]
              · rfl
          · rfl
        · rfl
      | copy =>
        simp only [effOp]
        split
        · rename_i t x y ht hx hy
          have mx := mem _ _ hx
          have my := mem _ _ hy
          have hs : ∀ esz, srcCells H' esz (evalO F y) = srcCells H esz (evalO F y) := fun esz => src_congr (hrw y my)
          rw [ha x mx, ha y my]
          simp only [hs]
          split
          · split
            · rename_i sz r o m n' xs e hsrc
              rw [row_congr (hrw x mx r (by rw [e]; simp [rowsIn]))]
            · rfl
          · rfl
        · rfl
      | clear =>
        simp only [effOp]
        split
        · rename_i t x ht hx
          have mx := mem _ _ hx
          rw [ha x mx]
          split
          · rename_i esz eb ez _ _ _ sz r o m htt e
            rw [row_congr (hrw x mx r (by rw [e]; simp [rowsIn]))]
          · rfl
        · rfl
      | _ => rfl
    | _ => rfl
  | _ => rfl

end Go.Lite

/- Lite, part X: what the operations of a region that draws its order do. -/
namespace Go.Lite
open Go Go.RowKit
set_option linter.unusedVariables false

/-- A value that is computed or read. -/
def valP (τ : TT) (F : Fr) (H : Hp) (op : Op) : Option LV :=
  match pureOp τ F op with
  | some x => some x
  | none => loadOp τ F H op

def isLoad : Op → Bool
  | .load _ _ => true
  | .convert _ _ _ => true
  | _ => false

/-- The array that is sliced through its address. -/
def sliceRows (F : Fr) : Op → List Nat
  | .slice _ x _ _ none => (match evalO F x with | .ptr h _ => [h] | _ => [])
  | _ => []
/-- The rows that such an operation looks at. -/
def valRows (F : Fr) (op : Op) : List Nat := if isLoad op then lookRows F op else sliceRows F op

section
variable {P : Program} {F : Fr} {H : Hp} {s : SO}

theorem wantS_congr {g : Option (Nat × Bool)} {F F' : Fr} (h : ∀ t ∈ guardSlot g, fget F' t = fget F t) : wantS g F' = wantS g F := by
  unfold wantS
  rcases g with _ | ⟨t, b⟩
  · rfl
  · simp only
    rw [h t (by simp [guardSlot])]

theorem valP_congr {τ : TT} {F' : Fr} {H' : Hp} {op : Op} (h : ∀ t ∈ slotsOf op, fget F' t = fget F t) (hr : ∀ r ∈ valRows F op, H'[r]? = H[r]?) : valP τ F' H' op = valP τ F H op := by
  have ho := evalO_congr h
  unfold valP
  rw [pure_congr ho]
  split
  · rfl
  · rename_i hpu
    clear hpu
    cases hop : isLoad op with
    | true => exact load_congr ho (by intro r hr'; exact hr r (by rw [valRows, if_pos hop]; exact hr'))
    | false =>
      cases op <;> first | rfl | (simp [isLoad] at hop; done) | skip
      rename_i t x lo hi mx
      cases mx with
      | some m => rfl
      | none =>
        have hx := ho x (by simp [Op.operands])
        have hlo : lo.map (evalO F') = lo.map (evalO F) := by
          cases lo with
          | none => rfl
          | some o => simp only [Option.map_some]; rw [ho o (by simp [Op.operands])]
        have hhi : hi.map (evalO F') = hi.map (evalO F) := by
          cases hi with
          | none => rfl
          | some o => simp only [Option.map_some]; rw [ho o (by simp [Op.operands])]
        simp only [loadOp]
        rw [hx, hlo, hhi]
        split
        · rename_i m esz g s1 s2 s3 q o ht e
          rw [row_congr (hr q (by simp [valRows, isLoad, sliceRows, e]))]
        · rfl
        · rfl

theorem val_run {cx : Ctx} {N : Dim} {ι : Pl} {per : Nat → Prop} {a : Act} {w : World} (hst : ST cx N ι per F H a w) {o : Oper} {x : LV} (h : valP (ttOf P) F H o.op = some x) :
    ∃ u, (execOp a.eval o).run P w = .ok (.value u) w ∧ VR w per ι x u := by
  unfold valP at h
  split at h
  · rename_i y hy
    obtain rfl := Option.some.inj h
    obtain ⟨u, hu, hr⟩ := pure_sound (P := P) hst.fr hy
    exact ⟨u, hu w, hr⟩
  · obtain ⟨u, hu, hr⟩ := load_sound (P := P) hst h
    exact ⟨u, hu w (Ext.refl w), hr⟩

theorem SFact.val {x : LV} (hg : wantS s.g F = some true) (hx : valP (ttOf P) F H s.op = some x) : SFact P s F H ⟨s.dst, x, [], guardSlot s.g ++ slotsOf s.op, valRows F s.op, []⟩ := by
  refine ⟨rfl, fun ops o h1 h2 h3 cx N ι per G X a w hst hls hrs hnw K Q hK => ?_⟩
  have hw : Region.wanted o (yielded ops a.tmps) = true := wanted_sound hst (by rw [h3, wantS_congr fun t ht => hls t (by simp [ht])]; exact hg)
  rw [if_pos hw]
  have hv : valP (ttOf P) G X o.op = some x := by
    rw [h2, valP_congr (F := F) (H := H) (fun t ht => hls t (by simp [ht])) hrs]; exact hx
  obtain ⟨u, hu, hr⟩ := val_run hst hv
  refine runIn (fun c hc => by rw [hc] at hv; simp [valP, pureOp, loadOp] at hv) hu ?_
  exact hK ι per u w hst hr (fun _ _ => rfl)

/-- What stands in row r behind the writes. -/
def lastW : List (Nat × Option (List LV)) → Nat → Option (Option (List LV))
  | [], _ => none
  | (h, y) :: t, r => match lastW t r with
    | some z => some z
    | none => cond (Nat.beq h r) (some y) none
theorem lastW_ok : ∀ (ws : List (Nat × Option (List LV))) (X : Hp) (r : Nat) (y : Option (List LV)), r < X.length → lastW ws r = some y → (applyWs X ws)[r]? = some y := by
  intro ws
  induction ws with
  | nil => intro X r y _ h; cases h
  | cons p t ih =>
    intro X r y hr h
    obtain ⟨k, x⟩ := p
    simp only [lastW] at h
    simp only [applyWs]
    cases ht : lastW t r with
    | some z =>
      rw [ht] at h
      obtain rfl := Option.some.inj h
      exact ih _ r _ (by simpa using hr) ht
    | none =>
      rw [ht] at h
      cases hb : Nat.beq k r with
      | false => rw [hb] at h; cases h
      | true =>
        rw [hb] at h
        have hkr : k = r := by simpa using hb
        subst hkr
        obtain rfl := Option.some.inj h
        have hn : ∀ (t : List (Nat × Option (List LV))), lastW t k = none → k ∉ t.map (·.1) := by
          intro t
          induction t with
          | nil => intro _; simp
          | cons p t ih =>
            intro h
            obtain ⟨m, z⟩ := p
            simp only [lastW] at h
            cases h2 : lastW t k with
            | some _ => rw [h2] at h; cases h
            | none =>
              rw [h2] at h
              simp only [List.map_cons, List.mem_cons, not_or]
              refine ⟨fun e => ?_, ih h2⟩
              subst e
              rw [Nat.beq_refl] at h
              cases h
        rw [applyWs_other _ _ _ (hn t ht)]
        exact List.getElem?_set_self hr

/-- The operation i reads in the rows behind the operation k what it reads in those before it. -/
def TolOk (τ : TT) (l : List SO) (cs : List DA) (F0 : Fr) (i k : Nat) : Prop :=
  ∃ (s : SO) (c ck : DA) (r : Nat) (y : Option (List LV)), l[i]? = some s ∧ cs[i]? = some c ∧ cs[k]? = some ck ∧ c.rs = [r] ∧ lastW ck.ws r = some y ∧ wantS s.g (fD (fun m => Nat.blt m i) 0 cs F0) = some true ∧
    valP τ (fD (fun m => Nat.blt m i) 0 cs F0) (List.replicate r none ++ [y]) s.op = some c.x ∧ valRows (fD (fun m => Nat.blt m i) 0 cs F0) s.op = c.rs ∧ c.d = s.dst ∧ c.ws = [] ∧ c.ls = guardSlot s.g ++ slotsOf s.op ∧ c.nw = []
def TolsOk (τ : TT) (l : List SO) (cs : List DA) (F0 : Fr) : List (Nat × Nat) → Prop
  | [] => True
  | (i, k) :: r => TolOk τ l cs F0 i k ∧ TolsOk τ l cs F0 r

theorem TolsOk.of {τ : TT} {l : List SO} {cs : List DA} {F0 : Fr} : ∀ {tol : List (Nat × Nat)}, TolsOk τ l cs F0 tol → ∀ i k, (i, k) ∈ tol → TolOk τ l cs F0 i k
  | [], _, i, k, h => by cases h
  | (a, b) :: r, h, i, k, hm => by
    rcases List.mem_cons.1 hm with e | hm
    · obtain ⟨rfl, rfl⟩ := Prod.mk.inj e; exact h.1
    · exact TolsOk.of h.2 i k hm

theorem TolOk.fact {l : List SO} {cs : List DA} {F0 : Fr} {i k : Nat} (h : TolOk (ttOf P) l cs F0 i k) :
    ∃ (s : SO) (c ck : DA) (r : Nat) (Hk : Hp), l[i]? = some s ∧ cs[i]? = some c ∧ cs[k]? = some ck ∧ c.rs = [r] ∧ (∀ X : Hp, r < X.length → r ∈ ck.keys → (applyWs X ck.ws)[r]? = Hk[r]?) ∧ SFact P s (fD (fun m => decide (m < i)) 0 cs F0) Hk c := by
  obtain ⟨s, c, ck, r, y, h1, h2, h3, h4, h5, h7, h8, h9, g1, g2, g3, g4⟩ := h
  have e : (fun m => decide (m < i)) = fun m => Nat.blt m i := by
    funext m
    by_cases hm : m < i
    · have hb : Nat.blt m i = true := by simpa using hm
      rw [decide_eq_true hm, hb]
    · rw [decide_eq_false hm]
      cases hb : Nat.blt m i with
      | false => rfl
      | true => exact absurd (by simpa using hb) hm
  refine ⟨s, c, ck, r, List.replicate r none ++ [y], h1, h2, h3, h4, fun X hX hk => ?_, ?_⟩
  · rw [lastW_ok _ X r y hX h5, List.getElem?_append_right (by simp)]; simp
  · rw [e]
    have hv := SFact.val (P := P) h7 h8
    obtain ⟨d, x, ws, ls, rs, nw⟩ := c
    simp only at g1 g2 g3 g4 h9 hv
    rw [h9] at hv
    subst g1; subst g2; subst g3; subst g4
    exact hv

theorem SFact.skip (hg : wantS s.g F = some false) : SFact P s F H ⟨s.dst, .und, [], guardSlot s.g, [], []⟩ := by
  refine ⟨rfl, fun ops o h1 h2 h3 cx N ι per G X a w hst hls hrs hnw K Q hK => ?_⟩
  have hw : Region.wanted o (yielded ops a.tmps) = false := wanted_sound hst (by rw [h3, wantS_congr fun t ht => hls t (by simpa using ht)]; exact hg)
  rw [if_neg (by rw [hw]; simp)]
  exact hK ι per undef w hst .und (fun _ _ => rfl)

theorem SFact.eff {x : LV} {ws : List (Nat × Option (List LV))} (hg : wantS s.g F = some true) (hx : effOp (ttOf P) F H H.length s.op = some (x, ws)) :
    SFact P s F H ⟨s.dst, x, ws, guardSlot s.g ++ slotsOf s.op, lookRows F s.op, if makes s.op then [H.length] else []⟩ := by
  refine ⟨rfl, fun ops o h1 h2 h3 cx N ι per G X a w hst hls hrs hnw K Q hK => ?_⟩
  have hw : Region.wanted o (yielded ops a.tmps) = true := wanted_sound hst (by rw [h3, wantS_congr fun t ht => hls t (by simp [ht])]; exact hg)
  rw [if_pos hw]
  have hv : effOp (ttOf P) G X H.length o.op = some (x, ws) := by
    rw [h2, eff_congr (F := F) (H := H) (evalO_congr fun t ht => hls t (by simp [ht])) hrs]; exact hx
  have main : ∃ u w' ι', ((execOp a.eval o).run P w = .ok (.value u) w' ∨ ((execOp a.eval o).run P w = .ok .skip w' ∧ u = undef)) ∧ ST cx N ι' per G (applyWs X ws) a w' ∧ VR w' per ι' x u ∧
      ∀ h, h ∉ (if makes s.op then [H.length] else []) → ι'[h]? = ι[h]? := by
    by_cases hm : makes s.op = true
    · obtain ⟨u, w', ι', hu, hst', hr, _, hoth⟩ := eff_sound (P := P) hst (nn := H.length) (o := o) (fun _ => hnw _ (by rw [if_pos hm]; simp)) hv
      exact ⟨u, w', ι', hu, hst', hr, fun h hh => hoth h (by rw [if_pos hm] at hh; simpa using hh)⟩
    · have hv2 : effOp (ttOf P) G X ι.length o.op = some (x, ws) := by
        rw [← hv]
        rw [h2]
        cases hop : s.op <;> simp only [hop, makes, not_true_eq_false] at hm <;> try rfl
        rename_i c
        obtain ⟨callee, args, tys⟩ := c
        cases callee with
        | builtin b => cases b <;> first | rfl | (simp [makes] at hm)
        | _ => rfl
      obtain ⟨u, w', ι', hu, hst', hr, _, hoth⟩ := eff_sound (P := P) hst (nn := ι.length) (o := o) (fun e => absurd (by rw [← h2]; exact e) hm) hv2
      refine ⟨u, w', ι', hu, hst', hr, fun h _ => ?_⟩
      by_cases e : h = ι.length
      · subst e
        rw [List.getElem?_eq_none (Nat.le_refl _), List.getElem?_eq_none]
        rw [hst'.rep.len, applyWs_length, hst.rep.len]
        exact Nat.le_refl _
      · exact hoth h e
  obtain ⟨u, w', ι', hu, hst', hr, hι⟩ := main
  have hnd : ∀ c, o.op ≠ .defer c := fun c hc => by rw [hc] at hv; simp [effOp] at hv
  rcases hu with hu | ⟨hu, rfl⟩
  · refine runIn hnd hu ?_; exact hK ι' per u w' hst' hr hι
  · refine runIn hnd hu ?_; exact hK ι' per undef w' hst' hr hι

end

/-! ### Calls -/
mutual
/-- A value that says all of itself. -/
def rigid : LV → Bool
  | .bool _ | .int _ _ | .str _ | .nilp | .nils | .nilf | .und => true
  | .tup cs => rigidL cs
  | .agg cs => rigidL cs
  | _ => false
def rigidL : List LV → Bool
  | [] => true
  | c :: r => rigid c && rigidL r
end

theorem rigidL_get {cs : List LV} (h : rigidL cs = true) : ∀ i (hi : i < cs.length), rigid cs[i] = true := by
  induction cs with
  | nil => intro i hi; simp at hi
  | cons c r ih =>
    simp only [rigidL, Bool.and_eq_true] at h
    intro i hi
    cases i with
    | zero => exact h.1
    | succ i => exact ih h.2 i (by simpa using hi)

theorem VR.rigid {w w' : World} {per per' : Nat → Prop} {ι ι' : Pl} {x : LV} {v : Value} (h : VR w per ι x v) : Lite.rigid x = true → VR w' per' ι' x v := by
  induction h with
  | dead v => intro h; simp [Lite.rigid] at h
  | und => intro _; exact .und
  | bool b => intro _; exact .bool b
  | int k n => intro _; exact .int k n
  | str s => intro _; exact .str s
  | nilp => intro _; exact .nilp
  | ptr hi => intro h; simp [Lite.rigid] at h
  | pp vs h1 h2 h3 _ => intro h; simp [Lite.rigid] at h
  | nils => intro _; exact .nils
  | sl h1 h2 h3 => intro h; simp [Lite.rigid] at h
  | slz => intro h; simp [Lite.rigid] at h
  | psz => intro h; simp [Lite.rigid] at h
  | ps vs h1 h2 h3 h4 h5 _ => intro h; simp [Lite.rigid] at h
  | nilf => intro _; exact .nilf
  | yld l => intro h; simp [Lite.rigid] at h
  | fn hn hv ih => intro h; simp [Lite.rigid] at h
  | agg hn hv ih => intro h; exact .agg hn fun i hi => ih i hi (rigidL_get (by simpa [Lite.rigid] using h) i hi)
  | tup hn hv ih => intro h; exact .tup hn fun i hi => ih i hi (rigidL_get (by simpa [Lite.rigid] using h) i hi)

/-- Worlds in which all that was there is as it was. -/
theorem ST.later {cx : Ctx} {N : Dim} {ι : Pl} {per : Nat → Prop} {F : Fr} {H : Hp} {a : Act} {w w' : World} (hst : ST cx N ι per F H a w) (h : Kept (fun b => b < w.heap.size) w w') : ST cx N ι per F H a w' := by
  have hk : ∀ kp : Nat → Prop, (∀ b, kp b → b < w.heap.size) → Kept kp w w' := fun kp hk => h.mono hk
  have hs : Step per w w' := (hk per hst.rep.perlt).step
  refine ⟨⟨hst.rep.len, fun b hb => Nat.lt_of_lt_of_le (hst.rep.perlt b hb) h.size, fun k ds hk => ?_, hst.rep.inj⟩, hst.p1, hst.p2, hst.fr.step hs (fun _ _ h => h), hst.size, hst.defers.keep (hk _ hst.bs),
    hst.below.trans (hk _ hst.bs), fun b hb => Nat.lt_of_lt_of_le (hst.bs b hb) h.size, hst.grow⟩
  rcases hst.rep.live k ds hk with h1 | ⟨b, o, c, e, h1, h2, h3, h4, h5, h6⟩
  · exact .inl h1
  · exact .inr ⟨b, o, c, e, h1, h2, h3, h4.get (h.step.same _ (lt_of_get h4.1)), h5, fun i hi => (h6 i hi).step hs (fun _ h => h) (fun _ _ h => h)⟩

/-- The rows that a reader reaches. -/
def reach (H : Hp) : Nat → LV → List Nat
  | 0, _ => []
  | k + 1, x => match x with
    | .sl _ h _ _ => h :: (match row H h with | some cs => if hfreeL cs then [] else cs.flatMap (reach H k) | none => [])
    | .ptr h _ => h :: (match row H h with | some cs => if hfreeL cs then [] else cs.flatMap (reach H k) | none => [])
    | .agg cs => if hfreeL cs then [] else cs.flatMap (reach H k)
    | .fn _ cs => if hfreeL cs then [] else cs.flatMap (reach H k)
    | _ => []

theorem snap_congr {H H' : Hp} : ∀ (k : Nat) (x : LV), (∀ r ∈ reach H k x, H'[r]? = H[r]?) → snap H' k x = snap H k x := by
  intro k
  induction k with
  | zero => intro x _; rfl
  | succ k ih =>
    have ihL : ∀ (cs : List LV), (∀ r ∈ (if hfreeL cs then [] else cs.flatMap (reach H k)), H'[r]? = H[r]?) → snL (snap H' k) cs = snL (snap H k) cs := by
      intro cs h
      unfold snL
      split
      · rfl
      · rename_i hf
        rw [if_neg hf] at h
        exact List.map_congr_left fun c hc => ih c fun r hr => h r (List.mem_flatMap.2 ⟨c, hc, hr⟩)
    intro x h
    cases x with
    | sl sz r o n =>
      simp only [snap]
      have h0 := h r (by simp [reach])
      rw [row_congr h0]
      cases hrow : row H r with
      | none => rfl
      | some cs =>
        simp only [reach, hrow] at h
        simp only
        split
        · congr 1
          -- the part that is seen: its cells are among the row's
          unfold snL
          by_cases hf : hfreeL cs = true
          · have : hfreeL ((cs.drop o).take (n * sz)) = true := by
              have gen : ∀ (l : List LV), (∀ c ∈ l, hfree c = true) → hfreeL l = true := by
                intro l
                induction l with
                | nil => intro _; rfl
                | cons c r ih => intro h; simp only [hfreeL, Bool.and_eq_true]; exact ⟨h c (by simp), ih fun d hd => h d (by simp [hd])⟩
              refine gen _ fun c hc => ?_
              have hc2 := List.mem_of_mem_drop (List.mem_of_mem_take hc)
              obtain ⟨i, hi, rfl⟩ := List.getElem_of_mem hc2
              exact hfreeL_get hf i hi
            rw [if_pos this, if_pos this]
          · rw [if_neg hf] at h
            split
            · rfl
            · refine List.map_congr_left fun c hc => ih c fun r' hr => h r' ?_
              have hc2 := List.mem_of_mem_drop (List.mem_of_mem_take hc)
              exact List.mem_cons_of_mem _ (List.mem_flatMap.2 ⟨c, hc2, hr⟩)
        · rfl
    | ptr r o =>
      simp only [snap]
      have h0 := h r (by simp [reach])
      rw [row_congr h0]
      cases hrow : row H r with
      | none => rfl
      | some cs =>
        simp only [reach, hrow] at h
        simp only
        congr 1
        unfold snL
        by_cases hf : hfreeL cs = true
        · have : hfreeL (cs.drop o) = true := by
            have gen : ∀ (l : List LV), (∀ c ∈ l, hfree c = true) → hfreeL l = true := by
              intro l
              induction l with
              | nil => intro _; rfl
              | cons c r ih => intro h; simp only [hfreeL, Bool.and_eq_true]; exact ⟨h c (by simp), ih fun d hd => h d (by simp [hd])⟩
            refine gen _ fun c hc => ?_
            have hc2 := List.mem_of_mem_drop hc
            obtain ⟨i, hi, rfl⟩ := List.getElem_of_mem hc2
            exact hfreeL_get hf i hi
          rw [if_pos this, if_pos this]
        · rw [if_neg hf] at h
          split
          · rfl
          · refine List.map_congr_left fun c hc => ih c fun r' hr => h r' ?_
            have hc2 := List.mem_of_mem_drop hc
            exact List.mem_cons_of_mem _ (List.mem_flatMap.2 ⟨c, hc2, hr⟩)
    | agg cs => simp only [snap]; rw [ihL cs (by simpa only [reach] using h)]
    | fn f cs => simp only [snap]; rw [ihL cs (by simpa only [reach] using h)]
    | _ => rfl

section
variable {P : Program} {F : Fr} {H : Hp} {s : SO}

theorem enter_run {cx : Ctx} {N : Dim} {ι : Pl} {per : Nat → Prop} {a : Act} {w : World} {F : Fr} {H : Hp} (hst : ST cx N ι per F H a w) {o : Oper} {g : Operand} {args : Array Operand} {tys : Array TypeId} {f : Nat} {cap : List LV}
    (hop : o.op = .call ⟨.value g, args, tys⟩) (hg : evalO F g = .fn f cap) (hu : isUnd cap = false) (hc : callable P f = true) : ∃ vs, VL w ι per (args.toList.map (evalO F) ++ cap) vs ∧ (execOp a.eval o).run P w = .ok (.enter f vs.toArray) w := by
  have hgv := hst.fr.eval g
  rw [hg] at hgv
  generalize hgg : a.eval g = gv at hgv
  cases hgv with
  | @fn _ _ _ vs hn hv =>
    rw [fnV_off hu] at hgg
    refine ⟨args.toList.map a.eval ++ vs, (evalL hst.fr args.toList).append ⟨hn, hv⟩, ?_⟩
    obtain ⟨dst, op, ty, pos, after, guard⟩ := o
    simp only at hop
    subst hop
    simp only [execOp, resolve, hgg, Deferred.ofValue, Sem.run_bind, Sem.run_pure, Result.andThen_ok, invoke]
    have e : (#[] ++ args.map a.eval ++ vs.toArray : Array Value) = (args.toList.map a.eval ++ vs).toArray := by apply Array.ext'; simp
    rw [e]
    exact callFunc_enter hc _

/-- A callee that only reads and hands back a value that says all of itself. -/
theorem SFact.quiet {g : Operand} {args : Array Operand} {tys : Array TypeId} {f : Nat} {cap : List LV} {x : LV} {R : LV → Hp → Prop} (hw : wantS s.g F = some true) (hop : s.op = .call ⟨.value g, args, tys⟩) (hg : evalO F g = .fn f cap) (hu : isUnd cap = false)
    (hc : LC P f ((args.toList.map (evalO F) ++ cap).map (snap H 3)) [] R) (hR : ∀ y G, R y G → y = x) (hx : rigid x = true) :
    SFact P s F H ⟨s.dst, x, [], guardSlot s.g ++ slotsOf s.op, (args.toList.map (evalO F) ++ cap).flatMap (reach H 3), []⟩ := by
  refine ⟨rfl, fun ops o h1 h2 h3 cx N ι per G X a w hst hls hrs hnw K Q hK => ?_⟩
  have hwt : Region.wanted o (yielded ops a.tmps) = true := wanted_sound hst (by rw [h3, wantS_congr fun t ht => hls t (by simp [ht])]; exact hw)
  rw [if_pos hwt]
  have ho := evalO_congr (F := G) (F' := F) (op := s.op) fun t ht => hls t (by simp [ht])
  have hg' : evalO G g = .fn f cap := by rw [ho g (by rw [hop]; simp [Op.operands, Call.operands])]; exact hg
  have ha : args.toList.map (evalO G) = args.toList.map (evalO F) := List.map_congr_left fun y hy => ho y (by rw [hop]; simp [Op.operands, Call.operands]; exact .inr (by simpa using hy))
  obtain ⟨vs, hvl, hrun⟩ := enter_run hst (o := o) (h2.trans hop) hg' hu hc.1
  rw [ha] at hvl
  have hsn : VL w [] (allOf w) ((args.toList.map (evalO F) ++ cap).map (snap H 3)) vs := by
    refine ⟨by simpa using hvl.1, fun i hi => ?_⟩
    rw [List.getElem_map]
    have hi2 : i < (args.toList.map (evalO F) ++ cap).length := by simpa using hi
    have := snap_sound hst 3 _ _ (hvl.2 i hi2)
    rwa [snap_congr (H := H) (H' := X) 3 _ fun r hr => hrs r (List.mem_flatMap.2 ⟨_, List.getElem_mem hi2, hr⟩)] at this
  refine runIn (fun c hc => by rw [h2.trans hop] at hc; cases hc) hrun ?_
  rw [Oper.uponIn_enter]
  refine ⟨fun hd => (by cases hd), CallsIn.mono ((callsIn_wide (n := 0)).2 (hc.2 (fun b => b < w.heap.size) (allOf w) [] w vs (Rep.nil _ _ _ fun b hb => hb) (fun b hb => hb) (fun b hb => hb) hsn)) fun e w' ⟨v, res, G1, ι1, per1, he, hr, hkept, _, hv, _⟩ => ?_⟩
  subst he
  have := hR _ _ hr
  subst this
  exact hK ι per v w' (hst.later hkept) (hv.rigid hx) (fun _ _ => rfl)

end
end Go.Lite

/- Lite, part Y: in a region that draws its order, a call that hands back rows of its own. -/
namespace Go.Lite
open Go Go.RowKit
set_option linter.unusedVariables false

/-- ys written over l from n on. -/
def putAt {α : Type} : List α → Nat → List α → List α
  | l, _, [] => l
  | l, n, y :: r => putAt (l.set n y) (n + 1) r

theorem putAt_length {α : Type} : ∀ (ys l : List α) (n : Nat), (putAt l n ys).length = l.length := by
  intro ys
  induction ys with
  | nil => intro l n; rfl
  | cons y r ih => intro l n; simp [putAt, ih]

theorem putAt_out {α : Type} : ∀ (ys l : List α) (n k : Nat), (k < n ∨ n + ys.length ≤ k) → (putAt l n ys)[k]? = l[k]? := by
  intro ys
  induction ys with
  | nil => intro l n k _; rfl
  | cons y r ih =>
    intro l n k h
    simp only [List.length_cons] at h
    simp only [putAt]
    rw [ih _ _ _ (by omega), List.getElem?_set_ne (by omega)]

theorem putAt_in {α : Type} : ∀ (ys l : List α) (n j : Nat), j < ys.length → n + ys.length ≤ l.length → (putAt l n ys)[n + j]? = ys[j]? := by
  intro ys
  induction ys with
  | nil => intro l n j h; simp at h
  | cons y r ih =>
    intro l n j h hl
    simp only [List.length_cons] at h hl
    simp only [putAt]
    cases j with
    | zero => rw [putAt_out r (l.set n y) (n + 1) (n + 0) (.inl (by omega)), Nat.add_zero, List.getElem?_set_self (by omega)]; rfl
    | succ j =>
      rw [show n + (j + 1) = n + 1 + j by omega, ih _ _ _ (by omega) (by simp; omega)]
      simp

def wsOf : Nat → Hp → List (Nat × Option (List LV))
  | _, [] => []
  | n, r :: X => (n, r) :: wsOf (n + 1) X

theorem apply_wsOf : ∀ (Y : Hp) (X : Hp) (n : Nat), applyWs X (wsOf n Y) = putAt X n Y := by
  intro Y
  induction Y with
  | nil => intro X n; rfl
  | cons r Y ih => intro X n; simp only [wsOf, applyWs, putAt]; exact ih _ _

theorem keys_wsOf : ∀ (Y : Hp) (n x : Nat), x ∈ (wsOf n Y).map (·.1) ↔ n ≤ x ∧ x < n + Y.length := by
  intro Y
  induction Y with
  | nil => intro n x; simp [wsOf]
  | cons r Y ih => intro n x; simp only [wsOf, List.map_cons, List.mem_cons, ih, List.length_cons]; omega

section
variable {P : Program} {F : Fr} {H : Hp} {s : SO}

theorem SFact.fresh {g : Operand} {args : Array Operand} {tys : Array TypeId} {f : Nat} {cap : List LV} {x : LV} {X0 : Hp} {R : LV → Hp → Prop} (hw : wantS s.g F = some true) (hop : s.op = .call ⟨.value g, args, tys⟩) (hg : evalO F g = .fn f cap) (hu : isUnd cap = false)
    (hc : LC P f ((args.toList.map (evalO F) ++ cap).map (snap H 3)) [] R) (hR : ∀ y G, R y G → y = x ∧ G = X0) (hx : psfree x = true) (hX : psfreeH X0 = true) (n : Nat) :
    SFact P s F H ⟨s.dst, ren (n + ·) x, wsOf n (X0.map (renR (n + ·))), guardSlot s.g ++ slotsOf s.op, (args.toList.map (evalO F) ++ cap).flatMap (reach H 3), (wsOf n (X0.map (renR (n + ·)))).map (·.1)⟩ := by
  refine ⟨rfl, fun ops o h1 h2 h3 cx N ι per G X a w hst hls hrs hnw K Q hK => ?_⟩
  have hwt : Region.wanted o (yielded ops a.tmps) = true := wanted_sound hst (by rw [h3, wantS_congr fun t ht => hls t (by simp [ht])]; exact hw)
  rw [if_pos hwt]
  have ho := evalO_congr (F := G) (F' := F) (op := s.op) fun t ht => hls t (by simp [ht])
  have hg' : evalO G g = .fn f cap := by rw [ho g (by rw [hop]; simp [Op.operands, Call.operands])]; exact hg
  have ha : args.toList.map (evalO G) = args.toList.map (evalO F) := List.map_congr_left fun y hy => ho y (by rw [hop]; simp [Op.operands, Call.operands]; exact .inr (by simpa using hy))
  obtain ⟨vs, hvl, hrun⟩ := enter_run hst (o := o) (h2.trans hop) hg' hu hc.1
  rw [ha] at hvl
  have hsn : VL w [] (allOf w) ((args.toList.map (evalO F) ++ cap).map (snap H 3)) vs := by
    refine ⟨by simpa using hvl.1, fun i hi => ?_⟩
    rw [List.getElem_map]
    have hi2 : i < (args.toList.map (evalO F) ++ cap).length := by simpa using hi
    have := snap_sound hst 3 _ _ (hvl.2 i hi2)
    rwa [snap_congr (H := H) (H' := X) 3 _ fun r hr => hrs r (List.mem_flatMap.2 ⟨_, List.getElem_mem hi2, hr⟩)] at this
  refine runIn (fun c hc => by rw [h2.trans hop] at hc; cases hc) hrun ?_
  rw [Oper.uponIn_enter]
  refine ⟨fun hd => (by cases hd), CallsIn.mono ((callsIn_wide (n := 0)).2 (hc.2 (fun b => b < w.heap.size) (allOf w) [] w vs (Rep.nil _ _ _ fun b hb => hb) (fun b hb => hb) (fun b hb => hb) hsn)) fun e w' ⟨v, res, G1, ι1, per1, he, hr, q3, q4, q5, q6, _⟩ => ?_⟩
  subst he
  obtain ⟨rfl, rfl⟩ := hR _ _ hr
  have vac : ∀ j, j < G1.length → Vac N ι X (n + j) := fun j hj => hnw _ (by rw [keys_wsOf]; simp; omega)
  have hlen : G1.length = 0 ∨ n + G1.length ≤ X.length := by
    rcases Nat.eq_zero_or_pos G1.length with h | h
    · exact .inl h
    · refine .inr ?_
      have := (vac (G1.length - 1) (by omega)).2.1
      rcases Nat.lt_or_ge (n + (G1.length - 1)) X.length with h' | h'
      · omega
      · simp [List.getElem?_eq_none h'] at this
  have hιl : ι.length = X.length := hst.rep.len
  have h1l : ι1.length = G1.length := q4.len
  have hk : Kept cx.kp w w' := q3.mono fun b hb => hst.bs b hb
  have hs : Step per w w' := ⟨fun b hb => q3.step.same b (hst.rep.perlt b hb), q3.step.room⟩
  have newι : ∀ j, j < G1.length → (putAt ι n ι1)[n + j]? = ι1[j]? := fun j hj => putAt_in _ _ _ _ (by omega) (by omega)
  have outι : ∀ k, (k < n ∨ n + G1.length ≤ k) → (putAt ι n ι1)[k]? = ι[k]? := fun k hk => putAt_out _ _ _ _ (by omega)
  have oldι : ∀ (h : Nat) (b : Nat × Nat), ι[h]? = some (some b) → (putAt ι n ι1)[h]? = some (some b) := fun h b hb => by
    rw [outι]
    · exact hb
    · refine Classical.byContradiction fun hn => ?_
      have := (vac (h - n) (by omega)).2.2
      rw [show n + (h - n) = h by omega, hb] at this
      cases this
  have fwd : ∀ (j : Nat) (b : Nat × Nat), ι1[j]? = some (some b) → (putAt ι n ι1)[n + j]? = some (some b) := fun j b hb => by
    rw [newι]
    · exact hb
    · rcases Nat.lt_or_ge j ι1.length with h' | h'
      · omega
      · simp [List.getElem?_eq_none h'] at hb
  have cases_row : ∀ (k : Nat) (ds : List LV), (putAt X n (G1.map (renR (n + ·))))[k]? = some (some ds) → ((k < n ∨ n + G1.length ≤ k) ∧ X[k]? = some (some ds)) ∨ ∃ j d, k = n + j ∧ j < G1.length ∧ G1[j]? = some (some d) ∧ ds = renL (n + ·) d := by
    intro k ds hk
    by_cases hko : k < n ∨ n + G1.length ≤ k
    · rw [putAt_out _ _ _ _ (by simpa using hko)] at hk
      exact .inl ⟨hko, hk⟩
    · obtain ⟨j, rfl⟩ : ∃ j, k = n + j := ⟨k - n, by omega⟩
      have hj : j < G1.length := by omega
      rw [putAt_in _ _ _ _ (by simpa using hj) (by simp; omega), List.getElem?_map] at hk
      cases hx : G1[j]? with
      | none => rw [hx] at hk; cases hk
      | some y =>
        rw [hx] at hk
        cases y with
        | none => cases hk
        | some d => exact .inr ⟨j, d, rfl, hj, hx, (Option.some.inj (Option.some.inj hk)).symm⟩
  rw [apply_wsOf] at hK
  refine hK (putAt ι n ι1) per v w' ⟨⟨by simp [putAt_length, hιl], fun b hb => Nat.lt_of_lt_of_le (hst.rep.perlt b hb) q3.size, fun k ds hk => ?_, fun k k' ds ds' b o b' o' hk hk' hi hi' hbb => ?_⟩, hst.p1, hst.p2, fun t => (hst.fr t).step hs (fun _ h => h) oldι,
    hst.size, hst.defers.keep hk, hst.below.trans hk, fun b hb => Nat.lt_of_lt_of_le (hst.bs b hb) hk.size, hst.grow.1, fun h hh => ?_⟩ ((q5.psfree hx).ren fwd) fun h hh => ?_
  · rcases cases_row k ds hk with ⟨hko, hh⟩ | ⟨j, d, rfl, hjl, hj, rfl⟩
    · rcases hst.rep.live k ds hh with ⟨h2, h3⟩ | ⟨b, o, c, e2, h2, h3, h4, h5, h6, h7⟩
      · exact .inl ⟨by rw [outι k hko]; exact h2, h3⟩
      · exact .inr ⟨b, o, c, e2, oldι _ _ h2, h3, h4, h5.get (q3.step.same b (lt_of_get h5.1)), h6, fun i hi => (h7 i hi).step hs (fun _ h => h) oldι⟩
    · rcases q4.live j d hj with ⟨h2, h3⟩ | ⟨b, o, c, e2, h2, h3, h4, h5, h6, h7⟩
      · subst h3
        exact .inl ⟨by rw [newι j hjl]; exact h2, rfl⟩
      · refine .inr ⟨b, o, c, e2, fwd _ _ h2, fun hp => h3 (hst.bs b hp), fun hp => h3 (hst.rep.perlt b hp), h5, by simpa [renL_eq] using h6, fun i hi => ?_⟩
        have h8 := h7 i (by simpa [renL_eq] using hi)
        simp only [renL_eq, List.getElem_map]
        exact (h8.psfree (psfreeL_get (psfreeH_get hX hj) i (by simpa [renL_eq] using hi))).ren fwd
  · rcases cases_row k ds hk with ⟨hko, hh⟩ | ⟨j, d, rfl, hjl, hj, rfl⟩ <;> rcases cases_row k' ds' hk' with ⟨hko', hh'⟩ | ⟨j', d', rfl, hjl', hj', rfl⟩
    · rw [outι k hko] at hi; rw [outι k' hko'] at hi'
      exact hst.rep.inj k k' ds ds' b o b' o' hh hh' hi hi' hbb
    · rw [outι k hko] at hi
      obtain ⟨c1, e1, _, _, g3, _⟩ := hst.rep.block hh hi
      rw [newι _ hjl'] at hi'
      obtain ⟨c2, e2, g1, _⟩ := q4.block hj' hi'
      subst hbb
      exact absurd (lt_of_get g3.1) g1
    · rw [outι k' hko'] at hi'
      obtain ⟨c1, e1, _, _, g3, _⟩ := hst.rep.block hh' hi'
      rw [newι _ hjl] at hi
      obtain ⟨c2, e2, g1, _⟩ := q4.block hj hi
      subst hbb
      exact absurd (lt_of_get g3.1) g1
    · rw [newι _ hjl] at hi; rw [newι _ hjl'] at hi'
      rw [q4.inj j j' d d' b o b' o' hj hj' hi hi' hbb]
  · rw [outι]
    · exact hst.grow.2 h hh
    · refine Classical.byContradiction fun hn => ?_
      have := (vac (h - n) (by omega)).1
      omega
  · rw [outι]
    rw [keys_wsOf] at hh
    simp at hh
    omega

theorem apply_zip : ∀ (ρ : List Nat) (X Y : Hp), Y.length = ρ.length → applyWs X (ρ.zip Y) = setRows X ρ Y := by
  intro ρ
  induction ρ with
  | nil => intro X Y _; rfl
  | cons h r ih =>
    intro X Y hl
    cases Y with
    | nil => simp at hl
    | cons y Y => simp only [List.zip_cons_cons, applyWs, setRows]; exact ih _ _ (by simpa using hl)

/-- A callee to whom rows are handed over, and who makes none. -/
theorem SFact.hand {g : Operand} {args : Array Operand} {tys : Array TypeId} {f : Nat} {cap args0 : List LV} {H0 X0 Y0 : Hp} {x0 x : LV} {R : LV → Hp → Prop} (ρ : List Nat) (hw : wantS s.g F = some true) (hop : s.op = .call ⟨.value g, args, tys⟩) (hg : evalO F g = .fn f cap) (hu : isUnd cap = false)
    (hn : ρ.Nodup) (hl0 : H0.length = ρ.length) (hl1 : X0.length = ρ.length) (hlt : ∀ h ∈ ρ, h < H.length) (ha : ∀ n, args0.map (ren (gOf ρ n)) = args.toList.map (evalO F) ++ cap)
    (hrows : ∀ (n j h : Nat) (cs : List LV), ρ[j]? = some h → H0[j]? = some (some cs) → H[h]? = some (some (renL (gOf ρ n) cs)))
    (hc : LC P f args0 H0 R) (hR : ∀ y G, R y G → y = x0 ∧ G = X0) (hx : ∀ n, ren (gOf ρ n) x0 = x) (hY : ∀ n, X0.map (renR (gOf ρ n)) = Y0) :
    SFact P s F H ⟨s.dst, x, ρ.zip Y0, guardSlot s.g ++ slotsOf s.op, ρ, []⟩ := by
  refine ⟨rfl, fun ops o h1 h2 h3 cx N ι per G X a w hst hls hrs hnw K Q hK => ?_⟩
  have hwt : Region.wanted o (yielded ops a.tmps) = true := wanted_sound hst (by rw [h3, wantS_congr fun t ht => hls t (by simp [ht])]; exact hw)
  rw [if_pos hwt]
  have ho := evalO_congr (F := G) (F' := F) (op := s.op) fun t ht => hls t (by simp [ht])
  have hg' : evalO G g = .fn f cap := by rw [ho g (by rw [hop]; simp [Op.operands, Call.operands])]; exact hg
  have haa : args.toList.map (evalO G) = args.toList.map (evalO F) := List.map_congr_left fun y hy => ho y (by rw [hop]; simp [Op.operands, Call.operands]; exact .inr (by simpa using hy))
  obtain ⟨vs, hvl, hrun⟩ := enter_run hst (o := o) (h2.trans hop) hg' hu hc.1
  rw [haa, ← ha X.length] at hvl
  have hYl : Y0.length = ρ.length := by rw [← hY 0]; simpa using hl1
  have key := callK.hand (P := P) (f := f) (args0 := args0) (H := X) (H0 := H0) (K := fun y G' => y = x ∧ G' = setRows X ρ Y0) ρ hn (fun h hh => by
      have e := hrs h hh
      rw [List.getElem?_eq_getElem (hlt h hh)] at e
      exact (List.getElem?_eq_some_iff.1 e).1) hl0
    (fun j h cs hj hcs => by rw [hrs h (List.mem_of_getElem? hj)]; exact hrows _ j h cs hj hcs)
    (hc.mono fun y G' hy => by
      obtain ⟨rfl, rfl⟩ := hR y G' hy
      refine ⟨hx _, ?_⟩
      rw [List.take_of_length_le (by omega), List.drop_eq_nil_of_le (by omega), hY]; simp)
  refine runIn (fun c hc => by rw [h2.trans hop] at hc; cases hc) hrun ?_
  rw [Oper.uponIn_enter]
  refine ⟨fun hd => (by cases hd), CallsIn.mono ((callsIn_wide (n := 0)).2 (key.2 cx N ι per G a w vs hst hvl)) fun e w' ⟨v, res, H', ι', per', he, ⟨hr1, hr2⟩, hst', hv, _, _, hι⟩ => ?_⟩
  subst he; subst hr1; subst hr2
  have hst'' := hst'
  rw [← apply_zip ρ X Y0 hYl] at hst'
  refine hK ι' per' v w' hst' hv fun h _ => ?_
  rcases Nat.lt_or_ge h ι.length with hl | hl
  · exact hι h hl
  · rw [List.getElem?_eq_none hl, List.getElem?_eq_none]
    rw [hst''.rep.len, setRows_length, ← hst.rep.len]; exact hl


theorem applyWs_app : ∀ (a b : List (Nat × Option (List LV))) (H : Hp), applyWs H (a ++ b) = applyWs (applyWs H a) b := by
  intro a
  induction a with
  | nil => intro b H; rfl
  | cons p r ih => intro b H; obtain ⟨k, x⟩ := p; simp only [List.cons_append, applyWs]; exact ih _ _

/-- A callee to whom rows are handed over, and who makes some: their numbers are n and those behind it. -/
theorem SFact.handF {g₀ : Operand} {args : Array Operand} {tys : Array TypeId} {f : Nat} {cap args0 : List LV} {H0 X0 : Hp} {x0 : LV} {R : LV → Hp → Prop} (ρ : List Nat) (n : Nat) (hw : wantS s.g F = some true) (hop : s.op = .call ⟨.value g₀, args, tys⟩) (hg : evalO F g₀ = .fn f cap) (hu : isUnd cap = false)
    (hn : ρ.Nodup) (hl0 : H0.length = ρ.length) (hl1 : ρ.length ≤ X0.length) (hlt : ∀ h ∈ ρ, h < n) (hltH : ∀ h ∈ ρ, h < H.length) (ha : ∀ n, args0.map (ren (gOf ρ n)) = args.toList.map (evalO F) ++ cap)
    (hrows : ∀ (n j h : Nat) (cs : List LV), ρ[j]? = some h → H0[j]? = some (some cs) → H[h]? = some (some (renL (gOf ρ n) cs)))
    (hc : LC P f args0 H0 R) (hR : ∀ y G, R y G → y = x0 ∧ G = X0) :
    SFact P s F H ⟨s.dst, ren (gOf ρ n) x0, ρ.zip ((X0.take ρ.length).map (renR (gOf ρ n))) ++ wsOf n ((X0.drop ρ.length).map (renR (gOf ρ n))), guardSlot s.g ++ slotsOf s.op, ρ, (wsOf n ((X0.drop ρ.length).map (renR (gOf ρ n)))).map (·.1)⟩ := by
  refine ⟨rfl, fun ops o h1 h2 h3 cx N ι per G X a w hst hls hrs hnw K Q hK => ?_⟩
  have hwt : Region.wanted o (yielded ops a.tmps) = true := wanted_sound hst (by rw [h3, wantS_congr fun t ht => hls t (by simp [ht])]; exact hw)
  rw [if_pos hwt]
  have ho := evalO_congr (F := G) (F' := F) (op := s.op) fun t ht => hls t (by simp [ht])
  have hg' : evalO G g₀ = .fn f cap := by rw [ho g₀ (by rw [hop]; simp [Op.operands, Call.operands])]; exact hg
  have haa : args.toList.map (evalO G) = args.toList.map (evalO F) := List.map_congr_left fun y hy => ho y (by rw [hop]; simp [Op.operands, Call.operands]; exact .inr (by simpa using hy))
  obtain ⟨vs, hvl, hrun⟩ := enter_run hst (o := o) (h2.trans hop) hg' hu hc.1
  rw [haa, ← ha X.length] at hvl
  have hltX : ∀ h ∈ ρ, h < X.length := fun h hh => by
    have e := hrs h hh
    rw [List.getElem?_eq_getElem (hltH h hh)] at e
    exact (List.getElem?_eq_some_iff.1 e).1
  obtain ⟨g0, hg0⟩ : ∃ g0, g0 = gOf ρ X.length := ⟨_, rfl⟩
  have hrows : ∀ (j h : Nat) (cs : List LV), ρ[j]? = some h → H0[j]? = some (some cs) → X[h]? = some (some (renL g0 cs)) := fun j h cs hj hcs => by
    rw [hrs h (List.mem_of_getElem? hj), hg0]; exact hrows _ j h cs hj hcs
  rw [← hg0] at hvl
  have g0_lt : ∀ (j h : Nat), ρ[j]? = some h → g0 j = h := fun j h hj => by rw [hg0, gOf, hj]
  have g0_ge : ∀ j, ρ.length ≤ j → g0 j = X.length + (j - ρ.length) := fun j hj => by rw [hg0, gOf, List.getElem?_eq_none hj]
  obtain ⟨g, hgg⟩ : ∃ g, g = gOf ρ n := ⟨_, rfl⟩
  rw [← hgg] at hK hnw
  have g_lt : ∀ (j h : Nat), ρ[j]? = some h → g j = h := fun j h hj => by rw [hgg, gOf, hj]
  have g_ge : ∀ j, ρ.length ≤ j → g j = n + (j - ρ.length) := fun j hj => by rw [hgg, gOf, List.getElem?_eq_none hj]
  refine runIn (fun c hc => by rw [h2.trans hop] at hc; cases hc) hrun ?_
  rw [Oper.uponIn_enter]
  let ιc : Pl := ρ.map fun h => (ι[h]?).getD none
  have hιc : ∀ (j h : Nat), ρ[j]? = some h → ιc[j]? = some ((ι[h]?).getD none) := fun j h hj => by simp [ιc, hj]
  have hιcl : ιc.length = ρ.length := by simp [ιc]
  have back : ∀ (j : Nat) (b : Nat × Nat), ι[g0 j]? = some (some b) → ιc[j]? = some (some b) := by
    intro j b hb
    rcases Nat.lt_or_ge j ρ.length with hj | hj
    · have e := List.getElem?_eq_getElem hj
      rw [g0_lt j _ e] at hb
      rw [hιc j _ e, hb]; rfl
    · rw [g0_ge j hj, List.getElem?_eq_none (by rw [hst.rep.len]; omega)] at hb
      cases hb
  have pl : ∀ (j : Nat) (b : Nat × Nat), ιc[j]? = some (some b) → ∃ h, ρ[j]? = some h ∧ ι[h]? = some (some b) := by
    intro j b hb
    rcases Nat.lt_or_ge j ρ.length with hj | hj
    · have e := List.getElem?_eq_getElem hj
      rw [hιc j _ e] at hb
      refine ⟨_, e, ?_⟩
      cases hx : ι[ρ[j]]? with
      | none => rw [hx] at hb; simp at hb
      | some y => rw [hx] at hb; simpa using hb
    · rw [List.getElem?_eq_none (by rw [hιcl]; exact hj)] at hb; cases hb
  let kp : Nat → Prop := fun b => b < w.heap.size ∧ ∀ (j o : Nat), ∀ cs, H0[j]? = some (some cs) → ιc[j]? ≠ some (some (b, o))
  have hrep : Rep kp w ιc per H0 := by
    refine ⟨by rw [hιcl, hl0], hst.rep.perlt, fun j cs hj => ?_, fun j j' cs cs' b o b' o' hj hj' hi hi' hbb => ?_⟩
    · have hjl : j < ρ.length := by rw [← hl0]; exact lt_row hj
      have e := List.getElem?_eq_getElem hjl
      rcases hst.rep.live _ _ (hrows j _ cs e hj) with ⟨h2, h3⟩ | ⟨b, o, c, e2, h2, h3, h4, h5, h6, h7⟩
      · refine .inl ⟨by rw [hιc j _ e, h2]; rfl, ?_⟩
        rw [renL_eq] at h3
        exact List.map_eq_nil_iff.1 h3
      · have hi : ιc[j]? = some (some (b, o)) := by rw [hιc j _ e, h2]; rfl
        refine .inr ⟨b, o, c, e2, hi, fun hk => hk.2 j o cs hj hi, h4, h5, by simpa [renL_eq] using h6, fun i hi => ?_⟩
        have := h7 i (by simpa [renL_eq] using hi)
        exact this.unren back (by simp [renL_eq])
    · obtain ⟨h1, e1, q1⟩ := pl _ _ hi
      obtain ⟨h2, e2, q2⟩ := pl _ _ hi'
      have := hst.rep.inj h1 h2 _ _ b o b' o' (hrows j h1 cs e1 hj) (hrows j' h2 cs' e2 hj') q1 q2 hbb
      subst this
      obtain ⟨l1, r1⟩ := List.getElem?_eq_some_iff.1 e1
      obtain ⟨l2, r2⟩ := List.getElem?_eq_some_iff.1 e2
      rcases Nat.lt_trichotomy j j' with hlt' | hlt' | hlt'
      · exact absurd (r1.trans r2.symm) (List.pairwise_iff_getElem.1 hn j j' l1 l2 hlt')
      · exact hlt'
      · exact absurd (r2.trans r1.symm) (List.pairwise_iff_getElem.1 hn j' j l2 l1 hlt')
  have perk : ∀ b, per b → kp b := fun b hb => ⟨hst.rep.perlt b hb, fun j o cs hj hi => by
    obtain ⟨h1, e1, q1⟩ := pl _ _ hi
    obtain ⟨c, e, _, k1, _⟩ := hst.rep.block (hrows j h1 cs e1 hj) q1
    exact k1 hb⟩
  have cxk : ∀ b, cx.kp b → kp b := fun b hb => ⟨hst.bs b hb, fun j o cs hj hi => by
    obtain ⟨h1, e1, q1⟩ := pl _ _ hi
    obtain ⟨c, e, k0, _⟩ := hst.rep.block (hrows j h1 cs e1 hj) q1
    exact k0 hb⟩
  have hargs : VL w ιc per args0 vs := ⟨by simpa using hvl.1, fun i hi => by
    have := hvl.2 i (by simpa using hi)
    exact this.unren back (by simp)⟩
  refine ⟨fun hd => (by cases hd), CallsIn.mono ((callsIn_wide (n := 0)).2 (hc.2 kp per ιc w vs hrep (fun b hb => hb.1) perk hargs)) fun e w' ⟨v, res, H1, ι1, per', q1, qR, q3, q4, q5, q6, q7, q8⟩ => ?_⟩
  subst q1
  obtain ⟨rfl, rfl⟩ := hR _ _ qR
  have hk : Kept cx.kp w w' := q3.mono cxk
  have hs : Step per w w' := ⟨fun b hb => q3.step.same b (perk b hb), q3.step.room⟩
  have hιl : ι.length = X.length := hst.rep.len
  have h1l : ι1.length = H1.length := q4.len
  have dl : (ι1.drop ρ.length).length = H1.length - ρ.length := by rw [List.length_drop, h1l]
  have vac : ∀ j, j < H1.length - ρ.length → Vac N ι X (n + j) := fun j hj => hnw _ (by rw [keys_wsOf]; simp; omega)
  have hlen : H1.length - ρ.length = 0 ∨ n + (H1.length - ρ.length) ≤ X.length := by
    rcases Nat.eq_zero_or_pos (H1.length - ρ.length) with h | h
    · exact .inl h
    · refine .inr ?_
      have := (vac (H1.length - ρ.length - 1) (by omega)).2.1
      rcases Nat.lt_or_ge (n + (H1.length - ρ.length - 1)) X.length with h' | h'
      · omega
      · simp [List.getElem?_eq_none h'] at this
  let ι2 : Pl := putAt ι n (ι1.drop ρ.length)
  have outι : ∀ k, (k < n ∨ n + (H1.length - ρ.length) ≤ k) → ι2[k]? = ι[k]? := fun k hk => putAt_out _ _ _ _ (by omega)
  have oldι : ∀ (h : Nat) (b : Nat × Nat), ι[h]? = some (some b) → ι2[h]? = some (some b) := fun h b hb => by
    rw [outι]
    · exact hb
    · refine Classical.byContradiction fun hn => ?_
      have := (vac (h - n) (by omega)).2.2
      rw [show n + (h - n) = h by omega, hb] at this
      cases this
  have newι : ∀ j, ρ.length ≤ j → j < H1.length → ι2[g j]? = ι1[j]? := fun j hj hj2 => by
    simp only [ι2]
    rw [g_ge j hj, putAt_in _ _ _ _ (by omega) (by omega), List.getElem?_drop]
    congr 1; omega
  have fwd : ∀ (j : Nat) (b : Nat × Nat), ι1[j]? = some (some b) → ι2[g j]? = some (some b) := by
    intro j b hb
    rcases Nat.lt_or_ge j ρ.length with hj | hj
    · rw [q8 j (by rw [hιcl]; exact hj)] at hb
      obtain ⟨h1, e1, r1⟩ := pl _ _ hb
      rw [g_lt j h1 e1]
      exact oldι _ _ r1
    · have hj2 : j < H1.length := by
        rcases Nat.lt_or_ge j H1.length with h' | h'
        · exact h'
        · rw [List.getElem?_eq_none (by omega)] at hb; cases hb
      rw [newι j hj hj2]; exact hb
  obtain ⟨H2, hH2⟩ : ∃ H2, H2 = putAt (setRows X ρ ((H1.take ρ.length).map (renR g))) n ((H1.drop ρ.length).map (renR g)) := ⟨_, rfl⟩
  have sl : ((H1.drop ρ.length).map (renR g)).length = H1.length - ρ.length := by simp
  have cases_row : ∀ (k : Nat) (ds : List LV), H2[k]? = some (some ds) →
      ((k < n ∨ n + (H1.length - ρ.length) ≤ k) ∧ k ∉ ρ ∧ X[k]? = some (some ds)) ∨ ∃ j d, g j = k ∧ j < H1.length ∧ H1[j]? = some (some d) ∧ ds = renL g d := by
    intro k ds hk
    rw [hH2] at hk
    by_cases hkl : k < n ∨ n + (H1.length - ρ.length) ≤ k
    · rw [putAt_out _ _ _ _ (by rw [sl]; exact hkl)] at hk
      by_cases hm : k ∈ ρ
      · obtain ⟨j, hjl, hj⟩ := List.getElem_of_mem hm
        have e : ρ[j]? = some k := by rw [List.getElem?_eq_getElem hjl, hj]
        rw [setRows_at ρ X _ j k hn e (hltX k hm)] at hk
        simp only [Option.some.injEq, List.getElem?_map, List.getElem?_take, hjl, if_true] at hk
        cases hx : H1[j]? with
        | none => rw [hx] at hk; cases hk
        | some y =>
          rw [hx] at hk
          cases y with
          | none => cases hk
          | some d => exact .inr ⟨j, d, g_lt j k e, by omega, hx, (Option.some.inj hk).symm⟩
      · rw [setRows_other _ _ _ _ hm] at hk
        exact .inl ⟨hkl, hm, hk⟩
    · obtain ⟨j, rfl⟩ : ∃ j, k = n + j := ⟨k - n, by omega⟩
      rw [putAt_in _ _ _ _ (by rw [sl]; omega) (by rw [sl, setRows_length]; omega), List.getElem?_map, List.getElem?_drop] at hk
      cases hx : H1[ρ.length + j]? with
      | none => rw [hx] at hk; cases hk
      | some y =>
        rw [hx] at hk
        cases y with
        | none => cases hk
        | some d => exact .inr ⟨_, d, by rw [g_ge _ (by omega)]; omega, by omega, hx, (Option.some.inj (Option.some.inj hk)).symm⟩
  have place : ∀ (j : Nat) (d : List LV) (b o : Nat), j < H1.length → H1[j]? = some (some d) → ι2[g j]? = some (some (b, o)) → ι1[j]? = some (some (b, o)) := by
    intro j d b o hj2 hj hb
    rcases Nat.lt_or_ge j ρ.length with hjl | hjl
    · have e := List.getElem?_eq_getElem hjl
      rw [g_lt j _ e] at hb
      have : ι[ρ[j]]? = some (some (b, o)) := by
        rwa [outι _ (.inl (hlt _ (List.getElem_mem hjl)))] at hb
      rw [q8 j (by rw [hιcl]; exact hjl), hιc j _ e, this]; rfl
    · rw [newι j hjl hj2] at hb; exact hb
  have other : ∀ (k : Nat) (ds : List LV) (b o : Nat), k ∉ ρ → X[k]? = some (some ds) → ι[k]? = some (some (b, o)) → kp b := by
    intro k ds b o hk hh hi
    obtain ⟨c, e, k0, k1, k2, _⟩ := hst.rep.block hh hi
    refine ⟨lt_of_get k2.1, fun j o' cs hj hij => ?_⟩
    obtain ⟨h1, e1, r1⟩ := pl _ _ hij
    have := hst.rep.inj k h1 _ _ b o b o' hh (hrows j h1 cs e1 hj) hi r1 rfl
    subst this
    exact hk (List.mem_of_getElem? e1)
  rw [applyWs_app, apply_zip _ _ _ (by simp; omega), apply_wsOf, ← hH2] at hK
  refine hK ι2 per' v w' ⟨⟨?_, q4.perlt, fun k ds hk => ?_, fun k k' ds ds' b o b' o' hk hk' hi hi' hbb => ?_⟩, fun b hb => ?_, fun b hb => q7 b (hst.p2 b hb), fun t => ?_, hst.size, hst.defers.keep hk, hst.below.trans hk,
    fun b hb => Nat.lt_of_lt_of_le (hst.bs b hb) hk.size, hst.grow.1, fun h hh => ?_⟩ (q5.ren fwd) fun h hh => ?_
  · rw [hH2]
    simp only [ι2, putAt_length, setRows_length]
    exact hιl
  · rcases cases_row k ds hk with ⟨hkl, hm, hh⟩ | ⟨j, d, rfl, hj2, hj, rfl⟩
    · rcases hst.rep.live k ds hh with ⟨h2, h3⟩ | ⟨b, o, c, e2, h2, h3, h4, h5, h6, h7⟩
      · exact .inl ⟨by rw [outι _ hkl]; exact h2, h3⟩
      · have hkb := other k ds b o hm hh h2
        refine .inr ⟨b, o, c, e2, oldι _ _ h2, h3, fun hp => ?_, h5.get (q3.step.same b hkb), h6, fun i hi => (h7 i hi).step hs q7 oldι⟩
        rcases q6 b hp with h | h
        · exact h4 h
        · exact h hkb
    · rcases q4.live j d hj with ⟨h2, h3⟩ | ⟨b, o, c, e2, h2, h3, h4, h5, h6, h7⟩
      · subst h3
        refine .inl ⟨?_, rfl⟩
        rcases Nat.lt_or_ge j ρ.length with hjl | hjl
        · have e := List.getElem?_eq_getElem hjl
          rw [q8 j (by rw [hιcl]; exact hjl), hιc j _ e] at h2
          have hl : ρ[j] < ι.length := by rw [hιl]; exact hltX _ (List.getElem_mem hjl)
          rw [g_lt j _ e, outι _ (.inl (hlt _ (List.getElem_mem hjl))), List.getElem?_eq_getElem hl]
          rw [List.getElem?_eq_getElem hl] at h2
          simpa using h2
        · rw [newι j hjl hj2]; exact h2
      · refine .inr ⟨b, o, c, e2, fwd _ _ h2, fun hp => h3 (cxk b hp), h4, h5, by simpa [renL_eq] using h6, fun i hi => ?_⟩
        have := h7 i (by simpa [renL_eq] using hi)
        simp only [renL_eq, List.getElem_map]
        exact this.ren fwd
  · rcases cases_row k ds hk with ⟨hkl, hm, hh⟩ | ⟨j, d, rfl, hj2, hj, rfl⟩ <;> rcases cases_row k' ds' hk' with ⟨hkl', hm', hh'⟩ | ⟨j', d', rfl, hj2', hj', rfl⟩
    · have o1 : ι[k]? = some (some (b, o)) := by
        rwa [outι _ hkl] at hi
      have o2 : ι[k']? = some (some (b', o')) := by
        rwa [outι _ hkl'] at hi'
      exact hst.rep.inj k k' ds ds' b o b' o' hh hh' o1 o2 hbb
    · have o1 : ι[k]? = some (some (b, o)) := by
        rwa [outι _ hkl] at hi
      obtain ⟨c2, e2, k2, _⟩ := q4.block hj' (place _ _ _ _ hj2' hj' hi')
      subst hbb
      exact absurd (other k ds b o hm hh o1) k2
    · have o2 : ι[k']? = some (some (b', o')) := by
        rwa [outι _ hkl'] at hi'
      obtain ⟨c2, e2, k2, _⟩ := q4.block hj (place _ _ _ _ hj2 hj hi)
      subst hbb
      exact absurd (other k' ds' b o' hm' hh' o2) k2
    · rw [q4.inj j j' d d' b o b' o' hj hj' (place _ _ _ _ hj2 hj hi) (place _ _ _ _ hj2' hj' hi') hbb]
  · rcases q6 b hb with h | h
    · exact hst.p1 b h
    · exact .inr fun hp => h (cxk b hp)
  · exact (hst.fr t).step hs q7 oldι
  · rw [outι]
    · exact hst.grow.2 h hh
    · refine Classical.byContradiction fun hn => ?_
      have := (vac (h - n) (by omega)).1
      omega
  · rw [outι]
    rw [keys_wsOf] at hh
    simp at hh
    omega

end
end Go.Lite
