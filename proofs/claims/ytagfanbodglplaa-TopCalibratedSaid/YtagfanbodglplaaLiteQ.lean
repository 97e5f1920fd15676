/- Lite, parts Q. -/
import Derived.Test.YtagfanbodglplaaLiteN
import Derived.OrdersIn
set_option linter.unusedVariables false
set_option linter.unusedSimpArgs false

/- Lite, part Q: regions that draw their order: where operations that do not wait for each other are apart, the order of the text serves. -/
namespace Go.Lite
open Go Go.RowKit
set_option linter.unusedVariables false

/-- What an operation did in the order of the text: its slot and value, the rows that it laid anew, the slots and rows that it looked at, the rows that it made. -/
structure DA where
  d : Option Nat
  x : LV
  ws : List (Nat × Option (List LV))
  ls : List Nat
  rs : List Nat
  nw : List Nat

instance : Inhabited DA := ⟨⟨none, .dead, [], [], [], []⟩⟩

def DA.keys (c : DA) : List Nat := c.ws.map (·.1)

def fD (D : Nat → Bool) : Nat → List DA → Fr → Fr
  | _, [], F => F
  | k, c :: r, F => fD D (k + 1) r (if D k then lput c.d c.x F else F)
def hD (D : Nat → Bool) : Nat → List DA → Hp → Hp
  | _, [], H => H
  | k, c :: r, H => hD D (k + 1) r (if D k then applyWs H c.ws else H)

theorem fget_lput_ne {d : Option Nat} {x : LV} {F : Fr} {t : Nat} (h : d ≠ some t) : fget (lput d x F) t = fget F t := by
  cases d with
  | none => rfl
  | some d =>
    show fget (fset F d x) t = _
    rw [fget_fset, if_neg (fun e => h (by rw [e]))]
theorem fget_lput_eq {x : LV} {F : Fr} {t : Nat} : fget (lput (some t) x F) t = x := by
  show fget (fset F t x) t = _
  rw [fget_fset, if_pos rfl]

theorem fD_agree {D D' : Nat → Bool} {t : Nat} : ∀ (cs : List DA) (k : Nat) (F F' : Fr), (∀ (i : Nat) (c : DA), cs[i]? = some c → D (k + i) ≠ D' (k + i) → c.d ≠ some t) → fget F t = fget F' t → fget (fD D k cs F) t = fget (fD D' k cs F') t := by
  intro cs
  induction cs with
  | nil => intro k F F' _ h; exact h
  | cons c r ih =>
    intro k F F' h hF
    refine ih (k + 1) _ _ (fun i c' hc hd => h (i + 1) c' (by simpa using hc) (by rw [show k + (i + 1) = k + 1 + i by omega]; exact hd)) ?_
    by_cases e : D k = D' k
    · rw [e]
      split
      · by_cases hc : c.d = some t
        · rw [hc, fget_lput_eq, fget_lput_eq]
        · rw [fget_lput_ne hc, fget_lput_ne hc]; exact hF
      · exact hF
    · have hc := h 0 c rfl e
      split <;> split <;> first | exact hF | (rw [fget_lput_ne hc]; exact hF) | (rw [fget_lput_ne hc, fget_lput_ne hc]; exact hF)

theorem fD_last {D : Nat → Bool} {t : Nat} : ∀ (cs : List DA) (k j : Nat) (F : Fr) (c : DA), cs[j]? = some c → D (k + j) = true → c.d = some t → (∀ (i : Nat) (c : DA), j < i → cs[i]? = some c → D (k + i) = true → c.d ≠ some t) → fget (fD D k cs F) t = c.x := by
  intro cs
  induction cs with
  | nil => intro k j F c h; simp at h
  | cons c0 r ih =>
    intro k j F c hc hD hd hno
    cases j with
    | zero =>
      simp only [List.getElem?_cons_zero, Option.some.injEq] at hc
      subst hc
      show fget (fD D (k + 1) r (if D k then lput c0.d c0.x F else F)) t = _
      have hk : D k = true := hD
      have h2 := fD_agree (D := D) (D' := fun _ => false) (t := t) r (k + 1) (if D k then lput c0.d c0.x F else F) (if D k then lput c0.d c0.x F else F) (fun i c' hc' hne => hno (i + 1) c' (by omega) (by simpa using hc') (by
        rw [show k + (i + 1) = k + 1 + i by omega]; simpa using hne)) rfl
      rw [h2]
      have h3 : ∀ (cs : List DA) (k : Nat) (F : Fr), fD (fun _ => false) k cs F = F := by
        intro cs
        induction cs with
        | nil => intro k F; rfl
        | cons c r ih => intro k F; simp only [fD, Bool.false_eq_true, if_false]; exact ih _ _
      rw [h3, if_pos hk, hd, fget_lput_eq]
    | succ j =>
      exact ih (k + 1) j _ c (by simpa using hc) (by rw [show k + 1 + j = k + (j + 1) by omega]; exact hD) hd (fun i c' hi hc' hD' => hno (i + 1) c' (by omega) (by simpa using hc') (by rw [show k + (i + 1) = k + 1 + i by omega]; exact hD'))

theorem applyWs_length : ∀ (ws : List (Nat × Option (List LV))) (H : Hp), (applyWs H ws).length = H.length := by
  intro ws
  induction ws with
  | nil => intro H; rfl
  | cons p r ih => intro H; obtain ⟨h, x⟩ := p; simp only [applyWs]; rw [ih]; simp

theorem applyWs_other : ∀ (ws : List (Nat × Option (List LV))) (H : Hp) (h : Nat), h ∉ ws.map (·.1) → (applyWs H ws)[h]? = H[h]? := by
  intro ws
  induction ws with
  | nil => intro H h _; rfl
  | cons p r ih =>
    intro H h hn
    obtain ⟨k, x⟩ := p
    simp only [List.map_cons, List.mem_cons, not_or] at hn
    simp only [applyWs]
    rw [ih _ _ hn.2, List.getElem?_set_ne (fun e => hn.1 e.symm)]

theorem applyWs_agree : ∀ (ws : List (Nat × Option (List LV))) (H H' : Hp) (h : Nat), H.length = H'.length → H[h]? = H'[h]? → (applyWs H ws)[h]? = (applyWs H' ws)[h]? := by
  intro ws
  induction ws with
  | nil => intro H H' h _ e; exact e
  | cons p r ih =>
    intro H H' h hl e
    obtain ⟨k, x⟩ := p
    simp only [applyWs]
    refine ih _ _ h (by simp [hl]) ?_
    rw [List.getElem?_set, List.getElem?_set, hl, e]

theorem applyWs_at : ∀ (ws : List (Nat × Option (List LV))) (H H' : Hp) (h : Nat), H.length = H'.length → h ∈ ws.map (·.1) → (applyWs H ws)[h]? = (applyWs H' ws)[h]? := by
  intro ws
  induction ws with
  | nil => intro H H' h _ e; simp at e
  | cons p r ih =>
    intro H H' h hl e
    obtain ⟨k, x⟩ := p
    simp only [applyWs]
    by_cases hr : h ∈ r.map (·.1)
    · exact ih _ _ h (by simp [hl]) hr
    · simp only [List.map_cons, List.mem_cons] at e
      rcases e with rfl | e
      · rw [applyWs_other _ _ _ hr, applyWs_other _ _ _ hr, List.getElem?_set, List.getElem?_set, if_pos rfl, if_pos rfl, hl]
      · exact absurd e hr

theorem hD_length {D : Nat → Bool} : ∀ (cs : List DA) (k : Nat) (H : Hp), (hD D k cs H).length = H.length := by
  intro cs
  induction cs with
  | nil => intro k H; rfl
  | cons c r ih => intro k H; simp only [hD]; rw [ih]; split <;> simp [applyWs_length]

theorem hD_agree {D D' : Nat → Bool} {h : Nat} : ∀ (cs : List DA) (k : Nat) (H H' : Hp), H.length = H'.length → (∀ (i : Nat) (c : DA), cs[i]? = some c → D (k + i) ≠ D' (k + i) → h ∉ c.keys) → H[h]? = H'[h]? → (hD D k cs H)[h]? = (hD D' k cs H')[h]? := by
  intro cs
  induction cs with
  | nil => intro k H H' _ _ h; exact h
  | cons c r ih =>
    intro k H H' hl hk hH
    refine ih (k + 1) _ _ (by split <;> split <;> simp [applyWs_length, hl]) (fun i c' hc hd => hk (i + 1) c' (by simpa using hc) (by rw [show k + (i + 1) = k + 1 + i by omega]; exact hd)) ?_
    by_cases e : D k = D' k
    · rw [e]
      split
      · exact applyWs_agree _ _ _ _ hl hH
      · exact hH
    · have hc := hk 0 c rfl e
      unfold DA.keys at hc
      split <;> split <;> first | exact hH | (rw [applyWs_other _ _ _ hc]; exact hH) | (rw [applyWs_other _ _ _ hc, applyWs_other _ _ _ hc]; exact hH)

theorem hD_last {D D' : Nat → Bool} {h : Nat} : ∀ (cs : List DA) (k j : Nat) (H : Hp) (X : Hp) (c : DA), X.length = H.length → cs[j]? = some c → D (k + j) = true → h ∈ c.keys → (∀ (i : Nat) (c : DA), j < i → cs[i]? = some c → D (k + i) = true → h ∉ c.keys) → (hD D k cs H)[h]? = (applyWs X c.ws)[h]? := by
  intro cs
  induction cs with
  | nil => intro k j H X c _ h; simp at h
  | cons c0 r ih =>
    intro k j H X c hX hc hDj hd hno
    cases j with
    | zero =>
      simp only [List.getElem?_cons_zero, Option.some.injEq] at hc
      subst hc
      show (hD D (k + 1) r (if D k then applyWs H c0.ws else H))[h]? = _
      have hk : D k = true := hDj
      have h2 := hD_agree (D := D) (D' := fun _ => false) (h := h) r (k + 1) (if D k then applyWs H c0.ws else H) (if D k then applyWs H c0.ws else H) rfl (fun i c' hc' hne => hno (i + 1) c' (by omega) (by simpa using hc') (by
        rw [show k + (i + 1) = k + 1 + i by omega]; simpa using hne)) rfl
      rw [h2]
      have h3 : ∀ (cs : List DA) (k : Nat) (F : Hp), hD (fun _ => false) k cs F = F := by
        intro cs
        induction cs with
        | nil => intro k F; rfl
        | cons c r ih => intro k F; simp only [hD, Bool.false_eq_true, if_false]; exact ih _ _
      rw [h3, if_pos hk]
      exact applyWs_at _ _ _ _ hX.symm hd
    | succ j =>
      refine ih (k + 1) j _ X c ?_ (by simpa using hc) (by rw [show k + 1 + j = k + (j + 1) by omega]; exact hDj) hd (fun i c' hi hc' hD' => hno (i + 1) c' (by omega) (by simpa using hc') (by rw [show k + (i + 1) = k + 1 + i by omega]; exact hD'))
      rw [hX]; split <;> simp [applyWs_length]

/-- A row in any state of the region: as in the other, or as an operation laid it that has come up here alone. -/
theorem hD_alt {D D' : Nat → Bool} {h : Nat} {B : Option (Option (List LV)) → Prop} : ∀ (cs : List DA) (k : Nat) (H H' : Hp), H.length = H'.length →
    (∀ (i : Nat) (c : DA), cs[i]? = some c → h ∈ c.keys → D (k + i) = true → D' (k + i) = false → ∀ X : Hp, X.length = H.length → B ((applyWs X c.ws)[h]?)) →
    (∀ (i : Nat) (c : DA), cs[i]? = some c → h ∈ c.keys → D (k + i) = false → D' (k + i) = true → False) →
    (H[h]? = H'[h]? ∨ B (H[h]?)) → ((hD D k cs H)[h]? = (hD D' k cs H')[h]? ∨ B ((hD D k cs H)[h]?)) := by
  intro cs
  induction cs with
  | nil => intro k H H' _ _ _ h0; exact h0
  | cons c r ih =>
    intro k H H' hl h1 h2 h0
    simp only [hD]
    have e : ∀ i, k + 1 + i = k + (i + 1) := fun i => by omega
    refine ih (k + 1) _ _ (by split <;> split <;> simp [applyWs_length, hl]) (fun i c' hc hk hd hd' X hX => ?_) (fun i c' hc hk hd hd' => ?_) ?_
    · refine h1 (i + 1) c' (by simpa using hc) hk (by rw [← e]; exact hd) (by rw [← e]; exact hd') X ?_
      rw [hX]; split <;> simp [applyWs_length]
    · exact h2 (i + 1) c' (by simpa using hc) hk (by rw [← e]; exact hd) (by rw [← e]; exact hd')
    · by_cases hk : h ∈ c.keys
      · have a1 := h1 0 c rfl hk
        have a2 := h2 0 c rfl hk
        rw [Nat.add_zero] at a1 a2
        cases hd : D k with
        | true =>
          cases hd' : D' k with
          | true => exact .inl (applyWs_at _ _ _ _ hl hk)
          | false => exact .inr (a1 hd hd' H rfl)
        | false =>
          cases hd' : D' k with
          | true => exact (a2 hd hd').elim
          | false => exact h0
      · have o1 := applyWs_other c.ws H h hk
        have o2 := applyWs_other c.ws H' h hk
        split <;> split <;> (try simp only [o1, o2]) <;> exact h0

/-- An operation does in every state that agrees with F, H where it looks what c says. -/
def DFact (P : Program) (ops : Array Oper) (o : Oper) (Fj : Fr) (Hj : Hp) (c : DA) : Prop :=
  ∀ (cx : Ctx) (N : Dim) (ι : Pl) (per : Nat → Prop) (F : Fr) (H : Hp) (a : Act) (w : World), ST cx N ι per F H a w → (∀ t ∈ c.ls, fget F t = fget Fj t) → (∀ h ∈ c.rs, H[h]? = Hj[h]?) → (∀ h ∈ c.nw, Vac N ι H h) →
    ∀ (K : Act → World → Prop) (Q : Exit → Act → World → Prop), (∀ (ι' : Pl) (per' : Nat → Prop) (v : Value) (w' : World), ST cx N ι' per' F (applyWs H c.ws) a w' → VR w' per' ι' c.x v → (∀ h, h ∉ c.nw → ι'[h]? = ι[h]?) → K (a.put o.dst v) w') →
    if Region.wanted o (yielded ops a.tmps) then o.wpIn (fen cx) 0 P a w K Q else K (a.put o.dst undef) w

/-! ### Who waits for whom -/
def maskOf (ms : List Nat) : List Nat → Nat
  | [] => 0
  | e :: r => Nat.lor (Nat.lor (2 ^ e) (ms.getD e 0)) (maskOf ms r)
def masks : List (List Nat) → List Nat → List Nat
  | [], ms => ms
  | l :: r, ms => masks r (ms ++ [maskOf ms l])

theorem maskOf_bit (ms : List Nat) : ∀ (l : List Nat) (i : Nat), (maskOf ms l).testBit i = true → ∃ e ∈ l, e = i ∨ (ms.getD e 0).testBit i = true := by
  intro l
  induction l with
  | nil => intro i h; simp [maskOf] at h
  | cons e r ih =>
    intro i h
    have h' : ((2 ^ e ||| ms.getD e 0) ||| maskOf ms r).testBit i = true := h
    rw [Nat.testBit_or, Nat.testBit_or, Bool.or_eq_true, Bool.or_eq_true] at h'
    rcases h' with (h1 | h1) | h1
    · refine ⟨e, by simp, .inl ?_⟩
      rw [Nat.testBit_two_pow] at h1
      simpa using h1
    · exact ⟨e, by simp, .inr h1⟩
    · obtain ⟨e', he, h2⟩ := ih i h1
      exact ⟨e', by simp [he], h2⟩

theorem masks_spec : ∀ (af : List (List Nat)) (ms : List Nat), (masks af ms).length = ms.length + af.length ∧ (∀ j, j < ms.length → (masks af ms).getD j 0 = ms.getD j 0) ∧
    ∀ (j : Nat) (l : List Nat), af[j]? = some l → ∃ ms', (masks af ms).getD (ms.length + j) 0 = maskOf ms' l ∧ ms'.length = ms.length + j ∧ ∀ e, e < ms.length + j → ms'.getD e 0 = (masks af ms).getD e 0 := by
  intro af
  induction af with
  | nil => intro ms; exact ⟨by simp [masks], fun _ _ => rfl, fun j l h => by simp at h⟩
  | cons l0 r ih =>
    intro ms
    obtain ⟨h1, h2, h3⟩ := ih (ms ++ [maskOf ms l0])
    simp only [List.length_append, List.length_singleton] at h1 h2 h3
    have old : ∀ j, j < ms.length → (masks (l0 :: r) ms).getD j 0 = ms.getD j 0 := by
      intro j hj
      simp only [masks]
      rw [h2 j (by omega)]
      simp [List.getD_eq_getElem?_getD, List.getElem?_append_left hj]
    refine ⟨by simp only [masks, h1, List.length_cons]; omega, old, fun j l hl => ?_⟩
    cases j with
    | zero =>
      simp only [List.getElem?_cons_zero, Option.some.injEq] at hl
      subst hl
      refine ⟨ms, ?_, by simp, fun e he => (old e (by simpa using he)).symm⟩
      simp only [masks, Nat.add_zero]
      rw [h2 ms.length (by omega)]
      simp [List.getD_eq_getElem?_getD]
    | succ j =>
      obtain ⟨ms', k1, k2, k3⟩ := h3 j l (by simpa using hl)
      refine ⟨ms', ?_, by omega, fun e he => ?_⟩
      · simp only [masks]
        rw [show ms.length + (j + 1) = ms.length + 1 + j by omega]; exact k1
      · simp only [masks]
        exact k3 e (by omega)

def nIn (l m : List Nat) : Bool := l.all fun x => !(m.contains x)

theorem nIn_spec {l m : List Nat} (h : nIn l m = true) : ∀ x ∈ l, x ∉ m := by
  intro x hx hm
  have := List.all_eq_true.1 h x hx
  simp at this
  exact this hm

/-- The later one does not look at what the other lays, nor do they lay the same. -/
def apW (ci cj : DA) : Bool :=
  (match ci.d with | some t => !(cj.ls.contains t) && (match cj.d with | some u => !(Nat.beq t u) | none => true) | none => true) &&
  (match cj.d with | some t => !(ci.ls.contains t) | none => true) &&
  nIn ci.keys cj.rs && nIn ci.keys cj.keys
theorem apW_spec {ci cj : DA} (h : apW ci cj = true) : (∀ t, ci.d = some t → t ∉ cj.ls ∧ cj.d ≠ some t) ∧ (∀ t, cj.d = some t → t ∉ ci.ls) ∧ (∀ x ∈ ci.keys, x ∉ cj.rs) ∧ ∀ x ∈ ci.keys, x ∉ cj.keys := by
  unfold apW at h
  simp only [Bool.and_eq_true] at h
  obtain ⟨⟨⟨h1, h2⟩, h3⟩, h4⟩ := h
  refine ⟨fun t ht => ?_, fun t ht => ?_, nIn_spec h3, nIn_spec h4⟩
  · rw [ht] at h1
    simp only [Bool.and_eq_true, Bool.not_eq_true'] at h1
    refine ⟨by simpa using h1.1, fun e => ?_⟩
    rw [e] at h1
    simp at h1
  · rw [ht] at h2
    simpa using h2

def tolB (tol : List (Nat × Nat)) (i j : Nat) : Bool := tol.any fun p => Nat.beq p.1 i && Nat.beq p.2 j
theorem tolB_spec {tol : List (Nat × Nat)} {i j : Nat} (h : tolB tol i j = true) : (i, j) ∈ tol := by
  obtain ⟨p, hp, h1⟩ := List.any_eq_true.1 h
  simp only [Bool.and_eq_true] at h1
  obtain ⟨a, b⟩ := p
  have e1 : a = i := by simpa using h1.1
  have e2 : b = j := by simpa using h1.2
  subst e1; subst e2; exact hp

/-- An operation i of a pair (i, j) of tol may look at what the later j lays. -/
def okTol (tol : List (Nat × Nat)) (af : List (List Nat)) (cs : List DA) : Bool :=
  let ms := masks af []
  (List.range cs.length).all fun j => ((af.getD j []).all fun e => Nat.blt e j) && ((cs.getD j default).nw.all fun x => (cs.getD j default).keys.contains x) &&
    (List.range j).all fun i => (Nat.testBit (ms.getD j 0) i || (apW (cs.getD i default) (cs.getD j default) && (nIn (cs.getD j default).keys (cs.getD i default).rs || tolB tol i j))) && nIn (cs.getD j default).nw (cs.getD i default).keys
def okB (af : List (List Nat)) (cs : List DA) : Bool := okTol [] af cs

structure Okay (tol : List (Nat × Nat)) (af : List (List Nat)) (cs : List DA) : Prop where
  lt : ∀ (j : Nat) (l : List Nat), j < cs.length → af[j]? = some l → ∀ e ∈ l, e < j
  nwk : ∀ (j : Nat) (c : DA), cs[j]? = some c → ∀ x ∈ c.nw, x ∈ c.keys
  ap : ∀ (i j : Nat) (ci cj : DA), i < j → cs[i]? = some ci → cs[j]? = some cj → ((masks af []).getD j 0).testBit i = true ∨ (apW ci cj = true ∧ ((∀ x ∈ cj.keys, x ∉ ci.rs) ∨ (i, j) ∈ tol))
  nw : ∀ (i j : Nat) (ci cj : DA), i < j → cs[i]? = some ci → cs[j]? = some cj → ∀ x ∈ cj.nw, x ∉ ci.keys

theorem okTol_spec {tol : List (Nat × Nat)} {af : List (List Nat)} {cs : List DA} (h : okTol tol af cs = true) : Okay tol af cs := by
  unfold okTol at h
  have key : ∀ j, j < cs.length → _ := fun j hj => List.all_eq_true.1 h j (by simpa using hj)
  simp only [Bool.and_eq_true, Bool.or_eq_true] at key
  have gd : ∀ (j : Nat) (c : DA), cs[j]? = some c → j < cs.length ∧ cs.getD j default = c := fun j c hc => by
    obtain ⟨h1, h2⟩ := List.getElem?_eq_some_iff.1 hc
    exact ⟨h1, by simp [List.getD_eq_getElem?_getD, hc]⟩
  refine ⟨fun j l hj hl e he => ?_, fun j c hc x hx => ?_, fun i j ci cj hij hi hj => ?_, fun i j ci cj hij hi hj x hx => ?_⟩
  · have := (key j hj).1.1
    rw [show af.getD j [] = l by simp [List.getD_eq_getElem?_getD, hl]] at this
    simpa using List.all_eq_true.1 this e he
  · obtain ⟨h1, h2⟩ := gd j c hc
    have := (key j h1).1.2
    rw [h2] at this
    simpa using List.all_eq_true.1 this x hx
  · obtain ⟨h1, h2⟩ := gd i ci hi
    obtain ⟨h3, h4⟩ := gd j cj hj
    have := List.all_eq_true.1 (key j h3).2 i (by simpa using hij)
    rw [h2, h4] at this
    simp only [Bool.and_eq_true, Bool.or_eq_true] at this
    exact this.1.imp id fun h => ⟨h.1, h.2.imp nIn_spec tolB_spec⟩
  · obtain ⟨h1, h2⟩ := gd i ci hi
    obtain ⟨h3, h4⟩ := gd j cj hj
    have := List.all_eq_true.1 (key j h3).2 i (by simpa using hij)
    rw [h2, h4] at this
    simp only [Bool.and_eq_true] at this
    exact nIn_spec this.2 x hx

/-- All that an operation waits for has come up, and the order is kept: then so has all that it waits for in the end. -/
theorem bef_done {af : List (List Nat)} {n : Nat} (hn : af.length = n) (hlt : ∀ (j : Nat) (l : List Nat), j < n → af[j]? = some l → ∀ e ∈ l, e < j) {D : Nat → Bool}
    (hD : ∀ (j : Nat) (l : List Nat), j < n → D j = true → af[j]? = some l → ∀ e ∈ l, D e = true) : ∀ (j : Nat) (l : List Nat), j < n → af[j]? = some l → (∀ e ∈ l, D e = true) → ∀ i, ((masks af []).getD j 0).testBit i = true → D i = true := by
  intro j
  induction j using Nat.strongRecOn with
  | _ j ih =>
    intro l hj hl hd i hi
    obtain ⟨_, _, h3⟩ := masks_spec af []
    obtain ⟨ms', k1, k2, k3⟩ := h3 j l hl
    simp only [List.length_nil, Nat.zero_add] at k1 k2 k3
    rw [k1] at hi
    obtain ⟨e, he, h | h⟩ := maskOf_bit ms' l i hi
    · subst h; exact hd _ he
    · have hej := hlt j l hj hl e he
      rw [k3 e hej] at h
      have hen : e < n := by omega
      have hl2 : af[e]? = some af[e] := List.getElem?_eq_getElem (by omega)
      exact ih e hej _ hen hl2 (hD e _ hen (hd e he) hl2) i h

theorem count_set {l : List Bool} : ∀ {j : Nat}, l[j]? = some false → (l.set j true).count false + 1 = l.count false := by
  induction l with
  | nil => intro j h; simp at h
  | cons b r ih =>
    intro j h
    cases j with
    | zero =>
      simp only [List.getElem?_cons_zero, Option.some.injEq] at h
      subst h
      simp
    | succ j =>
      simp only [List.getElem?_cons_succ] at h
      have := ih h
      simp only [List.set_cons_succ, List.count_cons]
      omega

section
variable {P : Program} {cx : Ctx} {N : Dim} {ι : Pl} {per : Nat → Prop} {a : Act} {w : World}

theorem wpAny_da {ops : Array Oper} {tol : List (Nat × Nat)} {cs : List DA} {F0 : Fr} {H0 : Hp} {Q : LPost} (hl : cs.length = ops.size) (hok : Okay tol (ops.toList.map waits) cs)
    (ht : ∀ i k, (i, k) ∈ tol → ∀ (o : Oper) (c ck : DA), ops[i]? = some o → cs[i]? = some c → cs[k]? = some ck → ∃ r Hk, c.rs = [r] ∧ (∀ X : Hp, X.length = H0.length → r ∈ ck.keys → (applyWs X ck.ws)[r]? = Hk[r]?) ∧ DFact P ops o (fD (fun m => decide (m < i)) 0 cs F0) Hk c)
    (hd : ∀ (j : Nat) (o : Oper) (c : DA), ops[j]? = some o → cs[j]? = some c → c.d = o.dst ∧ ∀ k, o.dst = some k → k < N.n)
    (hf : ∀ (j : Nat) (o : Oper) (c : DA), ops[j]? = some o → cs[j]? = some c → DFact P ops o (fD (fun i => decide (i < j)) 0 cs F0) (hD (fun i => decide (i < j)) 0 cs H0) c)
    (hvac : ∀ (j : Nat) (c : DA), cs[j]? = some c → ∀ x ∈ c.nw, N.m ≤ x ∧ H0[x]? = some none)
    (hQ : ∀ F H, (∀ t, fget F t = fget (fD (fun _ => true) 0 cs F0) t) → H = hD (fun _ => true) 0 cs H0 → ∀ a w, SR cx N F H a w → LQ Q cx N .normal a w) :
    ∀ (fuel : Nat) (listed : Array Bool) (a : Act) (w : World) (ι : Pl) (per : Nat → Prop) (F : Fr) (H : Hp), listed.size = ops.size → listed.toList.count false ≤ fuel →
      (∀ (j : Nat) (o : Oper), ops[j]? = some o → listed.getD j false = true → ∀ e ∈ waits o, listed.getD e false = true) →
      (∀ t, fget F t = fget (fD (fun i => listed.getD i false) 0 cs F0) t) → H = hD (fun i => listed.getD i false) 0 cs H0 →
      (∀ (j : Nat) (c : DA), cs[j]? = some c → listed.getD j false = false → ∀ x ∈ c.nw, ι[x]? = some none) →
      ST cx N ι per F H a w → wpAnyIn (fen cx) 0 P .any ops (LQ Q cx N) fuel listed a w := by
  have afl : (ops.toList.map waits).length = ops.size := by simp
  have afg : ∀ (j : Nat) (o : Oper), ops[j]? = some o → (ops.toList.map waits)[j]? = some (waits o) := fun j o h => by simp [h]
  have fin : ∀ (listed : Array Bool) (a : Act) (w : World) (ι : Pl) (per : Nat → Prop) (F : Fr) (H : Hp), listed.size = ops.size → (∀ i, i < ops.size → listed.getD i false = true) →
      (∀ t, fget F t = fget (fD (fun i => listed.getD i false) 0 cs F0) t) → H = hD (fun i => listed.getD i false) 0 cs H0 → ST cx N ι per F H a w → LQ Q cx N .normal a w := by
    intro listed a w ι per F H hs hall hF hH hst
    refine hQ F H (fun t => ?_) ?_ a w (.of hst)
    · rw [hF t]
      exact fD_agree cs 0 _ _ (fun i c hc hne => absurd (by rw [Nat.zero_add, hall i (by rw [← hl]; exact (List.getElem?_eq_some_iff.1 hc).1)]) hne) rfl
    · rw [hH]
      apply List.ext_getElem?
      intro h
      exact hD_agree cs 0 _ _ rfl (fun i c hc hne => absurd (by rw [Nat.zero_add, hall i (by rw [← hl]; exact (List.getElem?_eq_some_iff.1 hc).1)]) hne) rfl
  have noready : ∀ (listed : Array Bool), listed.size = ops.size → Region.ready .any ops listed = [] → ∀ i, i < ops.size → listed.getD i false = true := by
    intro listed hs hr i
    induction i using Nat.strongRecOn with
    | _ i ih =>
      intro hi
      cases hx : listed.getD i false with
      | true => rfl
      | false =>
        exfalso
        have ho : ops[i]? = some ops[i] := Array.getElem?_eq_getElem hi
        have : i ∈ Region.ready .any ops listed := mem_ready.2 ⟨by
          have hi2 : i < listed.size := by omega
          simpa [hi2] using hx, ops[i], ho, fun e he hb => by
            have hw : e.on ∈ waits ops[i] := by
              unfold waits
              exact List.mem_map.2 ⟨e, List.mem_filter.2 ⟨by simpa using he, hb⟩, rfl⟩
            have hlt := hok.lt i _ (by rw [hl]; exact hi) (afg i _ ho) _ hw
            exact ih e.on hlt (by omega)⟩
        rw [hr] at this
        cases this
  intro fuel
  induction fuel with
  | zero =>
    intro listed a w ι per F H hs hc hdn hF hH hι hst
    have hall : ∀ i, i < ops.size → listed.getD i false = true := by
      intro i hi
      cases hx : listed.getD i false with
      | true => rfl
      | false =>
        exfalso
        have hi2 : i < listed.size := by omega
        have : false ∈ listed.toList := by
          have : listed[i] = false := by simpa [hi2] using hx
          rw [← this]; simp
        have := List.count_pos_iff.2 this
        omega
    refine ⟨?_, fin listed a w ι per F H hs hall hF hH hst⟩
    cases hr : Region.ready .any ops listed with
    | nil => rfl
    | cons i r =>
      exfalso
      have : i ∈ Region.ready .any ops listed := by rw [hr]; simp
      obtain ⟨h1, o, ho, _⟩ := mem_ready.1 this
      have hi := (Array.getElem?_eq_some_iff.1 ho).1
      have := hall i hi
      have hi2 : i < listed.size := by omega
      simp [hi2] at h1 this
      rw [this] at h1; cases h1
  | succ fuel ih =>
    intro listed a w ι per F H hs hc hdn hF hH hι hst
    refine ⟨fun hr => fin listed a w ι per F H hs (noready listed hs hr) hF hH hst, fun j hj => ?_⟩
    obtain ⟨hjl, o, ho, hjw⟩ := mem_ready.1 hj
    have hjn := (Array.getElem?_eq_some_iff.1 ho).1
    have hj2 : j < listed.size := by omega
    have hjf : listed.getD j false = false := by simpa [hj2] using hjl
    obtain ⟨c, hcj⟩ : ∃ c, cs[j]? = some c := ⟨_, List.getElem?_eq_getElem (by omega)⟩
    obtain ⟨hcd, hdn2⟩ := hd j o c ho hcj
    have hpre : ∀ e ∈ waits o, listed.getD e false = true := by
      intro e he
      unfold waits at he
      obtain ⟨e', he', rfl⟩ := List.mem_map.1 he
      have := List.mem_filter.1 he'
      exact hjw e' (by simpa using this.1) this.2
    have hbef : ∀ i, ((masks (ops.toList.map waits) []).getD j 0).testBit i = true → listed.getD i false = true :=
      bef_done (n := ops.size) afl (fun j l hj hl2 e he => hok.lt j l (by rw [hl]; exact hj) hl2 e he) (D := fun i => listed.getD i false) (fun k l hk hDk hlk e he => by
        have hok2 : ops[k]? = some ops[k] := Array.getElem?_eq_getElem hk
        rw [afg k _ hok2] at hlk
        obtain rfl := Option.some.inj hlk
        exact hdn k _ hok2 hDk e he) j _ hjn (afg j o ho) hpre
    -- those that have come up behind j, and those before j that have not, are apart from j
    have later : ∀ (k : Nat) (ck : DA), j < k → cs[k]? = some ck → listed.getD k false = true → apW c ck = true ∧ ((∀ x ∈ ck.keys, x ∉ c.rs) ∨ (j, k) ∈ tol) := by
      intro k ck hjk hk hDk
      rcases hok.ap j k c ck hjk hcj hk with h | h
      · exfalso
        have hkn : k < ops.size := by rw [← hl]; exact (List.getElem?_eq_some_iff.1 hk).1
        have hko : ops[k]? = some ops[k] := Array.getElem?_eq_getElem hkn
        have := bef_done (n := ops.size) afl (fun j l hj hl' e he => hok.lt j l (by rw [hl]; exact hj) hl' e he) (D := fun i => listed.getD i false) (fun k l hk hDk hlk e he => by
          have hok2 : ops[k]? = some ops[k] := Array.getElem?_eq_getElem hk
          rw [afg k _ hok2] at hlk
          obtain rfl := Option.some.inj hlk
          exact hdn k _ hok2 hDk e he) k _ hkn (afg k _ hko) (hdn k _ hko hDk) j h
        rw [hjf] at this; cases this
      · exact h
    have earlier : ∀ (i : Nat) (ci : DA), i < j → cs[i]? = some ci → listed.getD i false = false → apW ci c = true := by
      intro i ci hij hi hDi
      rcases hok.ap i j ci c hij hi hcj with h | h
      · have := hbef i h
        rw [hDi] at this; cases this
      · exact h.1
    -- what j looks at is as in the order of the text
    have hls : ∀ t ∈ c.ls, fget F t = fget (fD (fun i => decide (i < j)) 0 cs F0) t := by
      intro t ht
      rw [hF t]
      refine fD_agree cs 0 _ _ (fun i ci hci hne => ?_) rfl
      rw [Nat.zero_add] at hne
      intro hdi
      rcases Nat.lt_trichotomy i j with h | h | h
      · have hDi : listed.getD i false = false := by simpa [h] using hne
        exact ((apW_spec (earlier i ci h hci hDi)).1 t hdi).1 ht
      · subst h; simp [hjf] at hne
      · have hDi : listed.getD i false = true := by simpa [show ¬ i < j by omega] using hne
        exact (apW_spec (later i ci h hci hDi).1).2.1 t hdi ht
    have hrs : ∀ h ∈ c.rs, H[h]? = (hD (fun i => decide (i < j)) 0 cs H0)[h]? ∨ ∃ k ck, (j, k) ∈ tol ∧ cs[k]? = some ck ∧ h ∈ ck.keys ∧ ∃ X : Hp, X.length = H0.length ∧ H[h]? = (applyWs X ck.ws)[h]? := by
      intro r hr
      rw [hH]
      refine hD_alt (B := fun y => ∃ k ck, (j, k) ∈ tol ∧ cs[k]? = some ck ∧ r ∈ ck.keys ∧ ∃ X : Hp, X.length = H0.length ∧ y = (applyWs X ck.ws)[r]?) cs 0 _ _ rfl (fun i ci hci hki h1 h2 X hX => ?_) (fun i ci hci hki h1 h2 => ?_) (.inl rfl)
      · rw [Nat.zero_add] at h1 h2
        have hji : j < i := by
          have : ¬ i < j := by simpa using h2
          rcases Nat.lt_or_ge j i with h | h
          · exact h
          · have : i = j := by omega
            subst this; rw [hjf] at h1; cases h1
        rcases (later i ci hji hci h1).2 with h | h
        · exact absurd hr (h r hki)
        · exact ⟨i, ci, h, hci, hki, X, hX, rfl⟩
      · rw [Nat.zero_add] at h1 h2
        have hij : i < j := by simpa using h2
        exact (apW_spec (earlier i ci hij hci h1)).2.2.1 r hki hr
    have hnw : ∀ h ∈ c.nw, Vac N ι H h := by
      intro r hr
      obtain ⟨v1, v2⟩ := hvac j c hcj r hr
      refine ⟨v1, ?_, hι j c hcj hjf r hr⟩
      rw [hH, ← v2]
      have h3 : ∀ (cs : List DA) (k : Nat) (F : Hp), hD (fun _ => false) k cs F = F := by
        intro cs
        induction cs with
        | nil => intro k F; rfl
        | cons c r ih => intro k F; simp only [hD, Bool.false_eq_true, if_false]; exact ih _ _
      have := hD_agree (D := fun i => listed.getD i false) (D' := fun _ => false) (h := r) cs 0 H0 H0 rfl (fun i ci hci hne => by
        rw [Nat.zero_add] at hne
        have hDi : listed.getD i false = true := by simpa using hne
        rcases Nat.lt_trichotomy i j with h | h | h
        · exact hok.nw i j ci c h hci hcj r hr
        · subst h; rw [hjf] at hDi; cases hDi
        · intro hki
          exact (apW_spec (later i ci h hci hDi).1).2.2.2 r (hok.nwk j c hcj r hr) hki) rfl
      rw [this, h3]
    have step0 : ∀ (K : Act → World → Prop) (Q : Exit → Act → World → Prop), (∀ (ι' : Pl) (per' : Nat → Prop) (v : Value) (w' : World), ST cx N ι' per' F (applyWs H c.ws) a w' → VR w' per' ι' c.x v → (∀ h, h ∉ c.nw → ι'[h]? = ι[h]?) → K (a.put o.dst v) w') →
        if Region.wanted o (yielded ops a.tmps) then o.wpIn (fen cx) 0 P a w K Q else K (a.put o.dst undef) w := by
      by_cases hall : ∀ h ∈ c.rs, H[h]? = (hD (fun i => decide (i < j)) 0 cs H0)[h]?
      · exact hf j o c ho hcj cx N ι per F H a w hst hls hall hnw
      · obtain ⟨r, hr⟩ := Classical.not_forall.1 hall
        obtain ⟨hr, hne⟩ := Classical.not_imp.1 hr
        obtain ⟨k, ck, ht1, hck, hkk, X, hX, hrow⟩ := (hrs r hr).resolve_left hne
        obtain ⟨r', Hk, e1, e2, e3⟩ := ht j k ht1 o c ck ho hcj hck
        rw [e1] at hr
        obtain rfl := List.mem_singleton.1 hr
        exact e3 cx N ι per F H a w hst hls (fun h hh => by rw [e1] at hh; obtain rfl := List.mem_singleton.1 hh; rw [hrow]; exact e2 X hX hkk) hnw
    have step := step0 (fun a' w' => wpAnyIn (fen cx) 0 P .any ops (LQ Q cx N) fuel (listed.setIfInBounds j true) a' w') (LQ Q cx N) (fun ι' per' v w' hst' hv hι' => ?_)
    · unfold wpOpIn
      simp only [ho]
      split
      · rename_i hw; rw [if_pos hw] at step; exact step
      · rename_i hw; rw [if_neg hw] at step; exact ⟨fun _ _ => trivial, step⟩
    · have Dn : ∀ i, (listed.setIfInBounds j true).getD i false = if i = j then true else listed.getD i false := by
        intro i
        simp only [Array.getD_eq_getD_getElem?, Array.getElem?_setIfInBounds]
        by_cases e : i = j
        · subst e; simp [hj2]
        · rw [if_neg (fun h => e h.symm), if_neg e]
      refine ih (listed.setIfInBounds j true) (a.put o.dst v) w' ι' per' (lput o.dst c.x F) (applyWs H c.ws) (by simpa using hs) ?_ (fun k ok hk hDk e he => ?_) (fun t => ?_) ?_ (fun k ck hk hDk x hx => ?_) (hst'.put hdn2 hv)
      · have : listed.toList[j]? = some false := by
          have : listed[j] = false := by simpa [hj2] using hjl
          simp [hj2, this]
        have := count_set this
        simp only [Array.toList_setIfInBounds]
        omega
      · rw [Dn] at hDk ⊢
        by_cases e2 : e = j
        · rw [if_pos e2]
        · rw [if_neg e2]
          by_cases e3 : k = j
          · subst e3
            rw [ho] at hk
            obtain rfl := Option.some.inj hk
            exact hpre e he
          · rw [if_neg e3] at hDk
            exact hdn k ok hk hDk e he
      · -- the frame
        have agree : ∀ {t}, c.d ≠ some t → fget (fD (fun i => (listed.setIfInBounds j true).getD i false) 0 cs F0) t = fget F t := by
          intro t hne
          rw [hF t]
          refine fD_agree cs 0 _ _ (fun i ci hci hdiff => ?_) rfl
          rw [Nat.zero_add, Dn] at hdiff
          by_cases e : i = j
          · subst e
            rw [hcj] at hci
            obtain rfl := Option.some.inj hci
            exact hne
          · rw [if_neg e] at hdiff; exact absurd rfl hdiff
        by_cases hd2 : c.d = some t
        · rw [← hcd, hd2, fget_lput_eq]
          refine (fD_last cs 0 j F0 c hcj (by rw [Nat.zero_add, Dn, if_pos rfl]) hd2 (fun i ci hji hci hDi => ?_)).symm
          rw [Nat.zero_add, Dn, if_neg (by omega)] at hDi
          exact ((apW_spec (later i ci hji hci hDi).1).1 t hd2).2
        · rw [agree hd2, ← hcd, fget_lput_ne hd2]
      · -- the rows
        apply List.ext_getElem?
        intro r
        by_cases hk : r ∈ c.keys
        · refine (hD_last (D' := fun _ => true) cs 0 j H0 H c ?_ hcj (by rw [Nat.zero_add, Dn, if_pos rfl]) hk (fun i ci hji hci hDi => ?_)).symm
          · rw [hH, hD_length]
          · rw [Nat.zero_add, Dn, if_neg (by omega)] at hDi
            exact (apW_spec (later i ci hji hci hDi).1).2.2.2 r hk
        · rw [applyWs_other _ _ _ hk, hH]
          refine hD_agree cs 0 _ _ rfl (fun i ci hci hdiff => ?_) rfl
          rw [Nat.zero_add, Dn] at hdiff
          by_cases e : i = j
          · subst e
            rw [hcj] at hci
            obtain rfl := Option.some.inj hci
            exact hk
          · rw [if_neg e] at hdiff; exact absurd rfl hdiff
      · rw [Dn] at hDk
        by_cases e : k = j
        · rw [if_pos e] at hDk; cases hDk
        · rw [if_neg e] at hDk
          have hxc : x ∉ c.nw := by
            intro hxc
            rcases Nat.lt_or_ge k j with h | h
            · exact hok.nw k j ck c h hk hcj x hxc (hok.nwk k ck hk x hx)
            · exact hok.nw j k c ck (by omega) hcj hk x hx (hok.nwk j c hcj x hxc)
          rw [hι' x hxc]
          exact hι k ck hk hDk x hx

end

end Go.Lite
