/- Lite, parts TA TB. -/
import Derived.Test.YtbaepacihkgalaaLiteN
import Derived.OrdersIn
set_option linter.unusedVariables false
set_option linter.unusedSimpArgs false

/- Lite, part Q: regions that draw their order: where operations that do not wait for each other are apart, the order of the text serves. -/
namespace Go.Lite
open Go Go.RowKit
set_option linter.unusedVariables false

/-- What an operation did in the order of the text: its slot and value, the rows that it laid anew, the slots and rows that it looked at, the rows that it made. -/
structure DA where
  d : Option Nat
  x : LV
  ws : List (Nat × Option (List LV))
  ls : List Nat
  rs : List Nat
  nw : List Nat

instance : Inhabited DA := ⟨⟨none, .dead, [], [], [], []⟩⟩

def DA.keys (c : DA) : List Nat := c.ws.map (·.1)

def fD (D : Nat → Bool) : Nat → List DA → Fr → Fr
  | _, [], F => F
  | k, c :: r, F => fD D (k + 1) r (if D k then lput c.d c.x F else F)
def hD (D : Nat → Bool) : Nat → List DA → Hp → Hp
  | _, [], H => H
  | k, c :: r, H => hD D (k + 1) r (if D k then applyWs H c.ws else H)

theorem fget_lput_ne {d : Option Nat} {x : LV} {F : Fr} {t : Nat} (h : d ≠ some t) : fget (lput d x F) t = fget F t := by
  cases d with
  | none => rfl
  | some d =>
    show fget (fset F d x) t = _
    rw [fget_fset, if_neg (fun e => h (by rw [e]))]
theorem fget_lput_eq {x : LV} {F : Fr} {t : Nat} : fget (lput (some t) x F) t = x := by
  show fget (fset F t x) t = _
  rw [fget_fset, if_pos rfl]

theorem fD_agree {D D' : Nat → Bool} {t : Nat} : ∀ (cs : List DA) (k : Nat) (F F' : Fr), (∀ (i : Nat) (c : DA), cs[i]? = some c → D (k + i) ≠ D' (k + i) → c.d ≠ some t) → fget F t = fget F' t → fget (fD D k cs F) t = fget (fD D' k cs F') t := by
  intro cs
  induction cs with
  | nil => intro k F F' _ h; exact h
  | cons c r ih =>
    intro k F F' h hF
    refine ih (k + 1) _ _ (fun i c' hc hd => h (i + 1) c' (by simpa using hc) (by rw [show k + (i + 1) = k + 1 + i by omega]; exact hd)) ?_
    by_cases e : D k = D' k
    · rw [e]
      split
      · by_cases hc : c.d = some t
        · rw [hc, fget_lput_eq, fget_lput_eq]
        · rw [fget_lput_ne hc, fget_lput_ne hc]; exact hF
      · exact hF
    · have hc := h 0 c rfl e
      split <;> split <;> first | exact hF | (rw [fget_lput_ne hc]; exact hF) | (rw [fget_lput_ne hc, fget_lput_ne hc]; exact hF)

theorem fD_last {D : Nat → Bool} {t : Nat} : ∀ (cs : List DA) (k j : Nat) (F : Fr) (c : DA), cs[j]? = some c → D (k + j) = true → c.d = some t → (∀ (i : Nat) (c : DA), j < i → cs[i]? = some c → D (k + i) = true → c.d ≠ some t) → fget (fD D k cs F) t = c.x := by
  intro cs
  induction cs with
  | nil => intro k j F c h; simp at h
  | cons c0 r ih =>
    intro k j F c hc hD hd hno
    cases j with
    | zero =>
      simp only [List.getElem?_cons_zero, Option.some.injEq] at hc
      subst hc
      show fget (fD D (k + 1) r (if D k then lput c0.d c0.x F else F)) t = _
      have hk : D k = true := hD
      have h2 := fD_agree (D := D) (D' := fun _ => false) (t := t) r (k + 1) (if D k then lput c0.d c0.x F else F) (if D k then lput c0.d c0.x F else F) (fun i c' hc' hne => hno (i + 1) c' (by omega) (by simpa using hc') (by
        rw [show k + (i + 1) = k + 1 + i by omega]; simpa using hne)) rfl
      rw [h2]
      have h3 : ∀ (cs : List DA) (k : Nat) (F : Fr), fD (fun _ => false) k cs F = F := by
        intro cs
        induction cs with
        | nil => intro k F; rfl
        | cons c r ih => intro k F; simp only [fD, Bool.false_eq_true, if_false]; exact ih _ _
      rw [h3, if_pos hk, hd, fget_lput_eq]
    | succ j =>
      exact ih (k + 1) j _ c (by simpa using hc) (by rw [show k + 1 + j = k + (j + 1) by omega]; exact hD) hd (fun i c' hi hc' hD' => hno (i + 1) c' (by omega) (by simpa using hc') (by rw [show k + (i + 1) = k + 1 + i by omega]; exact hD'))

theorem applyWs_length : ∀ (ws : List (Nat × Option (List LV))) (H : Hp), (applyWs H ws).length = H.length := by
  intro ws
  induction ws with
  | nil => intro H; rfl
  | cons p r ih => intro H; obtain ⟨h, x⟩ := p; simp only [applyWs]; rw [ih]; simp

theorem applyWs_other : ∀ (ws : List (Nat × Option (List LV))) (H : Hp) (h : Nat), h ∉ ws.map (·.1) → (applyWs H ws)[h]? = H[h]? := by
  intro ws
  induction ws with
  | nil => intro H h _; rfl
  | cons p r ih =>
    intro H h hn
    obtain ⟨k, x⟩ := p
    simp only [List.map_cons, List.mem_cons, not_or] at hn
    simp only [applyWs]
    rw [ih _ _ hn.2, List.getElem?_set_ne (fun e => hn.1 e.symm)]

theorem applyWs_agree : ∀ (ws : List (Nat × Option (List LV))) (H H' : Hp) (h : Nat), H.length = H'.length → H[h]? = H'[h]? → (applyWs H ws)[h]? = (applyWs H' ws)[h]? := by
  intro ws
  induction ws with
  | nil => intro H H' h _ e; exact e
  | cons p r ih =>
    intro H H' h hl e
    obtain ⟨k, x⟩ := p
    simp only [applyWs]
    refine ih _ _ h (by simp [hl]) ?_
    rw [List.getElem?_set, List.getElem?_set, hl, e]

theorem applyWs_at : ∀ (ws : List (Nat × Option (List LV))) (H H' : Hp) (h : Nat), H.length = H'.length → h ∈ ws.map (·.1) → (applyWs H ws)[h]? = (applyWs H' ws)[h]? := by
  intro ws
  induction ws with
  | nil => intro H H' h _ e; simp at e
  | cons p r ih =>
    intro H H' h hl e
    obtain ⟨k, x⟩ := p
    simp only [applyWs]
    by_cases hr : h ∈ r.map (·.1)
    · exact ih _ _ h (by simp [hl]) hr
    · simp only [List.map_cons, List.mem_cons] at e
      rcases e with rfl | e
      · rw [applyWs_other _ _ _ hr, applyWs_other _ _ _ hr, List.getElem?_set, List.getElem?_set, if_pos rfl, if_pos rfl, hl]
      · exact absurd e hr

theorem hD_length {D : Nat → Bool} : ∀ (cs : List DA) (k : Nat) (H : Hp), (hD D k cs H).length = H.length := by
  intro cs
  induction cs with
  | nil => intro k H; rfl
  | cons c r ih => intro k H; simp only [hD]; rw [ih]; split <;> simp [applyWs_length]

theorem hD_agree {D D' : Nat → Bool} {h : Nat} : ∀ (cs : List DA) (k : Nat) (H H' : Hp), H.length = H'.length → (∀ (i : Nat) (c : DA), cs[i]? = some c → D (k + i) ≠ D' (k + i) → h ∉ c.keys) → H[h]? = H'[h]? → (hD D k cs H)[h]? = (hD D' k cs H')[h]? := by
  intro cs
  induction cs with
  | nil => intro k H H' _ _ h; exact h
  | cons c r ih =>
    intro k H H' hl hk hH
    refine ih (k + 1) _ _ (by split <;> split <;> simp [applyWs_length, hl]) (fun i c' hc hd => hk (i + 1) c' (by simpa using hc) (by rw [show k + (i + 1) = k + 1 + i by omega]; exact hd)) ?_
    by_cases e : D k = D' k
    · rw [e]
      split
      · exact applyWs_agree _ _ _ _ hl hH
      · exact hH
    · have hc := hk 0 c rfl e
      unfold DA.keys at hc
      split <;> split <;> first | exact hH | (rw [applyWs_other _ _ _ hc]; exact hH) | (rw [applyWs_other _ _ _ hc, applyWs_other _ _ _ hc]; exact hH)

theorem hD_last {D D' : Nat → Bool} {h : Nat} : ∀ (cs : List DA) (k j : Nat) (H : Hp) (X : Hp) (c : DA), X.length = H.length → cs[j]? = some c → D (k + j) = true → h ∈ c.keys → (∀ (i : Nat) (c : DA), j < i → cs[i]? = some c → D (k + i) = true → h ∉ c.keys) → (hD D k cs H)[h]? = (applyWs X c.ws)[h]? := by
  intro cs
  induction cs with
  | nil => intro k j H X c _ h; simp at h
  | cons c0 r ih =>
    intro k j H X c hX hc hDj hd hno
    cases j with
    | zero =>
      simp only [List.getElem?_cons_zero, Option.some.injEq] at hc
      subst hc
      show (hD D (k + 1) r (if D k then applyWs H c0.ws else H))[h]? = _
      have hk : D k = true := hDj
      have h2 := hD_agree (D := D) (D' := fun _ => false) (h := h) r (k + 1) (if D k then applyWs H c0.ws else H) (if D k then applyWs H c0.ws else H) rfl (fun i c' hc' hne => hno (i + 1) c' (by omega) (by simpa using hc') (by
        rw [show k + (i + 1) = k + 1 + i by omega]; simpa using hne)) rfl
      rw [h2]
      have h3 : ∀ (cs : List DA) (k : Nat) (F : Hp), hD (fun _ => false) k cs F = F := by
        intro cs
        induction cs with
        | nil => intro k F; rfl
        | cons c r ih => intro k F; simp only [hD, Bool.false_eq_true, if_false]; exact ih _ _
      rw [h3, if_pos hk]
      exact applyWs_at _ _ _ _ hX.symm hd
    | succ j =>
      refine ih (k + 1) j _ X c ?_ (by simpa using hc) (by rw [show k + 1 + j = k + (j + 1) by omega]; exact hDj) hd (fun i c' hi hc' hD' => hno (i + 1) c' (by omega) (by simpa using hc') (by rw [show k + (i + 1) = k + 1 + i by omega]; exact hD'))
      rw [hX]; split <;> simp [applyWs_length]

/-- A row in any state of the region: as in the other, or as an operation laid it that has come up here alone. -/
theorem hD_alt {D D' : Nat → Bool} {h : Nat} {B : Option (Option (List LV)) → Prop} : ∀ (cs : List DA) (k : Nat) (H H' : Hp), H.length = H'.length →
    (∀ (i : Nat) (c : DA), cs[i]? = some c → h ∈ c.keys → D (k + i) = true → D' (k + i) = false → ∀ X : Hp, X.length = H.length → B ((applyWs X c.ws)[h]?)) →
    (∀ (i : Nat) (c : DA), cs[i]? = some c → h ∈ c.keys → D (k + i) = false → D' (k + i) = true → False) →
    (H[h]? = H'[h]? ∨ B (H[h]?)) → ((hD D k cs H)[h]? = (hD D' k cs H')[h]? ∨ B ((hD D k cs H)[h]?)) := by
  intro cs
  induction cs with
  | nil => intro k H H' _ _ _ h0; exact h0
  | cons c r ih =>
    intro k H H' hl h1 h2 h0
    simp only [hD]
    have e : ∀ i, k + 1 + i = k + (i + 1) := fun i => by omega
    refine ih (k + 1) _ _ (by split <;> split <;> simp [applyWs_length, hl]) (fun i c' hc hk hd hd' X hX => ?_) (fun i c' hc hk hd hd' => ?_) ?_
    · refine h1 (i + 1) c' (by simpa using hc) hk (by rw [← e]; exact hd) (by rw [← e]; exact hd') X ?_
      rw [hX]; split <;> simp [applyWs_length]
    · exact h2 (i + 1) c' (by simpa using hc) hk (by rw [← e]; exact hd) (by rw [← e]; exact hd')
    · by_cases hk : h ∈ c.keys
      · have a1 := h1 0 c rfl hk
        have a2 := h2 0 c rfl hk
        rw [Nat.add_zero] at a1 a2
        cases hd : D k with
        | true =>
          cases hd' : D' k with
          | true => exact .inl (applyWs_at _ _ _ _ hl hk)
          | false => exact .inr (a1 hd hd' H rfl)
        | false =>
          cases hd' : D' k with
          | true => exact (a2 hd hd').elim
          | false => exact h0
      · have o1 := applyWs_other c.ws H h hk
        have o2 := applyWs_other c.ws H' h hk
        split <;> split <;> (try simp only [o1, o2]) <;> exact h0

/-- An operation does in every state that agrees with F, H where it looks what c says. -/
def DFact (P : Program) (ops : Array Oper) (o : Oper) (Fj : Fr) (Hj : Hp) (c : DA) : Prop :=
  ∀ (cx : Ctx) (N : Dim) (ι : Pl) (per : Nat → Prop) (F : Fr) (H : Hp) (a : Act) (w : World), ST cx N ι per F H a w → (∀ t ∈ c.ls, fget F t = fget Fj t) → (∀ h ∈ c.rs, H[h]? = Hj[h]?) → (∀ h ∈ c.nw, Vac N ι H h) →
    ∀ (K : Act → World → Prop) (Q : Exit → Act → World → Prop), (∀ (ι' : Pl) (per' : Nat → Prop) (v : Value) (w' : World), ST cx N ι' per' F (applyWs H c.ws) a w' → VR w' per' ι' c.x v → (∀ h, h ∉ c.nw → ι'[h]? = ι[h]?) → K (a.put o.dst v) w') →
    if Region.wanted o (yielded ops a.tmps) then o.wpIn (fen cx) 0 P a w K Q else K (a.put o.dst undef) w

/-! ### Who waits for whom -/
def maskOf (ms : List Nat) : List Nat → Nat
  | [] => 0
  | e :: r => Nat.lor (Nat.lor (2 ^ e) (ms.getD e 0)) (maskOf ms r)
def masks : List (List Nat) → List Nat → List Nat
  | [], ms => ms
  | l :: r, ms => masks r (ms ++ [maskOf ms l])

theorem maskOf_bit (ms : List Nat) : ∀ (l : List Nat) (i : Nat), (maskOf ms l).testBit i = true → ∃ e ∈ l, e = i ∨ (ms.getD e 0).testBit i = true := by
  intro l
  induction l with
  | nil => intro i h; simp [maskOf] at h
  | cons e r ih =>
    intro i h
    have h' : ((2 ^ e ||| ms.getD e 0) ||| maskOf ms r).testBit i = true := h
    rw [Nat.testBit_or, Nat.testBit_or, Bool.or_eq_true, Bool.or_eq_true] at h'
    rcases h' with (h1 | h1) | h1
    · refine ⟨e, by simp, .inl ?_⟩
      rw [Nat.testBit_two_pow] at h1
      simpa using h1
    · exact ⟨e, by simp, .inr h1⟩
    · obtain ⟨e', he, h2⟩ := ih i h1
      exact ⟨e', by simp [he], h2⟩

theorem masks_spec : ∀ (af : List (List Nat)) (ms : List Nat), (masks af ms).length = ms.length + af.length ∧ (∀ j, j < ms.length → (masks af ms).getD j 0 = ms.getD j 0) ∧
    ∀ (j : Nat) (l : List Nat), af[j]? = some l → ∃ ms', (masks af ms).getD (ms.length + j) 0 = maskOf ms' l ∧ ms'.length = ms.length + j ∧ ∀ e, e < ms.length + j → ms'.getD e 0 = (masks af ms).getD e 0 := by
  intro af
  induction af with
  | nil => intro ms; exact ⟨by simp [masks], fun _ _ => rfl, fun j l h => by simp at h⟩
  | cons l0 r ih =>
    intro ms
    obtain ⟨h1, h2, h3⟩ := ih (ms ++ [maskOf ms l0])
    simp only [List.length_append, List.length_singleton] at h1 h2 h3
    have old : ∀ j, j < ms.length → (masks (l0 :: r) ms).getD j 0 = ms.getD j 0 := by
      intro j hj
      simp only [masks]
      rw [h2 j (by omega)]
      simp [List.getD_eq_getElem?_getD, List.getElem?_append_left hj]
    refine ⟨by simp only [masks, h1, List.length_cons]; omega, old, fun j l hl => ?_⟩
    cases j with
    | zero =>
      simp only [List.getElem?_cons_zero, Option.some.injEq] at hl
      subst hl
      refine ⟨ms, ?_, by simp, fun e he => (old e (by simpa using he)).symm⟩
      simp only [masks, Nat.add_zero]
      rw [h2 ms.length (by omega)]
      simp [List.getD_eq_getElem?_getD]
    | succ j =>
      obtain ⟨ms', k1, k2, k3⟩ := h3 j l (by simpa using hl)
      refine ⟨ms', ?_, by omega, fun e he => ?_⟩
      · simp only [masks]
        rw [show ms.length + (j + 1) = ms.length + 1 + j by omega]; exact k1
      · simp only [masks]
        exact k3 e (by omega)

def nIn (l m : List Nat) : Bool := l.all fun x => !(m.contains x)

theorem nIn_spec {l m : List Nat} (h : nIn l m = true) : ∀ x ∈ l, x ∉ m := by
  intro x hx hm
  have := List.all_eq_true.1 h x hx
  simp at this
  exact this hm

/-- The later one does not look at what the other lays, nor do they lay the same. -/
def apW (ci cj : DA) : Bool :=
  (match ci.d with | some t => !(cj.ls.contains t) && (match cj.d with | some u => !(Nat.beq t u) | none => true) | none => true) &&
  (match cj.d with | some t => !(ci.ls.contains t) | none => true) &&
  nIn ci.keys cj.rs && nIn ci.keys cj.keys
theorem apW_spec {ci cj : DA} (h : apW ci cj = true) : (∀ t, ci.d = some t → t ∉ cj.ls ∧ cj.d ≠ some t) ∧ (∀ t, cj.d = some t → t ∉ ci.ls) ∧ (∀ x ∈ ci.keys, x ∉ cj.rs) ∧ ∀ x ∈ ci.keys, x ∉ cj.keys := by
  unfold apW at h
  simp only [Bool.and_eq_true] at h
  obtain ⟨⟨⟨h1, h2⟩, h3⟩, h4⟩ := h
  refine ⟨fun t ht => ?_, fun t ht => ?_, nIn_spec h3, nIn_spec h4⟩
  · rw [ht] at h1
    simp only [Bool.and_eq_true, Bool.not_eq_true'] at h1
    refine ⟨by simpa using h1.1, fun e => ?_⟩
    rw [e] at h1
    simp at h1
  · rw [ht] at h2
    simpa using h2

def tolB (tol : List (Nat × Nat)) (i j : Nat) : Bool := tol.any fun p => Nat.beq p.1 i && Nat.beq p.2 j
theorem tolB_spec {tol : List (Nat × Nat)} {i j : Nat} (h : tolB tol i j = true) : (i, j) ∈ tol := by
  obtain ⟨p, hp, h1⟩ := List.any_eq_true.1 h
  simp only [Bool.and_eq_true] at h1
  obtain ⟨a, b⟩ := p
  have e1 : a = i := by simpa using h1.1
  have e2 : b = j := by simpa using h1.2
  subst e1; subst e2; exact hp

/-- An operation i of a pair (i, j) of tol may look at what the later j lays. -/
def okTol (tol : List (Nat × Nat)) (af : List (List Nat)) (cs : List DA) : Bool :=
  let ms := masks af []
  (List.range cs.length).all fun j => ((af.getD j []).all fun e => Nat.blt e j) && ((cs.getD j default).nw.all fun x => (cs.getD j default).keys.contains x) &&
    (List.range j).all fun i => (Nat.testBit (ms.getD j 0) i || (apW (cs.getD i default) (cs.getD j default) && (nIn (cs.getD j default).keys (cs.getD i default).rs || tolB tol i j))) && nIn (cs.getD j default).nw (cs.getD i default).keys
def okB (af : List (List Nat)) (cs : List DA) : Bool := okTol [] af cs

structure Okay (tol : List (Nat × Nat)) (af : List (List Nat)) (cs : List DA) : Prop where
  lt : ∀ (j : Nat) (l : List Nat), j < cs.length → af[j]? = some l → ∀ e ∈ l, e < j
  nwk : ∀ (j : Nat) (c : DA), cs[j]? = some c → ∀ x ∈ c.nw, x ∈ c.keys
  ap : ∀ (i j : Nat) (ci cj : DA), i < j → cs[i]? = some ci → cs[j]? = some cj → ((masks af []).getD j 0).testBit i = true ∨ (apW ci cj = true ∧ ((∀ x ∈ cj.keys, x ∉ ci.rs) ∨ (i, j) ∈ tol))
  nw : ∀ (i j : Nat) (ci cj : DA), i < j → cs[i]? = some ci → cs[j]? = some cj → ∀ x ∈ cj.nw, x ∉ ci.keys

theorem okTol_spec {tol : List (Nat × Nat)} {af : List (List Nat)} {cs : List DA} (h : okTol tol af cs = true) : Okay tol af cs := by
  unfold okTol at h
  have key : ∀ j, j < cs.length → _ := fun j hj => List.all_eq_true.1 h j (by simpa using hj)
  simp only [Bool.and_eq_true, Bool.or_eq_true] at key
  have gd : ∀ (j : Nat) (c : DA), cs[j]? = some c → j < cs.length ∧ cs.getD j default = c := fun j c hc => by
    obtain ⟨h1, h2⟩ := List.getElem?_eq_some_iff.1 hc
    exact ⟨h1, by simp [List.getD_eq_getElem?_getD, hc]⟩
  refine ⟨fun j l hj hl e he => ?_, fun j c hc x hx => ?_, fun i j ci cj hij hi hj => ?_, fun i j ci cj hij hi hj x hx => ?_⟩
  · have := (key j hj).1.1
    rw [show af.getD j [] = l by simp [List.getD_eq_getElem?_getD, hl]] at this
    simpa using List.all_eq_true.1 this e he
  · obtain ⟨h1, h2⟩ := gd j c hc
    have := (key j h1).1.2
    rw [h2] at this
    simpa using List.all_eq_true.1 this x hx
  · obtain ⟨h1, h2⟩ := gd i ci hi
    obtain ⟨h3, h4⟩ := gd j cj hj
    have := List.all_eq_true.1 (key j h3).2 i (by simpa using hij)
    rw [h2, h4] at this
    simp only [Bool.and_eq_true, Bool.or_eq_true] at this
    exact this.1.imp id fun h => ⟨h.1, h.2.imp nIn_spec tolB_spec⟩
  · obtain ⟨h1, h2⟩ := gd i ci hi
    obtain ⟨h3, h4⟩ := gd j cj hj
    have := List.all_eq_true.1 (key j h3).2 i (by simpa using hij)
    rw [h2, h4] at this
    simp only [Bool.and_eq_true] at this
    exact nIn_spec this.2 x hx

/-- All that an operation waits for has come up, and the order is kept: then so has all that it waits for in the end. -/
theorem bef_done {af : List (List Nat)} {n : Nat} (hn : af.length = n) (hlt : ∀ (j : Nat) (l : List Nat), j < n → af[j]? = some l → ∀ e ∈ l, e < j) {D : Nat → Bool}
    (hD : ∀ (j : Nat) (l : List Nat), j < n → D j = true → af[j]? = some l → ∀ e ∈ l, D e = true) : ∀ (j : Nat) (l : List Nat), j < n → af[j]? = some l → (∀ e ∈ l, D e = true) → ∀ i, ((masks af []).getD j 0).testBit i = true → D i = true := by
  intro j
  induction j using Nat.strongRecOn with
  | _ j ih =>
    intro l hj hl hd i hi
    obtain ⟨_, _, h3⟩ := masks_spec af []
    obtain ⟨ms', k1, k2, k3⟩ := h3 j l hl
    simp only [List.length_nil, Nat.zero_add] at k1 k2 k3
    rw [k1] at hi
    obtain ⟨e, he, h | h⟩ := maskOf_bit ms' l i hi
    · subst h; exact hd _ he
    · have hej := hlt j l hj hl e he
      rw [k3 e hej] at h
      have hen : e < n := by omega
      have hl2 : af[e]? = some af[e] := List.getElem?_eq_getElem (by omega)
      exact ih e hej _ hen hl2 (hD e _ hen (hd e he) hl2) i h

theorem count_set {l : List Bool} : ∀ {j : Nat}, l[j]? = some false → (l.set j true).count false + 1 = l.count false := by
  induction l with
  | nil => intro j h; simp at h
  | cons b r ih =>
    intro j h
    cases j with
    | zero =>
      simp only [List.getElem?_cons_zero, Option.some.injEq] at h
      subst h
      simp
    | succ j =>
      simp only [List.getElem?_cons_succ] at h
      have := ih h
      simp only [List.set_cons_succ, List.count_cons]
      omega

section
variable {P : Program} {cx : Ctx} {N : Dim} {ι : Pl} {per : Nat → Prop} {a : Act} {w : World}

theorem wpAny_da {ops : Array Oper} {tol : List (Nat × Nat)} {cs : List DA} {F0 : Fr} {H0 : Hp} {Q : LPost} (hl : cs.length = ops.size) (hok : Okay tol (ops.toList.map waits) cs)
    (ht : ∀ i k, (i, k) ∈ tol → ∀ (o : Oper) (c ck : DA), ops[i]? = some o → cs[i]? = some c → cs[k]? = some ck → ∃ r Hk, c.rs = [r] ∧ (∀ X : Hp, X.length = H0.length → r ∈ ck.keys → (applyWs X ck.ws)[r]? = Hk[r]?) ∧ DFact P ops o (fD (fun m => decide (m < i)) 0 cs F0) Hk c)
    (hd : ∀ (j : Nat) (o : Oper) (c : DA), ops[j]? = some o → cs[j]? = some c → c.d = o.dst ∧ ∀ k, o.dst = some k → k < N.n)
    (hf : ∀ (j : Nat) (o : Oper) (c : DA), ops[j]? = some o → cs[j]? = some c → DFact P ops o (fD (fun i => decide (i < j)) 0 cs F0) (hD (fun i => decide (i < j)) 0 cs H0) c)
    (hvac : ∀ (j : Nat) (c : DA), cs[j]? = some c → ∀ x ∈ c.nw, N.m ≤ x ∧ H0[x]? = some none)
    (hQ : ∀ F H, (∀ t, fget F t = fget (fD (fun _ => true) 0 cs F0) t) → H = hD (fun _ => true) 0 cs H0 → ∀ a w, SR cx N F H a w → LQ Q cx N .normal a w) :
    ∀ (fuel : Nat) (listed : Array Bool) (a : Act) (w : World) (ι : Pl) (per : Nat → Prop) (F : Fr) (H : Hp), listed.size = ops.size → listed.toList.count false ≤ fuel →
      (∀ (j : Nat) (o : Oper), ops[j]? = some o → listed.getD j false = true → ∀ e ∈ waits o, listed.getD e false = true) →
      (∀ t, fget F t = fget (fD (fun i => listed.getD i false) 0 cs F0) t) → H = hD (fun i => listed.getD i false) 0 cs H0 →
      (∀ (j : Nat) (c : DA), cs[j]? = some c → listed.getD j false = false → ∀ x ∈ c.nw, ι[x]? = some none) →
      ST cx N ι per F H a w → wpAnyIn (fen cx) 0 P .any ops (LQ Q cx N) fuel listed a w := by
  have afl : (ops.toList.map waits).length = ops.size := by simp
  have afg : ∀ (j : Nat) (o : Oper), ops[j]? = some o → (ops.toList.map waits)[j]? = some (waits o) := fun j o h => by simp [h]
  have fin : ∀ (listed : Array Bool) (a : Act) (w : World) (ι : Pl) (per : Nat → Prop) (F : Fr) (H : Hp), listed.size = ops.size → (∀ i, i < ops.size → listed.getD i false = true) →
      (∀ t, fget F t = fget (fD (fun i => listed.getD i false) 0 cs F0) t) → H = hD (fun i => listed.getD i false) 0 cs H0 → ST cx N ι per F H a w → LQ Q cx N .normal a w := by
    intro listed a w ι per F H hs hall hF hH hst
    refine hQ F H (fun t => ?_) ?_ a w (.of hst)
    · rw [hF t]
      exact fD_agree cs 0 _ _ (fun i c hc hne => absurd (by rw [Nat.zero_add, hall i (by rw [← hl]; exact (List.getElem?_eq_some_iff.1 hc).1)]) hne) rfl
    · rw [hH]
      apply List.ext_getElem?
      intro h
      exact hD_agree cs 0 _ _ rfl (fun i c hc hne => absurd (by rw [Nat.zero_add, hall i (by rw [← hl]; exact (List.getElem?_eq_some_iff.1 hc).1)]) hne) rfl
  have noready : ∀ (listed : Array Bool), listed.size = ops.size → Region.ready .any ops listed = [] → ∀ i, i < ops.size → listed.getD i false = true := by
    intro listed hs hr i
    induction i using Nat.strongRecOn with
    | _ i ih =>
      intro hi
      cases hx : listed.getD i false with
      | true => rfl
      | false =>
        exfalso
        have ho : ops[i]? = some ops[i] := Array.getElem?_eq_getElem hi
        have : i ∈ Region.ready .any ops listed := mem_ready.2 ⟨by
          have hi2 : i < listed.size := by omega
          simpa [hi2] using hx, ops[i], ho, fun e he hb => by
            have hw : e.on ∈ waits ops[i] := by
              unfold waits
              exact List.mem_map.2 ⟨e, List.mem_filter.2 ⟨by simpa using he, hb⟩, rfl⟩
            have hlt := hok.lt i _ (by rw [hl]; exact hi) (afg i _ ho) _ hw
            exact ih e.on hlt (by omega)⟩
        rw [hr] at this
        cases this
  intro fuel
  induction fuel with
  | zero =>
    intro listed a w ι per F H hs hc hdn hF hH hι hst
    have hall : ∀ i, i < ops.size → listed.getD i false = true := by
      intro i hi
      cases hx : listed.getD i false with
      | true => rfl
      | false =>
        exfalso
        have hi2 : i < listed.size := by omega
        have : false ∈ listed.toList := by
          have : listed[i] = false := by simpa [hi2] using hx
          rw [← this]; simp
        have := List.count_pos_iff.2 this
        omega
    refine ⟨?_, fin listed a w ι per F H hs hall hF hH hst⟩
    cases hr : Region.ready .any ops listed with
    | nil => rfl
    | cons i r =>
      exfalso
      have : i ∈ Region.ready .any ops listed := by rw [hr]; simp
      obtain ⟨h1, o, ho, _⟩ := mem_ready.1 this
      have hi := (Array.getElem?_eq_some_iff.1 ho).1
      have := hall i hi
      have hi2 : i < listed.size := by omega
      simp [hi2] at h1 this
      rw [this] at h1; cases h1
  | succ fuel ih =>
    intro listed a w ι per F H hs hc hdn hF hH hι hst
    refine ⟨fun hr => fin listed a w ι per F H hs (noready listed hs hr) hF hH hst, fun j hj => ?_⟩
    obtain ⟨hjl, o, ho, hjw⟩ := mem_ready.1 hj
    have hjn := (Array.getElem?_eq_some_iff.1 ho).1
    have hj2 : j < listed.size := by omega
    have hjf : listed.getD j false = false := by simpa [hj2] using hjl
    obtain ⟨c, hcj⟩ : ∃ c, cs[j]? = some c := ⟨_, List.getElem?_eq_getElem (by omega)⟩
    obtain ⟨hcd, hdn2⟩ := hd j o c ho hcj
    have hpre : ∀ e ∈ waits o, listed.getD e false = true := by
      intro e he
      unfold waits at he
      obtain ⟨e', he', rfl⟩ := List.mem_map.1 he
      have := List.mem_filter.1 he'
      exact hjw e' (by simpa using this.1) this.2
    have hbef : ∀ i, ((masks (ops.toList.map waits) []).getD j 0).testBit i = true → listed.getD i false = true :=
      bef_done (n := ops.size) afl (fun j l hj hl2 e he => hok.lt j l (by rw [hl]; exact hj) hl2 e he) (D := fun i => listed.getD i false) (fun k l hk hDk hlk e he => by
        have hok2 : ops[k]? = some ops[k] := Array.getElem?_eq_getElem hk
        rw [afg k _ hok2] at hlk
        obtain rfl := Option.some.inj hlk
        exact hdn k _ hok2 hDk e he) j _ hjn (afg j o ho) hpre
    -- those that have come up behind j, and those before j that have not, are apart from j
    have later : ∀ (k : Nat) (ck : DA), j < k → cs[k]? = some ck → listed.getD k false = true → apW c ck = true ∧ ((∀ x ∈ ck.keys, x ∉ c.rs) ∨ (j, k) ∈ tol) := by
      intro k ck hjk hk hDk
      rcases hok.ap j k c ck hjk hcj hk with h | h
      · exfalso
        have hkn : k < ops.size := by rw [← hl]; exact (List.getElem?_eq_some_iff.1 hk).1
        have hko : ops[k]? = some ops[k] := Array.getElem?_eq_getElem hkn
        have := bef_done (n := ops.size) afl (fun j l hj hl' e he => hok.lt j l (by rw [hl]; exact hj) hl' e he) (D := fun i => listed.getD i false) (fun k l hk hDk hlk e he => by
          have hok2 : ops[k]? = some ops[k] := Array.getElem?_eq_getElem hk
          rw [afg k _ hok2] at hlk
          obtain rfl := Option.some.inj hlk
          exact hdn k _ hok2 hDk e he) k _ hkn (afg k _ hko) (hdn k _ hko hDk) j h
        rw [hjf] at this; cases this
      · exact h
    have earlier : ∀ (i : Nat) (ci : DA), i < j → cs[i]? = some ci → listed.getD i false = false → apW ci c = true := by
      intro i ci hij hi hDi
      rcases hok.ap i j ci c hij hi hcj with h | h
      · have := hbef i h
        rw [hDi] at this; cases this
      · exact h.1
    -- what j looks at is as in the order of the text
    have hls : ∀ t ∈ c.ls, fget F t = fget (fD (fun i => decide (i < j)) 0 cs F0) t := by
      intro t ht
      rw [hF t]
      refine fD_agree cs 0 _ _ (fun i ci hci hne => ?_) rfl
      rw [Nat.zero_add] at hne
      intro hdi
      rcases Nat.lt_trichotomy i j with h | h | h
      · have hDi : listed.getD i false = false := by simpa [h] using hne
        exact ((apW_spec (earlier i ci h hci hDi)).1 t hdi).1 ht
      · subst h; simp [hjf] at hne
      · have hDi : listed.getD i false = true := by simpa [show ¬ i < j by omega] using hne
        exact (apW_spec (later i ci h hci hDi).1).2.1 t hdi ht
    have hrs : ∀ h ∈ c.rs, H[h]? = (hD (fun i => decide (i < j)) 0 cs H0)[h]? ∨ ∃ k ck, (j, k) ∈ tol ∧ cs[k]? = some ck ∧ h ∈ ck.keys ∧ ∃ X : Hp, X.length = H0.length ∧ H[h]? = (applyWs X ck.ws)[h]? := by
      intro r hr
      rw [hH]
      refine hD_alt (B := fun y => ∃ k ck, (j, k) ∈ tol ∧ cs[k]? = some ck ∧ r ∈ ck.keys ∧ ∃ X : Hp, X.length = H0.length ∧ y = (applyWs X ck.ws)[r]?) cs 0 _ _ rfl (fun i ci hci hki h1 h2 X hX => ?_) (fun i ci hci hki h1 h2 => ?_) (.inl rfl)
      · rw [Nat.zero_add] at h1 h2
        have hji : j < i := by
          have : ¬ i < j := by simpa using h2
          rcases Nat.lt_or_ge j i with h | h
          · exact h
          · have : i = j := by omega
            subst this; rw [hjf] at h1; cases h1
        rcases (later i ci hji hci h1).2 with h | h
        · exact absurd hr (h r hki)
        · exact ⟨i, ci, h, hci, hki, X, hX, rfl⟩
      · rw [Nat.zero_add] at h1 h2
        have hij : i < j := by simpa using h2
        exact (apW_spec (earlier i ci hij hci h1)).2.2.1 r hki hr
    have hnw : ∀ h ∈ c.nw, Vac N ι H h := by
      intro r hr
      obtain ⟨v1, v2⟩ := hvac j c hcj r hr
      refine ⟨v1, ?_, hι j c hcj hjf r hr⟩
      rw [hH, ← v2]
      have h3 : ∀ (cs : List DA) (k : Nat) (F : Hp), hD (fun _ => false) k cs F = F := by
        intro cs
        induction cs with
        | nil => intro k F; rfl
        | cons c r ih => intro k F; simp only [hD, Bool.false_eq_true, if_false]; exact ih _ _
      have := hD_agree (D := fun i => listed.getD i false) (D' := fun _ => false) (h := r) cs 0 H0 H0 rfl (fun i ci hci hne => by
        rw [Nat.zero_add] at hne
        have hDi : listed.getD i false = true := by simpa using hne
        rcases Nat.lt_trichotomy i j with h | h | h
        · exact hok.nw i j ci c h hci hcj r hr
        · subst h; rw [hjf] at hDi; cases hDi
        · intro hki
          exact (apW_spec (later i ci h hci hDi).1).2.2.2 r (hok.nwk j c hcj r hr) hki) rfl
      rw [this, h3]
    have step0 : ∀ (K : Act → World → Prop) (Q : Exit → Act → World → Prop), (∀ (ι' : Pl) (per' : Nat → Prop) (v : Value) (w' : World), ST cx N ι' per' F (applyWs H c.ws) a w' → VR w' per' ι' c.x v → (∀ h, h ∉ c.nw → ι'[h]? = ι[h]?) → K (a.put o.dst v) w') →
        if Region.wanted o (yielded ops a.tmps) then o.wpIn (fen cx) 0 P a w K Q else K (a.put o.dst undef) w := by
      by_cases hall : ∀ h ∈ c.rs, H[h]? = (hD (fun i => decide (i < j)) 0 cs H0)[h]?
      · exact hf j o c ho hcj cx N ι per F H a w hst hls hall hnw
      · obtain ⟨r, hr⟩ := Classical.not_forall.1 hall
        obtain ⟨hr, hne⟩ := Classical.not_imp.1 hr
        obtain ⟨k, ck, ht1, hck, hkk, X, hX, hrow⟩ := (hrs r hr).resolve_left hne
        obtain ⟨r', Hk, e1, e2, e3⟩ := ht j k ht1 o c ck ho hcj hck
        rw [e1] at hr
        obtain rfl := List.mem_singleton.1 hr
        exact e3 cx N ι per F H a w hst hls (fun h hh => by rw [e1] at hh; obtain rfl := List.mem_singleton.1 hh; rw [hrow]; exact e2 X hX hkk) hnw
    have step := step0 (fun a' w' => wpAnyIn (fen cx) 0 P .any ops (LQ Q cx N) fuel (listed.setIfInBounds j true) a' w') (LQ Q cx N) (fun ι' per' v w' hst' hv hι' => ?_)
    · unfold wpOpIn
      simp only [ho]
      split
      · rename_i hw; rw [if_pos hw] at step; exact step
      · rename_i hw; rw [if_neg hw] at step; exact ⟨fun _ _ => trivial, step⟩
    · have Dn : ∀ i, (listed.setIfInBounds j true).getD i false = if i = j then true else listed.getD i false := by
        intro i
        simp only [Array.getD_eq_getD_getElem?, Array.getElem?_setIfInBounds]
        by_cases e : i = j
        · subst e; simp [hj2]
        · rw [if_neg (fun h => e h.symm), if_neg e]
      refine ih (listed.setIfInBounds j true) (a.put o.dst v) w' ι' per' (lput o.dst c.x F) (applyWs H c.ws) (by simpa using hs) ?_ (fun k ok hk hDk e he => ?_) (fun t => ?_) ?_ (fun k ck hk hDk x hx => ?_) (hst'.put hdn2 hv)
      · have : listed.toList[j]? = some false := by
          have : listed[j] = false := by simpa [hj2] using hjl
          simp [hj2, this]
        have := count_set this
        simp only [Array.toList_setIfInBounds]
        omega
      · rw [Dn] at hDk ⊢
        by_cases e2 : e = j
        · rw [if_pos e2]
        · rw [if_neg e2]
          by_cases e3 : k = j
          · subst e3
            rw [ho] at hk
            obtain rfl := Option.some.inj hk
            exact hpre e he
          · rw [if_neg e3] at hDk
            exact hdn k ok hk hDk e he
      · -- the frame
        have agree : ∀ {t}, c.d ≠ some t → fget (fD (fun i => (listed.setIfInBounds j true).getD i false) 0 cs F0) t = fget F t := by
          intro t hne
          rw [hF t]
          refine fD_agree cs 0 _ _ (fun i ci hci hdiff => ?_) rfl
          rw [Nat.zero_add, Dn] at hdiff
          by_cases e : i = j
          · subst e
            rw [hcj] at hci
            obtain rfl := Option.some.inj hci
            exact hne
          · rw [if_neg e] at hdiff; exact absurd rfl hdiff
        by_cases hd2 : c.d = some t
        · rw [← hcd, hd2, fget_lput_eq]
          refine (fD_last cs 0 j F0 c hcj (by rw [Nat.zero_add, Dn, if_pos rfl]) hd2 (fun i ci hji hci hDi => ?_)).symm
          rw [Nat.zero_add, Dn, if_neg (by omega)] at hDi
          exact ((apW_spec (later i ci hji hci hDi).1).1 t hd2).2
        · rw [agree hd2, ← hcd, fget_lput_ne hd2]
      · -- the rows
        apply List.ext_getElem?
        intro r
        by_cases hk : r ∈ c.keys
        · refine (hD_last (D' := fun _ => true) cs 0 j H0 H c ?_ hcj (by rw [Nat.zero_add, Dn, if_pos rfl]) hk (fun i ci hji hci hDi => ?_)).symm
          · rw [hH, hD_length]
          · rw [Nat.zero_add, Dn, if_neg (by omega)] at hDi
            exact (apW_spec (later i ci hji hci hDi).1).2.2.2 r hk
        · rw [applyWs_other _ _ _ hk, hH]
          refine hD_agree cs 0 _ _ rfl (fun i ci hci hdiff => ?_) rfl
          rw [Nat.zero_add, Dn] at hdiff
          by_cases e : i = j
          · subst e
            rw [hcj] at hci
            obtain rfl := Option.some.inj hci
            exact hk
          · rw [if_neg e] at hdiff; exact absurd rfl hdiff
      · rw [Dn] at hDk
        by_cases e : k = j
        · rw [if_pos e] at hDk; cases hDk
        · rw [if_neg e] at hDk
          have hxc : x ∉ c.nw := by
            intro hxc
            rcases Nat.lt_or_ge k j with h | h
            · exact hok.nw k j ck c h hk hcj x hxc (hok.nwk k ck hk x hx)
            · exact hok.nw j k c ck (by omega) hcj hk x hx (hok.nwk j c hcj x hxc)
          rw [hι' x hxc]
          exact hι k ck hk hDk x hx

end

end Go.Lite
set_option linter.unusedVariables false
set_option linter.unusedSimpArgs false

/- Lite, part W: a region that draws its order, walked in the order of the text. -/
namespace Go.Lite
open Go Go.RowKit
set_option linter.unusedVariables false

theorem DFact.mono {P : Program} {ops : Array Oper} {o : Oper} {F F2 : Fr} {H H2 : Hp} {c : DA} (h : DFact P ops o F H c) (hF : ∀ t ∈ c.ls, fget F2 t = fget F t) (hH : ∀ r ∈ c.rs, H2[r]? = H[r]?) : DFact P ops o F2 H2 c :=
  fun cx N ι per G X a w hst hls hrs hnw => h cx N ι per G X a w hst (fun t ht => (hls t ht).trans (hF t ht)) (fun r hr => (hrs r hr).trans (hH r hr)) hnw

/-- The same, said of an operation in few words. -/
def SFact (P : Program) (s : SO) (F : Fr) (H : Hp) (c : DA) : Prop :=
  c.d = s.dst ∧ ∀ (ops : Array Oper) (o : Oper), o.dst = s.dst → o.op = s.op → (∀ F, wantedL ops o F = wantS s.g F) → DFact P ops o F H c

/-- The operations one behind the other; each may make rows, whose numbers follow those that there are. -/
inductive Chain (P : Program) : List SO → Fr → Hp → List DA → Fr → Hp → Prop where
  | nil {F : Fr} {H : Hp} : Chain P [] F H [] F H
  | cons {s : SO} {r : List SO} {F F' : Fr} {H H' : Hp} {c : DA} {cs : List DA} (e : Nat) (h : SFact P s F H c) (hr : ∀ x ∈ c.rs, x < H.length) (hk : ∀ x ∈ c.keys, x < H.length + e)
      (hn : ∀ x ∈ c.nw, H.length ≤ x ∧ x < H.length + e) (k : Chain P r (lput s.dst c.x F) (applyWs (H ++ List.replicate e none) c.ws) cs F' H') : Chain P (s :: r) F H (c :: cs) F' H'

theorem fD_shift (D : Nat → Bool) : ∀ (cs : List DA) (k : Nat) (F : Fr), fD D (k + 1) cs F = fD (fun i => D (i + 1)) k cs F := by
  intro cs
  induction cs with
  | nil => intro k F; rfl
  | cons c r ih => intro k F; simp only [fD]; rw [ih (k + 1)]
theorem hD_shift (D : Nat → Bool) : ∀ (cs : List DA) (k : Nat) (H : Hp), hD D (k + 1) cs H = hD (fun i => D (i + 1)) k cs H := by
  intro cs
  induction cs with
  | nil => intro k F; rfl
  | cons c r ih => intro k F; simp only [hD]; rw [ih (k + 1)]

theorem applyWs_append : ∀ (ws : List (Nat × Option (List LV))) (H X : Hp), (∀ x ∈ ws.map (·.1), x < H.length) → applyWs (H ++ X) ws = applyWs H ws ++ X := by
  intro ws
  induction ws with
  | nil => intro H X _; rfl
  | cons p r ih =>
    intro H X h
    obtain ⟨k, x⟩ := p
    simp only [List.map_cons, List.mem_cons, forall_eq_or_imp] at h
    simp only [applyWs]
    rw [List.set_append_left _ _ h.1, ih _ _ (by simpa using h.2)]

theorem Chain.len {P : Program} {l : List SO} {F F' : Fr} {H H' : Hp} {cs : List DA} (h : Chain P l F H cs F' H') : H.length ≤ H'.length ∧ cs.length = l.length := by
  induction h with
  | nil => exact ⟨Nat.le_refl _, rfl⟩
  | cons e h hr hk hn k ih => rw [applyWs_length] at ih; simp at ih; refine ⟨by omega, by simp [ih.2]⟩

theorem Chain.facts {P : Program} {l : List SO} {F F' : Fr} {H H' : Hp} {cs : List DA} (h : Chain P l F H cs F' H') :
    (∀ (j : Nat) (s : SO) (c : DA), l[j]? = some s → cs[j]? = some c → SFact P s (fD (fun i => decide (i < j)) 0 cs F) (hD (fun i => decide (i < j)) 0 cs (H ++ List.replicate (H'.length - H.length) none)) c) ∧
    F' = fD (fun _ => true) 0 cs F ∧ H' = hD (fun _ => true) 0 cs (H ++ List.replicate (H'.length - H.length) none) ∧ ∀ (j : Nat) (c : DA), cs[j]? = some c → ∀ x ∈ c.nw, H.length ≤ x ∧ x < H'.length := by
  induction h with
  | nil => exact ⟨fun j s c h => by simp at h, rfl, by simp [hD], fun j c h => by simp at h⟩
  | @cons s r F F' H H' c cs e h hr hk hn k ih =>
    obtain ⟨i1, i2, i3, i4⟩ := ih
    have hle := k.len.1
    rw [applyWs_length, List.length_append, List.length_replicate] at hle
    have hrow : applyWs (H ++ List.replicate (H'.length - H.length) none) c.ws = applyWs (H ++ List.replicate e none) c.ws ++ List.replicate (H'.length - (applyWs (H ++ List.replicate e none) c.ws).length) none := by
      rw [← applyWs_append _ _ _ (by intro x hx; rw [List.length_append, List.length_replicate]; exact hk x hx), applyWs_length, List.length_append, List.length_replicate, List.append_assoc, List.replicate_append_replicate]
      congr 3; omega
    have none0 : ∀ (cs : List DA) (k : Nat) (F : Fr), fD (fun _ => false) k cs F = F := by
      intro cs
      induction cs with
      | nil => intro k F; rfl
      | cons c r ih => intro k F; simp only [fD, Bool.false_eq_true, if_false]; exact ih _ _
    have none1 : ∀ (cs : List DA) (k : Nat) (F : Hp), hD (fun _ => false) k cs F = F := by
      intro cs
      induction cs with
      | nil => intro k F; rfl
      | cons c r ih => intro k F; simp only [hD, Bool.false_eq_true, if_false]; exact ih _ _
    refine ⟨fun j s' c' hl hc => ?_, ?_, ?_, fun j c' hc x hx => ?_⟩
    · cases j with
      | zero =>
        simp only [List.getElem?_cons_zero, Option.some.injEq] at hl hc
        subst hl hc
        have e1 : (fun i => decide (i < 0)) = fun _ : Nat => false := by funext i; simp
        rw [e1, none0, none1]
        refine ⟨h.1, fun ops o h1 h2 h3 => (h.2 ops o h1 h2 h3).mono (fun _ _ => rfl) fun x hx => ?_⟩
        rw [List.getElem?_append_left (hr x hx)]
      | succ j =>
        simp only [List.getElem?_cons_succ] at hl hc
        have := i1 j s' c' hl hc
        have e1 : (fun i => decide (i + 1 < j + 1)) = fun i => decide (i < j) := by funext i; simp
        simp only [fD, hD]
        rw [if_pos (by simp), if_pos (by simp), fD_shift, hD_shift, e1, hrow, h.1]
        exact this
    · simp only [fD, if_true]
      rw [fD_shift, h.1]
      exact i2
    · simp only [hD, if_true]
      rw [hD_shift, hrow]
      exact i3
    · cases j with
      | zero =>
        simp only [List.getElem?_cons_zero, Option.some.injEq] at hc
        subst hc
        have := hn x hx
        omega
      | succ j =>
        have := i4 j c' (by simpa using hc) x hx
        rw [applyWs_length, List.length_append, List.length_replicate] at this
        omega

theorem ST.extn {cx : Ctx} {N : Dim} {ι : Pl} {per : Nat → Prop} {F : Fr} {H : Hp} {a : Act} {w : World} (hst : ST cx N ι per F H a w) : ∀ n, ST cx N (ι ++ List.replicate n none) per F (H ++ List.replicate n none) a w := by
  intro n
  induction n with
  | zero => simpa using hst
  | succ n ih =>
    simp only [List.replicate_succ', ← List.append_assoc]
    exact ih.ext1.1

theorem slimOps_get {ops : Array Oper} : ∀ {l0 : List Oper} {l : List SO}, slimOps ops l0 = some l → l.length = l0.length ∧ ∀ (j : Nat) (s : SO) (o : Oper), l[j]? = some s → l0[j]? = some o → o.dst = s.dst ∧ o.op = s.op ∧ ∀ F, wantedL ops o F = wantS s.g F := by
  intro l0
  induction l0 with
  | nil => intro l h; obtain rfl := Option.some.inj h; exact ⟨rfl, fun j s o h => by simp at h⟩
  | cons o r ih =>
    intro l h
    cases l with
    | nil => have := slim_nil h; cases this
    | cons s l' =>
      obtain ⟨o', l1, e, h1, h2, h3, h4⟩ := slim_cons h
      obtain ⟨rfl, rfl⟩ := List.cons.inj e
      obtain ⟨i1, i2⟩ := ih h1
      refine ⟨by simp [i1], fun j s' o' hs ho => ?_⟩
      cases j with
      | zero =>
        simp only [List.getElem?_cons_zero, Option.some.injEq] at hs ho
        subst hs ho
        exact ⟨h2, h3, h4⟩
      | succ j => exact i2 j s' o' (by simpa using hs) (by simpa using ho)

/-- A region that draws its order. -/
theorem Lw.regdT {P : Program} {N : Dim} {Q : LPost} {F F' : Fr} {H H' : Hp} {l : List SO} {af : List (List Nat)} {cs : List DA} (tol : List (Nat × Nat)) (hm : P.follows .mixedOrders = true) (hc : Chain P l F H cs F' H') (hok : okTol tol af cs = true)
    (ht : ∀ i k, (i, k) ∈ tol → ∃ (s : SO) (c ck : DA) (r : Nat) (Hk : Hp), l[i]? = some s ∧ cs[i]? = some c ∧ cs[k]? = some ck ∧ c.rs = [r] ∧ (∀ X : Hp, X.length = H'.length → r ∈ ck.keys → (applyWs X ck.ws)[r]? = Hk[r]?) ∧ SFact P s (fD (fun m => decide (m < i)) 0 cs F) Hk c)
    (hQ : Q .normal F' H') : Lw P N (.regd l af) Q F H := by
  intro c hcc
  obtain ⟨id, ops, rfl, hN, hs, rfl⟩ := slim_inv hcc
  intro cx a w hsr
  obtain ⟨ι, per, hst0⟩ := hsr.st
  refine wpIn_region_any hm ?_
  have hst1 : ST cx N ι per F H a { w with drawn := w.drawn + 1 } := hst0.same rfl rfl rfl rfl (Nat.le_succ _)
  have hst := hst1.extn (H'.length - H.length)
  obtain ⟨f1, f2, f3, f4⟩ := hc.facts
  obtain ⟨g1, g2⟩ := slimOps_get hs
  have hln : cs.length = ops.size := by rw [hc.len.2, g1]; simp
  have hil := hst1.rep.len
  have so : ∀ (j : Nat) (o : Oper), ops[j]? = some o → ∃ s, l[j]? = some s ∧ o.dst = s.dst ∧ o.op = s.op ∧ ∀ F, wantedL ops o F = wantS s.g F := by
    intro j o ho
    have hj : j < l.length := by rw [g1]; have := (Array.getElem?_eq_some_iff.1 ho).1; simpa using this
    have e := List.getElem?_eq_getElem hj
    exact ⟨_, e, g2 j _ o e (by simpa using ho)⟩
  have none0 : ∀ (cs : List DA) (k : Nat) (F : Fr), fD (fun _ => false) k cs F = F := by
    intro cs
    induction cs with
    | nil => intro k F; rfl
    | cons c r ih => intro k F; simp only [fD, Bool.false_eq_true, if_false]; exact ih _ _
  have none1 : ∀ (cs : List DA) (k : Nat) (F : Hp), hD (fun _ => false) k cs F = F := by
    intro cs
    induction cs with
    | nil => intro k F; rfl
    | cons c r ih => intro k F; simp only [hD, Bool.false_eq_true, if_false]; exact ih _ _
  have ee : (fun i => (Array.replicate ops.size false).getD i false) = fun _ : Nat => false := by
    funext i
    simp only [Array.getD_eq_getD_getElem?, Array.getElem?_replicate]
    split <;> rfl
  refine wpAny_da (F0 := F) (H0 := H ++ List.replicate (H'.length - H.length) none) hln (okTol_spec hok) (fun i k hik o c ck ho hci hck => ?_) (fun j o c ho hcj => ?_) (fun j o c ho hcj => ?_) (fun j c hcj x hx => ?_) (fun G X hG hX a w hs => ?_)
    ops.size (Array.replicate ops.size false) a _ (ι ++ List.replicate (H'.length - H.length) none) per F _ (by simp) ?_ (fun j o ho hD => ?_) (fun t => by rw [ee, none0]) (by rw [ee, none1]) (fun j c hcj _ x hx => ?_) hst
  · obtain ⟨s, c', ck', r, Hk, t1, t2, t3, t4, t5, t6⟩ := ht i k hik
    rw [hci] at t2; obtain rfl := Option.some.inj t2
    rw [hck] at t3; obtain rfl := Option.some.inj t3
    obtain ⟨s', k1, k2, k3, k4⟩ := so i o ho
    rw [t1] at k1; obtain rfl := Option.some.inj k1
    exact ⟨r, Hk, t4, fun X hX => t5 X (by rw [hX, List.length_append, List.length_replicate]; have := hc.len.1; omega), t6.2 ops o k2 k3 k4⟩
  · obtain ⟨s, k1, k2, k3, k4⟩ := so j o ho
    refine ⟨by rw [(f1 j s c k1 hcj).1, k2], fun k hk => ?_⟩
    have : o ∈ ops.toList := by
      obtain ⟨h1, rfl⟩ := Array.getElem?_eq_some_iff.1 ho
      simp
    have := List.all_eq_true.1 hN o this
    rw [hk] at this
    simpa using this
  · obtain ⟨s, k1, k2, k3, k4⟩ := so j o ho
    exact (f1 j s c k1 hcj).2 ops o k2 k3 k4
  · obtain ⟨h1, h2⟩ := f4 j c hcj x hx
    refine ⟨Nat.le_trans hst1.mle (by rw [hil]; exact h1), ?_⟩
    rw [List.getElem?_append_right h1, List.getElem?_replicate, if_pos (by omega)]
  · refine ⟨F', H', hQ, ?_⟩
    rw [← f3] at hX
    subst hX
    exact hs.weaken fun t => .inl (by rw [f2]; exact (hG t).symm)
  · simp [Array.toList_replicate]
  · have h0 : (Array.replicate ops.size false).getD j false = false := congrFun ee j
    rw [h0] at hD; cases hD
  · obtain ⟨h1, h2⟩ := f4 j c hcj x hx
    rw [List.getElem?_append_right (by rw [hil]; exact h1), List.getElem?_replicate, if_pos (by omega)]

/-- The same, where no operation looks at what a later one lays. -/
theorem Lw.regd {P : Program} {N : Dim} {Q : LPost} {F F' : Fr} {H H' : Hp} {l : List SO} {af : List (List Nat)} {cs : List DA} (hm : P.follows .mixedOrders = true) (hc : Chain P l F H cs F' H') (hok : okB af cs = true)
    (hQ : Q .normal F' H') : Lw P N (.regd l af) Q F H := .regdT [] hm hc hok (fun i k h => by cases h) hQ

/-! ### What an operation looks at -/
def slotsOf (op : Op) : List Nat := op.operands.toList.filterMap fun o => match o with
  | .tmp t => some t
  | _ => none
def guardSlot : Option (Nat × Bool) → List Nat
  | some (s, _) => [s]
  | none => []
def rowsIn : LV → List Nat
  | .ptr h _ => [h]
  | .sl _ h _ _ => [h]
  | _ => []
def lookRows (F : Fr) (op : Op) : List Nat := (op.operands.toList.map (evalO F)).flatMap rowsIn

theorem evalO_congr {F F' : Fr} {op : Op} (h : ∀ t ∈ slotsOf op, fget F t = fget F' t) : ∀ o ∈ op.operands.toList, evalO F o = evalO F' o := by
  intro o ho
  cases o with
  | tmp t => exact h t (List.mem_filterMap.2 ⟨.tmp t, ho, rfl⟩)
  | _ => rfl

theorem map_parts {F F' : Fr} {ps : Array (Nat × Operand)} (h : ∀ o ∈ (ps.toList.map (·.2)), evalO F o = evalO F' o) : (ps.toList.map fun p => (p.1, evalO F p.2)) = ps.toList.map fun p => (p.1, evalO F' p.2) :=
  List.map_congr_left fun p hp => by rw [h p.2 (List.mem_map.2 ⟨p, hp, rfl⟩)]

theorem pure_congr {τ : TT} {F F' : Fr} {op : Op} (h : ∀ o ∈ op.operands.toList, evalO F o = evalO F' o) : pureOp τ F op = pureOp τ F' op := by
  cases op with
  | move x => simp only [pureOp]; rw [h x (by simp [Op.operands])]
  | assign x => simp only [pureOp]; rw [h x (by simp [Op.operands])]
  | pick c a b => simp only [pureOp]; rw [h c (by simp [Op.operands]), h a (by simp [Op.operands]), h b (by simp [Op.operands])]
  | nilCheck x => simp only [pureOp]; rw [h x (by simp [Op.operands])]
  | binOp o t x y u => simp only [pureOp]; rw [h x (by simp [Op.operands]), h y (by simp [Op.operands])]
  | unOp o t x => simp only [pureOp]; rw [h x (by simp [Op.operands])]
  | convert s d x => simp only [pureOp]; rw [h x (by simp [Op.operands])]
  | makeFunc f a b =>
    cases f with
    | func f =>
      simp only [pureOp]
      rw [List.map_congr_left (f := evalO F) (g := evalO F') (l := b.toList) fun o ho => h o (by simp only [Op.operands, Array.toList_append, List.mem_append]; exact .inr ho),
        List.map_congr_left (f := evalO F) (g := evalO F') (l := a.toList) fun o ho => h o (by simp only [Op.operands, Array.toList_append, List.mem_append]; exact .inl ho)]
    | _ => rfl
  | extract x i => simp only [pureOp]; rw [h x (by simp [Op.operands])]
  | fieldAddr s x f => simp only [pureOp]; rw [h x (by simp [Op.operands])]
  | field s x f => simp only [pureOp]; rw [h x (by simp [Op.operands])]
  | indexAddr t x i => simp only [pureOp]; rw [h x (by simp [Op.operands]), h i (by simp [Op.operands])]
  | index t x i => simp only [pureOp]; rw [h x (by simp [Op.operands]), h i (by simp [Op.operands])]
  | build t ps => simp only [pureOp]; rw [map_parts (fun o ho => h o (by simpa [Op.operands] using ho))]
  | slice t x lo hi mx =>
    cases mx with
    | some m => rfl
    | none =>
      have h1 := h x (by simp [Op.operands])
      have h2 : lo.map (evalO F) = lo.map (evalO F') := by
        cases lo with
        | none => rfl
        | some o => simp only [Option.map_some]; rw [h o (by simp [Op.operands])]
      have h3 : hi.map (evalO F) = hi.map (evalO F') := by
        cases hi with
        | none => rfl
        | some o => simp only [Option.map_some]; rw [h o (by simp [Op.operands])]
      simp only [pureOp]
      rw [h1, h2, h3]
  | call c =>
    obtain ⟨callee, args, argTypes⟩ := c
    cases callee with
    | builtin b =>
      have ha : ∀ o ∈ args.toList, evalO F o = evalO F' o := fun o ho => h o (by simp [Op.operands, Call.operands]; simpa using ho)
      cases b with
      | len =>
        simp only [pureOp]
        have : (args[0]?).map (evalO F) = (args[0]?).map (evalO F') := by
          cases h0 : args[0]? with
          | none => rfl
          | some o => simp only [Option.map_some]; rw [ha o (by obtain ⟨h1, rfl⟩ := Array.getElem?_eq_some_iff.1 h0; simp)]
        rw [this]
      | min => simp only [pureOp]; rw [List.map_congr_left ha]
      | max => simp only [pureOp]; rw [List.map_congr_left ha]
      | _ => rfl
    | _ => rfl
  | _ => rfl

theorem row_congr {H H' : Hp} {h : Nat} (e : H'[h]? = H[h]?) : row H' h = row H h := by unfold row; rw [e]

theorem load_congr {τ : TT} {F F' : Fr} {H H' : Hp} {op : Op} (h : ∀ o ∈ op.operands.toList, evalO F' o = evalO F o) (hr : ∀ r ∈ lookRows F op, H'[r]? = H[r]?) : loadOp τ F' H' op = loadOp τ F H op := by
  cases op with
  | load t x =>
    have hx := h x (by simp [Op.operands])
    simp only [loadOp]
    rw [hx]
    split
    · rename_i ti r o hti e
      rw [row_congr (hr r (by simp [lookRows, Op.operands, e, rowsIn]))]
    · rfl
    · rfl
  | convert s d x =>
    have hx := h x (by simp [Op.operands])
    have hb : bytesAt H' (evalO F x) = bytesAt H (evalO F x) := by
      cases e : evalO F x with
      | sl sz q o n => simp only [bytesAt]; rw [row_congr (hr q (by simp [lookRows, Op.operands, e, rowsIn]))]
      | _ => rfl
    simp only [loadOp]
    rw [hx, hb]
  | slice t x lo hi mx =>
    cases mx with
    | some m => rfl
    | none =>
      have hx := h x (by simp [Op.operands])
      have hlo : lo.map (evalO F') = lo.map (evalO F) := by
        cases lo with
        | none => rfl
        | some o => simp only [Option.map_some]; rw [h o (by simp [Op.operands])]
      have hhi : hi.map (evalO F') = hi.map (evalO F) := by
        cases hi with
        | none => rfl
        | some o => simp only [Option.map_some]; rw [h o (by simp [Op.operands])]
      simp only [loadOp]
      rw [hx, hlo, hhi]
      split
      · rename_i m esz g s1 s2 s3 q o ht e
        rw [row_congr (hr q (by simp [lookRows, Op.operands, e, rowsIn]))]
      · rfl
      · rfl
  | _ => rfl

theorem src_congr {H H' : Hp} {esz : Nat} {x : LV} (hr : ∀ r ∈ rowsIn x, H'[r]? = H[r]?) : srcCells H' esz x = srcCells H esz x := by
  cases x with
  | sl sz h o n => simp only [srcCells]; rw [row_congr (hr h (by simp [rowsIn]))]
  | _ => rfl

theorem eff_congr {τ : TT} {F F' : Fr} {H H' : Hp} {n : Nat} {op : Op} (h : ∀ o ∈ op.operands.toList, evalO F' o = evalO F o) (hr : ∀ r ∈ lookRows F op, H'[r]? = H[r]?) : effOp τ F' H' n op = effOp τ F H n op := by
  cases op with
  | alloc t => rfl
  | box t x => simp only [effOp]; rw [h x (by simp [Op.operands])]
  | buildSlice t len ps => simp only [effOp]; rw [map_parts (fun o ho => h o (by simpa [Op.operands] using ho))]
  | makeSlice t l c => simp only [effOp]; rw [h l (by simp [Op.operands]), h c (by simp [Op.operands])]
  | store t x y =>
    have hx := h x (by simp [Op.operands])
    have hy := h y (by simp [Op.operands])
    simp only [effOp]
    rw [hx, hy]
    split
    · rename_i ti r o ds hti e hds
      rw [row_congr (hr r (by simp [lookRows, Op.operands, e, rowsIn]))]
    · rfl
  | call c =>
    obtain ⟨callee, args, argTypes⟩ := c
    cases callee with
    | builtin b =>
      have ha : ∀ o ∈ args.toList, evalO F' o = evalO F o := fun o ho => h o (by simp [Op.operands, Call.operands]; simpa using ho)
      have hrw : ∀ o ∈ args.toList, ∀ r ∈ rowsIn (evalO F o), H'[r]? = H[r]? := fun o ho r hr' => hr r (by
        simp only [lookRows, List.mem_flatMap, List.mem_map]
        exact ⟨_, ⟨o, by simp [Op.operands, Call.operands]; simpa using ho, rfl⟩, hr'⟩)
      have mem : ∀ (i : Nat) (o : Operand), args[i]? = some o → o ∈ args.toList := fun i o h0 => by obtain ⟨h1, rfl⟩ := Array.getElem?_eq_some_iff.1 h0; simp
      cases b with
      | append =>
        simp only [effOp]
        split
        · rename_i t u x y ht hu hx hy
          have mx := mem _ _ hx
          have my := mem _ _ hy
          have hs : ∀ esz, srcCells H' esz (evalO F y) = srcCells H esz (evalO F y) := fun esz => src_congr (hrw y my)
          rw [ha x mx, ha y my]
          simp only [hs]
          split
          · split
            · rfl
            · split
              · rfl
              · rename_i n' xs sz r o m hsrc e
                rw [row_congr (hrw x mx r (by rw [e]; simp [rowsIn]))]
              · rfl
          · rfl
        · rfl
      | copy =>
        simp only [effOp]
        split
        · rename_i t x y ht hx hy
          have mx := mem _ _ hx
          have my := mem _ _ hy
          have hs : ∀ esz, srcCells H' esz (evalO F y) = srcCells H esz (evalO F y) := fun esz => src_congr (hrw y my)
          rw [ha x mx, ha y my]
          simp only [hs]
          split
          · split
            · rename_i sz r o m n' xs e hsrc
              rw [row_congr (hrw x mx r (by rw [e]; simp [rowsIn]))]
            · rfl
          · rfl
        · rfl
      | clear =>
        simp only [effOp]
        split
        · rename_i t x ht hx
          have mx := mem _ _ hx
          rw [ha x mx]
          split
          · rename_i esz eb ez _ _ _ sz r o m htt e
            rw [row_congr (hrw x mx r (by rw [e]; simp [rowsIn]))]
          · rfl
        · rfl
      | _ => rfl
    | _ => rfl
  | _ => rfl

end Go.Lite

/- Lite, part X: what the operations of a region that draws its order do. -/
namespace Go.Lite
open Go Go.RowKit
set_option linter.unusedVariables false

/-- A value that is computed or read. -/
def valP (τ : TT) (F : Fr) (H : Hp) (op : Op) : Option LV :=
  match pureOp τ F op with
  | some x => some x
  | none => loadOp τ F H op

def isLoad : Op → Bool
  | .load _ _ => true
  | .convert _ _ _ => true
  | _ => false

/-- The array that is sliced through its address. -/
def sliceRows (F : Fr) : Op → List Nat
  | .slice _ x _ _ none => (match evalO F x with | .ptr h _ => [h] | _ => [])
  | _ => []
/-- The rows that such an operation looks at. -/
def valRows (F : Fr) (op : Op) : List Nat := if isLoad op then lookRows F op else sliceRows F op

section
variable {P : Program} {F : Fr} {H : Hp} {s : SO}

theorem wantS_congr {g : Option (Nat × Bool)} {F F' : Fr} (h : ∀ t ∈ guardSlot g, fget F' t = fget F t) : wantS g F' = wantS g F := by
  unfold wantS
  rcases g with _ | ⟨t, b⟩
  · rfl
  · simp only
    rw [h t (by simp [guardSlot])]

theorem valP_congr {τ : TT} {F' : Fr} {H' : Hp} {op : Op} (h : ∀ t ∈ slotsOf op, fget F' t = fget F t) (hr : ∀ r ∈ valRows F op, H'[r]? = H[r]?) : valP τ F' H' op = valP τ F H op := by
  have ho := evalO_congr h
  unfold valP
  rw [pure_congr ho]
  split
  · rfl
  · rename_i hpu
    clear hpu
    cases hop : isLoad op with
    | true => exact load_congr ho (by intro r hr'; exact hr r (by rw [valRows, if_pos hop]; exact hr'))
    | false =>
      cases op <;> first | rfl | (simp [isLoad] at hop; done) | skip
      rename_i t x lo hi mx
      cases mx with
      | some m => rfl
      | none =>
        have hx := ho x (by simp [Op.operands])
        have hlo : lo.map (evalO F') = lo.map (evalO F) := by
          cases lo with
          | none => rfl
          | some o => simp only [Option.map_some]; rw [ho o (by simp [Op.operands])]
        have hhi : hi.map (evalO F') = hi.map (evalO F) := by
          cases hi with
          | none => rfl
          | some o => simp only [Option.map_some]; rw [ho o (by simp [Op.operands])]
        simp only [loadOp]
        rw [hx, hlo, hhi]
        split
        · rename_i m esz g s1 s2 s3 q o ht e
          rw [row_congr (hr q (by simp [valRows, isLoad, sliceRows, e]))]
        · rfl
        · rfl

theorem val_run {cx : Ctx} {N : Dim} {ι : Pl} {per : Nat → Prop} {a : Act} {w : World} (hst : ST cx N ι per F H a w) {o : Oper} {x : LV} (h : valP (ttOf P) F H o.op = some x) :
    ∃ u, (execOp a.eval o).run P w = .ok (.value u) w ∧ VR w per ι x u := by
  unfold valP at h
  split at h
  · rename_i y hy
    obtain rfl := Option.some.inj h
    obtain ⟨u, hu, hr⟩ := pure_sound (P := P) hst.fr hy
    exact ⟨u, hu w, hr⟩
  · obtain ⟨u, hu, hr⟩ := load_sound (P := P) hst h
    exact ⟨u, hu w (Ext.refl w), hr⟩

theorem SFact.val {x : LV} (hg : wantS s.g F = some true) (hx : valP (ttOf P) F H s.op = some x) : SFact P s F H ⟨s.dst, x, [], guardSlot s.g ++ slotsOf s.op, valRows F s.op, []⟩ := by
  refine ⟨rfl, fun ops o h1 h2 h3 cx N ι per G X a w hst hls hrs hnw K Q hK => ?_⟩
  have hw : Region.wanted o (yielded ops a.tmps) = true := wanted_sound hst (by rw [h3, wantS_congr fun t ht => hls t (by simp [ht])]; exact hg)
  rw [if_pos hw]
  have hv : valP (ttOf P) G X o.op = some x := by
    rw [h2, valP_congr (F := F) (H := H) (fun t ht => hls t (by simp [ht])) hrs]; exact hx
  obtain ⟨u, hu, hr⟩ := val_run hst hv
  refine runIn (fun c hc => by rw [hc] at hv; simp [valP, pureOp, loadOp] at hv) hu ?_
  exact hK ι per u w hst hr (fun _ _ => rfl)

/-- What stands in row r behind the writes. -/
def lastW : List (Nat × Option (List LV)) → Nat → Option (Option (List LV))
  | [], _ => none
  | (h, y) :: t, r => match lastW t r with
    | some z => some z
    | none => cond (Nat.beq h r) (some y) none
theorem lastW_ok : ∀ (ws : List (Nat × Option (List LV))) (X : Hp) (r : Nat) (y : Option (List LV)), r < X.length → lastW ws r = some y → (applyWs X ws)[r]? = some y := by
  intro ws
  induction ws with
  | nil => intro X r y _ h; cases h
  | cons p t ih =>
    intro X r y hr h
    obtain ⟨k, x⟩ := p
    simp only [lastW] at h
    simp only [applyWs]
    cases ht : lastW t r with
    | some z =>
      rw [ht] at h
      obtain rfl := Option.some.inj h
      exact ih _ r _ (by simpa using hr) ht
    | none =>
      rw [ht] at h
      cases hb : Nat.beq k r with
      | false => rw [hb] at h; cases h
      | true =>
        rw [hb] at h
        have hkr : k = r := by simpa using hb
        subst hkr
        obtain rfl := Option.some.inj h
        have hn : ∀ (t : List (Nat × Option (List LV))), lastW t k = none → k ∉ t.map (·.1) := by
          intro t
          induction t with
          | nil => intro _; simp
          | cons p t ih =>
            intro h
            obtain ⟨m, z⟩ := p
            simp only [lastW] at h
            cases h2 : lastW t k with
            | some _ => rw [h2] at h; cases h
            | none =>
              rw [h2] at h
              simp only [List.map_cons, List.mem_cons, not_or]
              refine ⟨fun e => ?_, ih h2⟩
              subst e
              rw [Nat.beq_refl] at h
              cases h
        rw [applyWs_other _ _ _ (hn t ht)]
        exact List.getElem?_set_self hr

/-- The operation i reads in the rows behind the operation k what it reads in those before it. -/
def TolOk (τ : TT) (l : List SO) (cs : List DA) (F0 : Fr) (i k : Nat) : Prop :=
  ∃ (s : SO) (c ck : DA) (r : Nat) (y : Option (List LV)), l[i]? = some s ∧ cs[i]? = some c ∧ cs[k]? = some ck ∧ c.rs = [r] ∧ lastW ck.ws r = some y ∧ wantS s.g (fD (fun m => Nat.blt m i) 0 cs F0) = some true ∧
    valP τ (fD (fun m => Nat.blt m i) 0 cs F0) (List.replicate r none ++ [y]) s.op = some c.x ∧ valRows (fD (fun m => Nat.blt m i) 0 cs F0) s.op = c.rs ∧ c.d = s.dst ∧ c.ws = [] ∧ c.ls = guardSlot s.g ++ slotsOf s.op ∧ c.nw = []
def TolsOk (τ : TT) (l : List SO) (cs : List DA) (F0 : Fr) : List (Nat × Nat) → Prop
  | [] => True
  | (i, k) :: r => TolOk τ l cs F0 i k ∧ TolsOk τ l cs F0 r

theorem TolsOk.of {τ : TT} {l : List SO} {cs : List DA} {F0 : Fr} : ∀ {tol : List (Nat × Nat)}, TolsOk τ l cs F0 tol → ∀ i k, (i, k) ∈ tol → TolOk τ l cs F0 i k
  | [], _, i, k, h => by cases h
  | (a, b) :: r, h, i, k, hm => by
    rcases List.mem_cons.1 hm with e | hm
    · obtain ⟨rfl, rfl⟩ := Prod.mk.inj e; exact h.1
    · exact TolsOk.of h.2 i k hm

theorem TolOk.fact {l : List SO} {cs : List DA} {F0 : Fr} {i k : Nat} (h : TolOk (ttOf P) l cs F0 i k) :
    ∃ (s : SO) (c ck : DA) (r : Nat) (Hk : Hp), l[i]? = some s ∧ cs[i]? = some c ∧ cs[k]? = some ck ∧ c.rs = [r] ∧ (∀ X : Hp, r < X.length → r ∈ ck.keys → (applyWs X ck.ws)[r]? = Hk[r]?) ∧ SFact P s (fD (fun m => decide (m < i)) 0 cs F0) Hk c := by
  obtain ⟨s, c, ck, r, y, h1, h2, h3, h4, h5, h7, h8, h9, g1, g2, g3, g4⟩ := h
  have e : (fun m => decide (m < i)) = fun m => Nat.blt m i := by
    funext m
    by_cases hm : m < i
    · have hb : Nat.blt m i = true := by simpa using hm
      rw [decide_eq_true hm, hb]
    · rw [decide_eq_false hm]
      cases hb : Nat.blt m i with
      | false => rfl
      | true => exact absurd (by simpa using hb) hm
  refine ⟨s, c, ck, r, List.replicate r none ++ [y], h1, h2, h3, h4, fun X hX hk => ?_, ?_⟩
  · rw [lastW_ok _ X r y hX h5, List.getElem?_append_right (by simp)]; simp
  · rw [e]
    have hv := SFact.val (P := P) h7 h8
    obtain ⟨d, x, ws, ls, rs, nw⟩ := c
    simp only at g1 g2 g3 g4 h9 hv
    rw [h9] at hv
    subst g1; subst g2; subst g3; subst g4
    exact hv

theorem SFact.skip (hg : wantS s.g F = some false) : SFact P s F H ⟨s.dst, .und, [], guardSlot s.g, [], []⟩ := by
  refine ⟨rfl, fun ops o h1 h2 h3 cx N ι per G X a w hst hls hrs hnw K Q hK => ?_⟩
  have hw : Region.wanted o (yielded ops a.tmps) = false := wanted_sound hst (by rw [h3, wantS_congr fun t ht => hls t (by simpa using ht)]; exact hg)
  rw [if_neg (by rw [hw]; simp)]
  exact hK ι per undef w hst .und (fun _ _ => rfl)

theorem SFact.eff {x : LV} {ws : List (Nat × Option (List LV))} (hg : wantS s.g F = some true) (hx : effOp (ttOf P) F H H.length s.op = some (x, ws)) :
    SFact P s F H ⟨s.dst, x, ws, guardSlot s.g ++ slotsOf s.op, lookRows F s.op, if makes s.op then [H.length] else []⟩ := by
  refine ⟨rfl, fun ops o h1 h2 h3 cx N ι per G X a w hst hls hrs hnw K Q hK => ?_⟩
  have hw : Region.wanted o (yielded ops a.tmps) = true := wanted_sound hst (by rw [h3, wantS_congr fun t ht => hls t (by simp [ht])]; exact hg)
  rw [if_pos hw]
  have hv : effOp (ttOf P) G X H.length o.op = some (x, ws) := by
    rw [h2, eff_congr (F := F) (H := H) (evalO_congr fun t ht => hls t (by simp [ht])) hrs]; exact hx
  have main : ∃ u w' ι', ((execOp a.eval o).run P w = .ok (.value u) w' ∨ ((execOp a.eval o).run P w = .ok .skip w' ∧ u = undef)) ∧ ST cx N ι' per G (applyWs X ws) a w' ∧ VR w' per ι' x u ∧
      ∀ h, h ∉ (if makes s.op then [H.length] else []) → ι'[h]? = ι[h]? := by
    by_cases hm : makes s.op = true
    · obtain ⟨u, w', ι', hu, hst', hr, _, hoth⟩ := eff_sound (P := P) hst (nn := H.length) (o := o) (fun _ => hnw _ (by rw [if_pos hm]; simp)) hv
      exact ⟨u, w', ι', hu, hst', hr, fun h hh => hoth h (by rw [if_pos hm] at hh; simpa using hh)⟩
    · have hv2 : effOp (ttOf P) G X ι.length o.op = some (x, ws) := by
        rw [← hv]
        rw [h2]
        cases hop : s.op <;> simp only [hop, makes, not_true_eq_false] at hm <;> try rfl
        rename_i c
        obtain ⟨callee, args, tys⟩ := c
        cases callee with
        | builtin b => cases b <;> first | rfl | (simp [makes] at hm)
        | _ => rfl
      obtain ⟨u, w', ι', hu, hst', hr, _, hoth⟩ := eff_sound (P := P) hst (nn := ι.length) (o := o) (fun e => absurd (by rw [← h2]; exact e) hm) hv2
      refine ⟨u, w', ι', hu, hst', hr, fun h _ => ?_⟩
      by_cases e : h = ι.length
      · subst e
        rw [List.getElem?_eq_none (Nat.le_refl _), List.getElem?_eq_none]
        rw [hst'.rep.len, applyWs_length, hst.rep.len]
        exact Nat.le_refl _
      · exact hoth h e
  obtain ⟨u, w', ι', hu, hst', hr, hι⟩ := main
  have hnd : ∀ c, o.op ≠ .defer c := fun c hc => by rw [hc] at hv; simp [effOp] at hv
  rcases hu with hu | ⟨hu, rfl⟩
  · refine runIn hnd hu ?_; exact hK ι' per u w' hst' hr hι
  · refine runIn hnd hu ?_; exact hK ι' per undef w' hst' hr hι

end

/-! ### Calls -/
mutual
/-- A value that says all of itself. -/
def rigid : LV → Bool
  | .bool _ | .int _ _ | .str _ | .nilp | .nils | .nilf | .und => true
  | .tup cs => rigidL cs
  | .agg cs => rigidL cs
  | _ => false
def rigidL : List LV → Bool
  | [] => true
  | c :: r => rigid c && rigidL r
end

theorem rigidL_get {cs : List LV} (h : rigidL cs = true) : ∀ i (hi : i < cs.length), rigid cs[i] = true := by
  induction cs with
  | nil => intro i hi; simp at hi
  | cons c r ih =>
    simp only [rigidL, Bool.and_eq_true] at h
    intro i hi
    cases i with
    | zero => exact h.1
    | succ i => exact ih h.2 i (by simpa using hi)

theorem VR.rigid {w w' : World} {per per' : Nat → Prop} {ι ι' : Pl} {x : LV} {v : Value} (h : VR w per ι x v) : Lite.rigid x = true → VR w' per' ι' x v := by
  induction h with
  | dead v => intro h; simp [Lite.rigid] at h
  | und => intro _; exact .und
  | bool b => intro _; exact .bool b
  | int k n => intro _; exact .int k n
  | str s => intro _; exact .str s
  | nilp => intro _; exact .nilp
  | ptr hi => intro h; simp [Lite.rigid] at h
  | pp vs h1 h2 h3 _ => intro h; simp [Lite.rigid] at h
  | nils => intro _; exact .nils
  | sl h1 h2 h3 => intro h; simp [Lite.rigid] at h
  | slz => intro h; simp [Lite.rigid] at h
  | psz => intro h; simp [Lite.rigid] at h
  | ps vs h1 h2 h3 h4 h5 _ => intro h; simp [Lite.rigid] at h
  | nilf => intro _; exact .nilf
  | yld l => intro h; simp [Lite.rigid] at h
  | fn hn hv ih => intro h; simp [Lite.rigid] at h
  | agg hn hv ih => intro h; exact .agg hn fun i hi => ih i hi (rigidL_get (by simpa [Lite.rigid] using h) i hi)
  | tup hn hv ih => intro h; exact .tup hn fun i hi => ih i hi (rigidL_get (by simpa [Lite.rigid] using h) i hi)

/-- Worlds in which all that was there is as it was. -/
theorem ST.later {cx : Ctx} {N : Dim} {ι : Pl} {per : Nat → Prop} {F : Fr} {H : Hp} {a : Act} {w w' : World} (hst : ST cx N ι per F H a w) (h : Kept (fun b => b < w.heap.size) w w') : ST cx N ι per F H a w' := by
  have hk : ∀ kp : Nat → Prop, (∀ b, kp b → b < w.heap.size) → Kept kp w w' := fun kp hk => h.mono hk
  have hs : Step per w w' := (hk per hst.rep.perlt).step
  refine ⟨⟨hst.rep.len, fun b hb => Nat.lt_of_lt_of_le (hst.rep.perlt b hb) h.size, fun k ds hk => ?_, hst.rep.inj⟩, hst.p1, hst.p2, hst.fr.step hs (fun _ _ h => h), hst.size, hst.defers.keep (hk _ hst.bs),
    hst.below.trans (hk _ hst.bs), fun b hb => Nat.lt_of_lt_of_le (hst.bs b hb) h.size, hst.grow⟩
  rcases hst.rep.live k ds hk with h1 | ⟨b, o, c, e, h1, h2, h3, h4, h5, h6⟩
  · exact .inl h1
  · exact .inr ⟨b, o, c, e, h1, h2, h3, h4.get (h.step.same _ (lt_of_get h4.1)), h5, fun i hi => (h6 i hi).step hs (fun _ h => h) (fun _ _ h => h)⟩

/-- The rows that a reader reaches. -/
def reach (H : Hp) : Nat → LV → List Nat
  | 0, _ => []
  | k + 1, x => match x with
    | .sl _ h _ _ => h :: (match row H h with | some cs => if hfreeL cs then [] else cs.flatMap (reach H k) | none => [])
    | .ptr h _ => h :: (match row H h with | some cs => if hfreeL cs then [] else cs.flatMap (reach H k) | none => [])
    | .agg cs => if hfreeL cs then [] else cs.flatMap (reach H k)
    | .fn _ cs => if hfreeL cs then [] else cs.flatMap (reach H k)
    | _ => []

theorem snap_congr {H H' : Hp} : ∀ (k : Nat) (x : LV), (∀ r ∈ reach H k x, H'[r]? = H[r]?) → snap H' k x = snap H k x := by
  intro k
  induction k with
  | zero => intro x _; rfl
  | succ k ih =>
    have ihL : ∀ (cs : List LV), (∀ r ∈ (if hfreeL cs then [] else cs.flatMap (reach H k)), H'[r]? = H[r]?) → snL (snap H' k) cs = snL (snap H k) cs := by
      intro cs h
      unfold snL
      split
      · rfl
      · rename_i hf
        rw [if_neg hf] at h
        exact List.map_congr_left fun c hc => ih c fun r hr => h r (List.mem_flatMap.2 ⟨c, hc, hr⟩)
    intro x h
    cases x with
    | sl sz r o n =>
      simp only [snap]
      have h0 := h r (by simp [reach])
      rw [row_congr h0]
      cases hrow : row H r with
      | none => rfl
      | some cs =>
        simp only [reach, hrow] at h
        simp only
        split
        · congr 1
          -- the part that is seen: its cells are among the row's
          unfold snL
          by_cases hf : hfreeL cs = true
          · have : hfreeL ((cs.drop o).take (n * sz)) = true := by
              have gen : ∀ (l : List LV), (∀ c ∈ l, hfree c = true) → hfreeL l = true := by
                intro l
                induction l with
                | nil => intro _; rfl
                | cons c r ih => intro h; simp only [hfreeL, Bool.and_eq_true]; exact ⟨h c (by simp), ih fun d hd => h d (by simp [hd])⟩
              refine gen _ fun c hc => ?_
              have hc2 := List.mem_of_mem_drop (List.mem_of_mem_take hc)
              obtain ⟨i, hi, rfl⟩ := List.getElem_of_mem hc2
              exact hfreeL_get hf i hi
            rw [if_pos this, if_pos this]
          · rw [if_neg hf] at h
            split
            · rfl
            · refine List.map_congr_left fun c hc => ih c fun r' hr => h r' ?_
              have hc2 := List.mem_of_mem_drop (List.mem_of_mem_take hc)
              exact List.mem_cons_of_mem _ (List.mem_flatMap.2 ⟨c, hc2, hr⟩)
        · rfl
    | ptr r o =>
      simp only [snap]
      have h0 := h r (by simp [reach])
      rw [row_congr h0]
      cases hrow : row H r with
      | none => rfl
      | some cs =>
        simp only [reach, hrow] at h
        simp only
        congr 1
        unfold snL
        by_cases hf : hfreeL cs = true
        · have : hfreeL (cs.drop o) = true := by
            have gen : ∀ (l : List LV), (∀ c ∈ l, hfree c = true) → hfreeL l = true := by
              intro l
              induction l with
              | nil => intro _; rfl
              | cons c r ih => intro h; simp only [hfreeL, Bool.and_eq_true]; exact ⟨h c (by simp), ih fun d hd => h d (by simp [hd])⟩
            refine gen _ fun c hc => ?_
            have hc2 := List.mem_of_mem_drop hc
            obtain ⟨i, hi, rfl⟩ := List.getElem_of_mem hc2
            exact hfreeL_get hf i hi
          rw [if_pos this, if_pos this]
        · rw [if_neg hf] at h
          split
          · rfl
          · refine List.map_congr_left fun c hc => ih c fun r' hr => h r' ?_
            have hc2 := List.mem_of_mem_drop hc
            exact List.mem_cons_of_mem _ (List.mem_flatMap.2 ⟨c, hc2, hr⟩)
    | agg cs => simp only [snap]; rw [ihL cs (by simpa only [reach] using h)]
    | fn f cs => simp only [snap]; rw [ihL cs (by simpa only [reach] using h)]
    | _ => rfl

section
variable {P : Program} {F : Fr} {H : Hp} {s : SO}

theorem enter_run {cx : Ctx} {N : Dim} {ι : Pl} {per : Nat → Prop} {a : Act} {w : World} {F : Fr} {H : Hp} (hst : ST cx N ι per F H a w) {o : Oper} {g : Operand} {args : Array Operand} {tys : Array TypeId} {f : Nat} {cap : List LV}
    (hop : o.op = .call ⟨.value g, args, tys⟩) (hg : evalO F g = .fn f cap) (hu : isUnd cap = false) (hc : callable P f = true) : ∃ vs, VL w ι per (args.toList.map (evalO F) ++ cap) vs ∧ (execOp a.eval o).run P w = .ok (.enter f vs.toArray) w := by
  have hgv := hst.fr.eval g
  rw [hg] at hgv
  generalize hgg : a.eval g = gv at hgv
  cases hgv with
  | @fn _ _ _ vs hn hv =>
    rw [fnV_off hu] at hgg
    refine ⟨args.toList.map a.eval ++ vs, (evalL hst.fr args.toList).append ⟨hn, hv⟩, ?_⟩
    obtain ⟨dst, op, ty, pos, after, guard⟩ := o
    simp only at hop
    subst hop
    simp only [execOp, resolve, hgg, Deferred.ofValue, Sem.run_bind, Sem.run_pure, Result.andThen_ok, invoke]
    have e : (#[] ++ args.map a.eval ++ vs.toArray : Array Value) = (args.toList.map a.eval ++ vs).toArray := by apply Array.ext'; simp
    rw [e]
    exact callFunc_enter hc _

/-- A callee that only reads and hands back a value that says all of itself. -/
theorem SFact.quiet {g : Operand} {args : Array Operand} {tys : Array TypeId} {f : Nat} {cap : List LV} {x : LV} {R : LV → Hp → Prop} (hw : wantS s.g F = some true) (hop : s.op = .call ⟨.value g, args, tys⟩) (hg : evalO F g = .fn f cap) (hu : isUnd cap = false)
    (hc : LC P f ((args.toList.map (evalO F) ++ cap).map (snap H 3)) [] R) (hR : ∀ y G, R y G → y = x) (hx : rigid x = true) :
    SFact P s F H ⟨s.dst, x, [], guardSlot s.g ++ slotsOf s.op, (args.toList.map (evalO F) ++ cap).flatMap (reach H 3), []⟩ := by
  refine ⟨rfl, fun ops o h1 h2 h3 cx N ι per G X a w hst hls hrs hnw K Q hK => ?_⟩
  have hwt : Region.wanted o (yielded ops a.tmps) = true := wanted_sound hst (by rw [h3, wantS_congr fun t ht => hls t (by simp [ht])]; exact hw)
  rw [if_pos hwt]
  have ho := evalO_congr (F := G) (F' := F) (op := s.op) fun t ht => hls t (by simp [ht])
  have hg' : evalO G g = .fn f cap := by rw [ho g (by rw [hop]; simp [Op.operands, Call.operands])]; exact hg
  have ha : args.toList.map (evalO G) = args.toList.map (evalO F) := List.map_congr_left fun y hy => ho y (by rw [hop]; simp [Op.operands, Call.operands]; exact .inr (by simpa using hy))
  obtain ⟨vs, hvl, hrun⟩ := enter_run hst (o := o) (h2.trans hop) hg' hu hc.1
  rw [ha] at hvl
  have hsn : VL w [] (allOf w) ((args.toList.map (evalO F) ++ cap).map (snap H 3)) vs := by
    refine ⟨by simpa using hvl.1, fun i hi => ?_⟩
    rw [List.getElem_map]
    have hi2 : i < (args.toList.map (evalO F) ++ cap).length := by simpa using hi
    have := snap_sound hst 3 _ _ (hvl.2 i hi2)
    rwa [snap_congr (H := H) (H' := X) 3 _ fun r hr => hrs r (List.mem_flatMap.2 ⟨_, List.getElem_mem hi2, hr⟩)] at this
  refine runIn (fun c hc => by rw [h2.trans hop] at hc; cases hc) hrun ?_
  rw [Oper.uponIn_enter]
  refine ⟨fun hd => (by cases hd), CallsIn.mono ((callsIn_wide (n := 0)).2 (hc.2 (fun b => b < w.heap.size) (allOf w) [] w vs (Rep.nil _ _ _ fun b hb => hb) (fun b hb => hb) (fun b hb => hb) hsn)) fun e w' ⟨v, res, G1, ι1, per1, he, hr, hkept, _, hv, _⟩ => ?_⟩
  subst he
  have := hR _ _ hr
  subst this
  exact hK ι per v w' (hst.later hkept) (hv.rigid hx) (fun _ _ => rfl)

end
end Go.Lite

/- Lite, part Y: in a region that draws its order, a call that hands back rows of its own. -/
namespace Go.Lite
open Go Go.RowKit
set_option linter.unusedVariables false

/-- ys written over l from n on. -/
def putAt {α : Type} : List α → Nat → List α → List α
  | l, _, [] => l
  | l, n, y :: r => putAt (l.set n y) (n + 1) r

theorem putAt_length {α : Type} : ∀ (ys l : List α) (n : Nat), (putAt l n ys).length = l.length := by
  intro ys
  induction ys with
  | nil => intro l n; rfl
  | cons y r ih => intro l n; simp [putAt, ih]

theorem putAt_out {α : Type} : ∀ (ys l : List α) (n k : Nat), (k < n ∨ n + ys.length ≤ k) → (putAt l n ys)[k]? = l[k]? := by
  intro ys
  induction ys with
  | nil => intro l n k _; rfl
  | cons y r ih =>
    intro l n k h
    simp only [List.length_cons] at h
    simp only [putAt]
    rw [ih _ _ _ (by omega), List.getElem?_set_ne (by omega)]

theorem putAt_in {α : Type} : ∀ (ys l : List α) (n j : Nat), j < ys.length → n + ys.length ≤ l.length → (putAt l n ys)[n + j]? = ys[j]? := by
  intro ys
  induction ys with
  | nil => intro l n j h; simp at h
  | cons y r ih =>
    intro l n j h hl
    simp only [List.length_cons] at h hl
    simp only [putAt]
    cases j with
    | zero => rw [putAt_out r (l.set n y) (n + 1) (n + 0) (.inl (by omega)), Nat.add_zero, List.getElem?_set_self (by omega)]; rfl
    | succ j =>
      rw [show n + (j + 1) = n + 1 + j by omega, ih _ _ _ (by omega) (by simp; omega)]
      simp

def wsOf : Nat → Hp → List (Nat × Option (List LV))
  | _, [] => []
  | n, r :: X => (n, r) :: wsOf (n + 1) X

theorem apply_wsOf : ∀ (Y : Hp) (X : Hp) (n : Nat), applyWs X (wsOf n Y) = putAt X n Y := by
  intro Y
  induction Y with
  | nil => intro X n; rfl
  | cons r Y ih => intro X n; simp only [wsOf, applyWs, putAt]; exact ih _ _

theorem keys_wsOf : ∀ (Y : Hp) (n x : Nat), x ∈ (wsOf n Y).map (·.1) ↔ n ≤ x ∧ x < n + Y.length := by
  intro Y
  induction Y with
  | nil => intro n x; simp [wsOf]
  | cons r Y ih => intro n x; simp only [wsOf, List.map_cons, List.mem_cons, ih, List.length_cons]; omega

section
variable {P : Program} {F : Fr} {H : Hp} {s : SO}

theorem SFact.fresh {g : Operand} {args : Array Operand} {tys : Array TypeId} {f : Nat} {cap : List LV} {x : LV} {X0 : Hp} {R : LV → Hp → Prop} (hw : wantS s.g F = some true) (hop : s.op = .call ⟨.value g, args, tys⟩) (hg : evalO F g = .fn f cap) (hu : isUnd cap = false)
    (hc : LC P f ((args.toList.map (evalO F) ++ cap).map (snap H 3)) [] R) (hR : ∀ y G, R y G → y = x ∧ G = X0) (hx : psfree x = true) (hX : psfreeH X0 = true) (n : Nat) :
    SFact P s F H ⟨s.dst, ren (n + ·) x, wsOf n (X0.map (renR (n + ·))), guardSlot s.g ++ slotsOf s.op, (args.toList.map (evalO F) ++ cap).flatMap (reach H 3), (wsOf n (X0.map (renR (n + ·)))).map (·.1)⟩ := by
  refine ⟨rfl, fun ops o h1 h2 h3 cx N ι per G X a w hst hls hrs hnw K Q hK => ?_⟩
  have hwt : Region.wanted o (yielded ops a.tmps) = true := wanted_sound hst (by rw [h3, wantS_congr fun t ht => hls t (by simp [ht])]; exact hw)
  rw [if_pos hwt]
  have ho := evalO_congr (F := G) (F' := F) (op := s.op) fun t ht => hls t (by simp [ht])
  have hg' : evalO G g = .fn f cap := by rw [ho g (by rw [hop]; simp [Op.operands, Call.operands])]; exact hg
  have ha : args.toList.map (evalO G) = args.toList.map (evalO F) := List.map_congr_left fun y hy => ho y (by rw [hop]; simp [Op.operands, Call.operands]; exact .inr (by simpa using hy))
  obtain ⟨vs, hvl, hrun⟩ := enter_run hst (o := o) (h2.trans hop) hg' hu hc.1
  rw [ha] at hvl
  have hsn : VL w [] (allOf w) ((args.toList.map (evalO F) ++ cap).map (snap H 3)) vs := by
    refine ⟨by simpa using hvl.1, fun i hi => ?_⟩
    rw [List.getElem_map]
    have hi2 : i < (args.toList.map (evalO F) ++ cap).length := by simpa using hi
    have := snap_sound hst 3 _ _ (hvl.2 i hi2)
    rwa [snap_congr (H := H) (H' := X) 3 _ fun r hr => hrs r (List.mem_flatMap.2 ⟨_, List.getElem_mem hi2, hr⟩)] at this
  refine runIn (fun c hc => by rw [h2.trans hop] at hc; cases hc) hrun ?_
  rw [Oper.uponIn_enter]
  refine ⟨fun hd => (by cases hd), CallsIn.mono ((callsIn_wide (n := 0)).2 (hc.2 (fun b => b < w.heap.size) (allOf w) [] w vs (Rep.nil _ _ _ fun b hb => hb) (fun b hb => hb) (fun b hb => hb) hsn)) fun e w' ⟨v, res, G1, ι1, per1, he, hr, q3, q4, q5, q6, _⟩ => ?_⟩
  subst he
  obtain ⟨rfl, rfl⟩ := hR _ _ hr
  have vac : ∀ j, j < G1.length → Vac N ι X (n + j) := fun j hj => hnw _ (by rw [keys_wsOf]; simp; omega)
  have hlen : G1.length = 0 ∨ n + G1.length ≤ X.length := by
    rcases Nat.eq_zero_or_pos G1.length with h | h
    · exact .inl h
    · refine .inr ?_
      have := (vac (G1.length - 1) (by omega)).2.1
      rcases Nat.lt_or_ge (n + (G1.length - 1)) X.length with h' | h'
      · omega
      · simp [List.getElem?_eq_none h'] at this
  have hιl : ι.length = X.length := hst.rep.len
  have h1l : ι1.length = G1.length := q4.len
  have hk : Kept cx.kp w w' := q3.mono fun b hb => hst.bs b hb
  have hs : Step per w w' := ⟨fun b hb => q3.step.same b (hst.rep.perlt b hb), q3.step.room⟩
  have newι : ∀ j, j < G1.length → (putAt ι n ι1)[n + j]? = ι1[j]? := fun j hj => putAt_in _ _ _ _ (by omega) (by omega)
  have outι : ∀ k, (k < n ∨ n + G1.length ≤ k) → (putAt ι n ι1)[k]? = ι[k]? := fun k hk => putAt_out _ _ _ _ (by omega)
  have oldι : ∀ (h : Nat) (b : Nat × Nat), ι[h]? = some (some b) → (putAt ι n ι1)[h]? = some (some b) := fun h b hb => by
    rw [outι]
    · exact hb
    · refine Classical.byContradiction fun hn => ?_
      have := (vac (h - n) (by omega)).2.2
      rw [show n + (h - n) = h by omega, hb] at this
      cases this
  have fwd : ∀ (j : Nat) (b : Nat × Nat), ι1[j]? = some (some b) → (putAt ι n ι1)[n + j]? = some (some b) := fun j b hb => by
    rw [newι]
    · exact hb
    · rcases Nat.lt_or_ge j ι1.length with h' | h'
      · omega
      · simp [List.getElem?_eq_none h'] at hb
  have cases_row : ∀ (k : Nat) (ds : List LV), (putAt X n (G1.map (renR (n + ·))))[k]? = some (some ds) → ((k < n ∨ n + G1.length ≤ k) ∧ X[k]? = some (some ds)) ∨ ∃ j d, k = n + j ∧ j < G1.length ∧ G1[j]? = some (some d) ∧ ds = renL (n + ·) d := by
    intro k ds hk
    by_cases hko : k < n ∨ n + G1.length ≤ k
    · rw [putAt_out _ _ _ _ (by simpa using hko)] at hk
      exact .inl ⟨hko, hk⟩
    · obtain ⟨j, rfl⟩ : ∃ j, k = n + j := ⟨k - n, by omega⟩
      have hj : j < G1.length := by omega
      rw [putAt_in _ _ _ _ (by simpa using hj) (by simp; omega), List.getElem?_map] at hk
      cases hx : G1[j]? with
      | none => rw [hx] at hk; cases hk
      | some y =>
        rw [hx] at hk
        cases y with
        | none => cases hk
        | some d => exact .inr ⟨j, d, rfl, hj, hx, (Option.some.inj (Option.some.inj hk)).symm⟩
  rw [apply_wsOf] at hK
  refine hK (putAt ι n ι1) per v w' ⟨⟨by simp [putAt_length, hιl], fun b hb => Nat.lt_of_lt_of_le (hst.rep.perlt b hb) q3.size, fun k ds hk => ?_, fun k k' ds ds' b o b' o' hk hk' hi hi' hbb => ?_⟩, hst.p1, hst.p2, fun t => (hst.fr t).step hs (fun _ h => h) oldι,
    hst.size, hst.defers.keep hk, hst.below.trans hk, fun b hb => Nat.lt_of_lt_of_le (hst.bs b hb) hk.size, hst.grow.1, fun h hh => ?_⟩ ((q5.psfree hx).ren fwd) fun h hh => ?_
  · rcases cases_row k ds hk with ⟨hko, hh⟩ | ⟨j, d, rfl, hjl, hj, rfl⟩
    · rcases hst.rep.live k ds hh with ⟨h2, h3⟩ | ⟨b, o, c, e2, h2, h3, h4, h5, h6, h7⟩
      · exact .inl ⟨by rw [outι k hko]; exact h2, h3⟩
      · exact .inr ⟨b, o, c, e2, oldι _ _ h2, h3, h4, h5.get (q3.step.same b (lt_of_get h5.1)), h6, fun i hi => (h7 i hi).step hs (fun _ h => h) oldι⟩
    · rcases q4.live j d hj with ⟨h2, h3⟩ | ⟨b, o, c, e2, h2, h3, h4, h5, h6, h7⟩
      · subst h3
        exact .inl ⟨by rw [newι j hjl]; exact h2, rfl⟩
      · refine .inr ⟨b, o, c, e2, fwd _ _ h2, fun hp => h3 (hst.bs b hp), fun hp => h3 (hst.rep.perlt b hp), h5, by simpa [renL_eq] using h6, fun i hi => ?_⟩
        have h8 := h7 i (by simpa [renL_eq] using hi)
        simp only [renL_eq, List.getElem_map]
        exact (h8.psfree (psfreeL_get (psfreeH_get hX hj) i (by simpa [renL_eq] using hi))).ren fwd
  · rcases cases_row k ds hk with ⟨hko, hh⟩ | ⟨j, d, rfl, hjl, hj, rfl⟩ <;> rcases cases_row k' ds' hk' with ⟨hko', hh'⟩ | ⟨j', d', rfl, hjl', hj', rfl⟩
    · rw [outι k hko] at hi; rw [outι k' hko'] at hi'
      exact hst.rep.inj k k' ds ds' b o b' o' hh hh' hi hi' hbb
    · rw [outι k hko] at hi
      obtain ⟨c1, e1, _, _, g3, _⟩ := hst.rep.block hh hi
      rw [newι _ hjl'] at hi'
      obtain ⟨c2, e2, g1, _⟩ := q4.block hj' hi'
      subst hbb
      exact absurd (lt_of_get g3.1) g1
    · rw [outι k' hko'] at hi'
      obtain ⟨c1, e1, _, _, g3, _⟩ := hst.rep.block hh' hi'
      rw [newι _ hjl] at hi
      obtain ⟨c2, e2, g1, _⟩ := q4.block hj hi
      subst hbb
      exact absurd (lt_of_get g3.1) g1
    · rw [newι _ hjl] at hi; rw [newι _ hjl'] at hi'
      rw [q4.inj j j' d d' b o b' o' hj hj' hi hi' hbb]
  · rw [outι]
    · exact hst.grow.2 h hh
    · refine Classical.byContradiction fun hn => ?_
      have := (vac (h - n) (by omega)).1
      omega
  · rw [outι]
    rw [keys_wsOf] at hh
    simp at hh
    omega

theorem apply_zip : ∀ (ρ : List Nat) (X Y : Hp), Y.length = ρ.length → applyWs X (ρ.zip Y) = setRows X ρ Y := by
  intro ρ
  induction ρ with
  | nil => intro X Y _; rfl
  | cons h r ih =>
    intro X Y hl
    cases Y with
    | nil => simp at hl
    | cons y Y => simp only [List.zip_cons_cons, applyWs, setRows]; exact ih _ _ (by simpa using hl)

/-- A callee to whom rows are handed over, and who makes none. -/
theorem SFact.hand {g : Operand} {args : Array Operand} {tys : Array TypeId} {f : Nat} {cap args0 : List LV} {H0 X0 Y0 : Hp} {x0 x : LV} {R : LV → Hp → Prop} (ρ : List Nat) (hw : wantS s.g F = some true) (hop : s.op = .call ⟨.value g, args, tys⟩) (hg : evalO F g = .fn f cap) (hu : isUnd cap = false)
    (hn : ρ.Nodup) (hl0 : H0.length = ρ.length) (hl1 : X0.length = ρ.length) (hlt : ∀ h ∈ ρ, h < H.length) (ha : ∀ n, args0.map (ren (gOf ρ n)) = args.toList.map (evalO F) ++ cap)
    (hrows : ∀ (n j h : Nat) (cs : List LV), ρ[j]? = some h → H0[j]? = some (some cs) → H[h]? = some (some (renL (gOf ρ n) cs)))
    (hc : LC P f args0 H0 R) (hR : ∀ y G, R y G → y = x0 ∧ G = X0) (hx : ∀ n, ren (gOf ρ n) x0 = x) (hY : ∀ n, X0.map (renR (gOf ρ n)) = Y0) :
    SFact P s F H ⟨s.dst, x, ρ.zip Y0, guardSlot s.g ++ slotsOf s.op, ρ, []⟩ := by
  refine ⟨rfl, fun ops o h1 h2 h3 cx N ι per G X a w hst hls hrs hnw K Q hK => ?_⟩
  have hwt : Region.wanted o (yielded ops a.tmps) = true := wanted_sound hst (by rw [h3, wantS_congr fun t ht => hls t (by simp [ht])]; exact hw)
  rw [if_pos hwt]
  have ho := evalO_congr (F := G) (F' := F) (op := s.op) fun t ht => hls t (by simp [ht])
  have hg' : evalO G g = .fn f cap := by rw [ho g (by rw [hop]; simp [Op.operands, Call.operands])]; exact hg
  have haa : args.toList.map (evalO G) = args.toList.map (evalO F) := List.map_congr_left fun y hy => ho y (by rw [hop]; simp [Op.operands, Call.operands]; exact .inr (by simpa using hy))
  obtain ⟨vs, hvl, hrun⟩ := enter_run hst (o := o) (h2.trans hop) hg' hu hc.1
  rw [haa, ← ha X.length] at hvl
  have hYl : Y0.length = ρ.length := by rw [← hY 0]; simpa using hl1
  have key := callK.hand (P := P) (f := f) (args0 := args0) (H := X) (H0 := H0) (K := fun y G' => y = x ∧ G' = setRows X ρ Y0) ρ hn (fun h hh => by
      have e := hrs h hh
      rw [List.getElem?_eq_getElem (hlt h hh)] at e
      exact (List.getElem?_eq_some_iff.1 e).1) hl0
    (fun j h cs hj hcs => by rw [hrs h (List.mem_of_getElem? hj)]; exact hrows _ j h cs hj hcs)
    (hc.mono fun y G' hy => by
      obtain ⟨rfl, rfl⟩ := hR y G' hy
      refine ⟨hx _, ?_⟩
      rw [List.take_of_length_le (by omega), List.drop_eq_nil_of_le (by omega), hY]; simp)
  refine runIn (fun c hc => by rw [h2.trans hop] at hc; cases hc) hrun ?_
  rw [Oper.uponIn_enter]
  refine ⟨fun hd => (by cases hd), CallsIn.mono ((callsIn_wide (n := 0)).2 (key.2 cx N ι per G a w vs hst hvl)) fun e w' ⟨v, res, H', ι', per', he, ⟨hr1, hr2⟩, hst', hv, _, _, hι⟩ => ?_⟩
  subst he; subst hr1; subst hr2
  have hst'' := hst'
  rw [← apply_zip ρ X Y0 hYl] at hst'
  refine hK ι' per' v w' hst' hv fun h _ => ?_
  rcases Nat.lt_or_ge h ι.length with hl | hl
  · exact hι h hl
  · rw [List.getElem?_eq_none hl, List.getElem?_eq_none]
    rw [hst''.rep.len, setRows_length, ← hst.rep.len]; exact hl


theorem applyWs_app : ∀ (a b : List (Nat × Option (List LV))) (H : Hp), applyWs H (a ++ b) = applyWs (applyWs H a) b := by
  intro a
  induction a with
  | nil => intro b H; rfl
  | cons p r ih => intro b H; obtain ⟨k, x⟩ := p; simp only [List.cons_append, applyWs]; exact ih _ _

/-- A callee to whom rows are handed over, and who makes some: their numbers are n and those behind it. -/
theorem SFact.handF {g₀ : Operand} {args : Array Operand} {tys : Array TypeId} {f : Nat} {cap args0 : List LV} {H0 X0 : Hp} {x0 : LV} {R : LV → Hp → Prop} (ρ : List Nat) (n : Nat) (hw : wantS s.g F = some true) (hop : s.op = .call ⟨.value g₀, args, tys⟩) (hg : evalO F g₀ = .fn f cap) (hu : isUnd cap = false)
    (hn : ρ.Nodup) (hl0 : H0.length = ρ.length) (hl1 : ρ.length ≤ X0.length) (hlt : ∀ h ∈ ρ, h < n) (hltH : ∀ h ∈ ρ, h < H.length) (ha : ∀ n, args0.map (ren (gOf ρ n)) = args.toList.map (evalO F) ++ cap)
    (hrows : ∀ (n j h : Nat) (cs : List LV), ρ[j]? = some h → H0[j]? = some (some cs) → H[h]? = some (some (renL (gOf ρ n) cs)))
    (hc : LC P f args0 H0 R) (hR : ∀ y G, R y G → y = x0 ∧ G = X0) :
    SFact P s F H ⟨s.dst, ren (gOf ρ n) x0, ρ.zip ((X0.take ρ.length).map (renR (gOf ρ n))) ++ wsOf n ((X0.drop ρ.length).map (renR (gOf ρ n))), guardSlot s.g ++ slotsOf s.op, ρ, (wsOf n ((X0.drop ρ.length).map (renR (gOf ρ n)))).map (·.1)⟩ := by
  refine ⟨rfl, fun ops o h1 h2 h3 cx N ι per G X a w hst hls hrs hnw K Q hK => ?_⟩
  have hwt : Region.wanted o (yielded ops a.tmps) = true := wanted_sound hst (by rw [h3, wantS_congr fun t ht => hls t (by simp [ht])]; exact hw)
  rw [if_pos hwt]
  have ho := evalO_congr (F := G) (F' := F) (op := s.op) fun t ht => hls t (by simp [ht])
  have hg' : evalO G g₀ = .fn f cap := by rw [ho g₀ (by rw [hop]; simp [Op.operands, Call.operands])]; exact hg
  have haa : args.toList.map (evalO G) = args.toList.map (evalO F) := List.map_congr_left fun y hy => ho y (by rw [hop]; simp [Op.operands, Call.operands]; exact .inr (by simpa using hy))
  obtain ⟨vs, hvl, hrun⟩ := enter_run hst (o := o) (h2.trans hop) hg' hu hc.1
  rw [haa, ← ha X.length] at hvl
  have hltX : ∀ h ∈ ρ, h < X.length := fun h hh => by
    have e := hrs h hh
    rw [List.getElem?_eq_getElem (hltH h hh)] at e
    exact (List.getElem?_eq_some_iff.1 e).1
  obtain ⟨g0, hg0⟩ : ∃ g0, g0 = gOf ρ X.length := ⟨_, rfl⟩
  have hrows : ∀ (j h : Nat) (cs : List LV), ρ[j]? = some h → H0[j]? = some (some cs) → X[h]? = some (some (renL g0 cs)) := fun j h cs hj hcs => by
    rw [hrs h (List.mem_of_getElem? hj), hg0]; exact hrows _ j h cs hj hcs
  rw [← hg0] at hvl
  have g0_lt : ∀ (j h : Nat), ρ[j]? = some h → g0 j = h := fun j h hj => by rw [hg0, gOf, hj]
  have g0_ge : ∀ j, ρ.length ≤ j → g0 j = X.length + (j - ρ.length) := fun j hj => by rw [hg0, gOf, List.getElem?_eq_none hj]
  obtain ⟨g, hgg⟩ : ∃ g, g = gOf ρ n := ⟨_, rfl⟩
  rw [← hgg] at hK hnw
  have g_lt : ∀ (j h : Nat), ρ[j]? = some h → g j = h := fun j h hj => by rw [hgg, gOf, hj]
  have g_ge : ∀ j, ρ.length ≤ j → g j = n + (j - ρ.length) := fun j hj => by rw [hgg, gOf, List.getElem?_eq_none hj]
  refine runIn (fun c hc => by rw [h2.trans hop] at hc; cases hc) hrun ?_
  rw [Oper.uponIn_enter]
  let ιc : Pl := ρ.map fun h => (ι[h]?).getD none
  have hιc : ∀ (j h : Nat), ρ[j]? = some h → ιc[j]? = some ((ι[h]?).getD none) := fun j h hj => by simp [ιc, hj]
  have hιcl : ιc.length = ρ.length := by simp [ιc]
  have back : ∀ (j : Nat) (b : Nat × Nat), ι[g0 j]? = some (some b) → ιc[j]? = some (some b) := by
    intro j b hb
    rcases Nat.lt_or_ge j ρ.length with hj | hj
    · have e := List.getElem?_eq_getElem hj
      rw [g0_lt j _ e] at hb
      rw [hιc j _ e, hb]; rfl
    · rw [g0_ge j hj, List.getElem?_eq_none (by rw [hst.rep.len]; omega)] at hb
      cases hb
  have pl : ∀ (j : Nat) (b : Nat × Nat), ιc[j]? = some (some b) → ∃ h, ρ[j]? = some h ∧ ι[h]? = some (some b) := by
    intro j b hb
    rcases Nat.lt_or_ge j ρ.length with hj | hj
    · have e := List.getElem?_eq_getElem hj
      rw [hιc j _ e] at hb
      refine ⟨_, e, ?_⟩
      cases hx : ι[ρ[j]]? with
      | none => rw [hx] at hb; simp at hb
      | some y => rw [hx] at hb; simpa using hb
    · rw [List.getElem?_eq_none (by rw [hιcl]; exact hj)] at hb; cases hb
  let kp : Nat → Prop := fun b => b < w.heap.size ∧ ∀ (j o : Nat), ∀ cs, H0[j]? = some (some cs) → ιc[j]? ≠ some (some (b, o))
  have hrep : Rep kp w ιc per H0 := by
    refine ⟨by rw [hιcl, hl0], hst.rep.perlt, fun j cs hj => ?_, fun j j' cs cs' b o b' o' hj hj' hi hi' hbb => ?_⟩
    · have hjl : j < ρ.length := by rw [← hl0]; exact lt_row hj
      have e := List.getElem?_eq_getElem hjl
      rcases hst.rep.live _ _ (hrows j _ cs e hj) with ⟨h2, h3⟩ | ⟨b, o, c, e2, h2, h3, h4, h5, h6, h7⟩
      · refine .inl ⟨by rw [hιc j _ e, h2]; rfl, ?_⟩
        rw [renL_eq] at h3
        exact List.map_eq_nil_iff.1 h3
      · have hi : ιc[j]? = some (some (b, o)) := by rw [hιc j _ e, h2]; rfl
        refine .inr ⟨b, o, c, e2, hi, fun hk => hk.2 j o cs hj hi, h4, h5, by simpa [renL_eq] using h6, fun i hi => ?_⟩
        have := h7 i (by simpa [renL_eq] using hi)
        exact this.unren back (by simp [renL_eq])
    · obtain ⟨h1, e1, q1⟩ := pl _ _ hi
      obtain ⟨h2, e2, q2⟩ := pl _ _ hi'
      have := hst.rep.inj h1 h2 _ _ b o b' o' (hrows j h1 cs e1 hj) (hrows j' h2 cs' e2 hj') q1 q2 hbb
      subst this
      obtain ⟨l1, r1⟩ := List.getElem?_eq_some_iff.1 e1
      obtain ⟨l2, r2⟩ := List.getElem?_eq_some_iff.1 e2
      rcases Nat.lt_trichotomy j j' with hlt' | hlt' | hlt'
      · exact absurd (r1.trans r2.symm) (List.pairwise_iff_getElem.1 hn j j' l1 l2 hlt')
      · exact hlt'
      · exact absurd (r2.trans r1.symm) (List.pairwise_iff_getElem.1 hn j' j l2 l1 hlt')
  have perk : ∀ b, per b → kp b := fun b hb => ⟨hst.rep.perlt b hb, fun j o cs hj hi => by
    obtain ⟨h1, e1, q1⟩ := pl _ _ hi
    obtain ⟨c, e, _, k1, _⟩ := hst.rep.block (hrows j h1 cs e1 hj) q1
    exact k1 hb⟩
  have cxk : ∀ b, cx.kp b → kp b := fun b hb => ⟨hst.bs b hb, fun j o cs hj hi => by
    obtain ⟨h1, e1, q1⟩ := pl _ _ hi
    obtain ⟨c, e, k0, _⟩ := hst.rep.block (hrows j h1 cs e1 hj) q1
    exact k0 hb⟩
  have hargs : VL w ιc per args0 vs := ⟨by simpa using hvl.1, fun i hi => by
    have := hvl.2 i (by simpa using hi)
    exact this.unren back (by simp)⟩
  refine ⟨fun hd => (by cases hd), CallsIn.mono ((callsIn_wide (n := 0)).2 (hc.2 kp per ιc w vs hrep (fun b hb => hb.1) perk hargs)) fun e w' ⟨v, res, H1, ι1, per', q1, qR, q3, q4, q5, q6, q7, q8⟩ => ?_⟩
  subst q1
  obtain ⟨rfl, rfl⟩ := hR _ _ qR
  have hk : Kept cx.kp w w' := q3.mono cxk
  have hs : Step per w w' := ⟨fun b hb => q3.step.same b (perk b hb), q3.step.room⟩
  have hιl : ι.length = X.length := hst.rep.len
  have h1l : ι1.length = H1.length := q4.len
  have dl : (ι1.drop ρ.length).length = H1.length - ρ.length := by rw [List.length_drop, h1l]
  have vac : ∀ j, j < H1.length - ρ.length → Vac N ι X (n + j) := fun j hj => hnw _ (by rw [keys_wsOf]; simp; omega)
  have hlen : H1.length - ρ.length = 0 ∨ n + (H1.length - ρ.length) ≤ X.length := by
    rcases Nat.eq_zero_or_pos (H1.length - ρ.length) with h | h
    · exact .inl h
    · refine .inr ?_
      have := (vac (H1.length - ρ.length - 1) (by omega)).2.1
      rcases Nat.lt_or_ge (n + (H1.length - ρ.length - 1)) X.length with h' | h'
      · omega
      · simp [List.getElem?_eq_none h'] at this
  let ι2 : Pl := putAt ι n (ι1.drop ρ.length)
  have outι : ∀ k, (k < n ∨ n + (H1.length - ρ.length) ≤ k) → ι2[k]? = ι[k]? := fun k hk => putAt_out _ _ _ _ (by omega)
  have oldι : ∀ (h : Nat) (b : Nat × Nat), ι[h]? = some (some b) → ι2[h]? = some (some b) := fun h b hb => by
    rw [outι]
    · exact hb
    · refine Classical.byContradiction fun hn => ?_
      have := (vac (h - n) (by omega)).2.2
      rw [show n + (h - n) = h by omega, hb] at this
      cases this
  have newι : ∀ j, ρ.length ≤ j → j < H1.length → ι2[g j]? = ι1[j]? := fun j hj hj2 => by
    simp only [ι2]
    rw [g_ge j hj, putAt_in _ _ _ _ (by omega) (by omega), List.getElem?_drop]
    congr 1; omega
  have fwd : ∀ (j : Nat) (b : Nat × Nat), ι1[j]? = some (some b) → ι2[g j]? = some (some b) := by
    intro j b hb
    rcases Nat.lt_or_ge j ρ.length with hj | hj
    · rw [q8 j (by rw [hιcl]; exact hj)] at hb
      obtain ⟨h1, e1, r1⟩ := pl _ _ hb
      rw [g_lt j h1 e1]
      exact oldι _ _ r1
    · have hj2 : j < H1.length := by
        rcases Nat.lt_or_ge j H1.length with h' | h'
        · exact h'
        · rw [List.getElem?_eq_none (by omega)] at hb; cases hb
      rw [newι j hj hj2]; exact hb
  obtain ⟨H2, hH2⟩ : ∃ H2, H2 = putAt (setRows X ρ ((H1.take ρ.length).map (renR g))) n ((H1.drop ρ.length).map (renR g)) := ⟨_, rfl⟩
  have sl : ((H1.drop ρ.length).map (renR g)).length = H1.length - ρ.length := by simp
  have cases_row : ∀ (k : Nat) (ds : List LV), H2[k]? = some (some ds) →
      ((k < n ∨ n + (H1.length - ρ.length) ≤ k) ∧ k ∉ ρ ∧ X[k]? = some (some ds)) ∨ ∃ j d, g j = k ∧ j < H1.length ∧ H1[j]? = some (some d) ∧ ds = renL g d := by
    intro k ds hk
    rw [hH2] at hk
    by_cases hkl : k < n ∨ n + (H1.length - ρ.length) ≤ k
    · rw [putAt_out _ _ _ _ (by rw [sl]; exact hkl)] at hk
      by_cases hm : k ∈ ρ
      · obtain ⟨j, hjl, hj⟩ := List.getElem_of_mem hm
        have e : ρ[j]? = some k := by rw [List.getElem?_eq_getElem hjl, hj]
        rw [setRows_at ρ X _ j k hn e (hltX k hm)] at hk
        simp only [Option.some.injEq, List.getElem?_map, List.getElem?_take, hjl, if_true] at hk
        cases hx : H1[j]? with
        | none => rw [hx] at hk; cases hk
        | some y =>
          rw [hx] at hk
          cases y with
          | none => cases hk
          | some d => exact .inr ⟨j, d, g_lt j k e, by omega, hx, (Option.some.inj hk).symm⟩
      · rw [setRows_other _ _ _ _ hm] at hk
        exact .inl ⟨hkl, hm, hk⟩
    · obtain ⟨j, rfl⟩ : ∃ j, k = n + j := ⟨k - n, by omega⟩
      rw [putAt_in _ _ _ _ (by rw [sl]; omega) (by rw [sl, setRows_length]; omega), List.getElem?_map, List.getElem?_drop] at hk
      cases hx : H1[ρ.length + j]? with
      | none => rw [hx] at hk; cases hk
      | some y =>
        rw [hx] at hk
        cases y with
        | none => cases hk
        | some d => exact .inr ⟨_, d, by rw [g_ge _ (by omega)]; omega, by omega, hx, (Option.some.inj (Option.some.inj hk)).symm⟩
  have place : ∀ (j : Nat) (d : List LV) (b o : Nat), j < H1.length → H1[j]? = some (some d) → ι2[g j]? = some (some (b, o)) → ι1[j]? = some (some (b, o)) := by
    intro j d b o hj2 hj hb
    rcases Nat.lt_or_ge j ρ.length with hjl | hjl
    · have e := List.getElem?_eq_getElem hjl
      rw [g_lt j _ e] at hb
      have : ι[ρ[j]]? = some (some (b, o)) := by
        rwa [outι _ (.inl (hlt _ (List.getElem_mem hjl)))] at hb
      rw [q8 j (by rw [hιcl]; exact hjl), hιc j _ e, this]; rfl
    · rw [newι j hjl hj2] at hb; exact hb
  have other : ∀ (k : Nat) (ds : List LV) (b o : Nat), k ∉ ρ → X[k]? = some (some ds) → ι[k]? = some (some (b, o)) → kp b := by
    intro k ds b o hk hh hi
    obtain ⟨c, e, k0, k1, k2, _⟩ := hst.rep.block hh hi
    refine ⟨lt_of_get k2.1, fun j o' cs hj hij => ?_⟩
    obtain ⟨h1, e1, r1⟩ := pl _ _ hij
    have := hst.rep.inj k h1 _ _ b o b o' hh (hrows j h1 cs e1 hj) hi r1 rfl
    subst this
    exact hk (List.mem_of_getElem? e1)
  rw [applyWs_app, apply_zip _ _ _ (by simp; omega), apply_wsOf, ← hH2] at hK
  refine hK ι2 per' v w' ⟨⟨?_, q4.perlt, fun k ds hk => ?_, fun k k' ds ds' b o b' o' hk hk' hi hi' hbb => ?_⟩, fun b hb => ?_, fun b hb => q7 b (hst.p2 b hb), fun t => ?_, hst.size, hst.defers.keep hk, hst.below.trans hk,
    fun b hb => Nat.lt_of_lt_of_le (hst.bs b hb) hk.size, hst.grow.1, fun h hh => ?_⟩ (q5.ren fwd) fun h hh => ?_
  · rw [hH2]
    simp only [ι2, putAt_length, setRows_length]
    exact hιl
  · rcases cases_row k ds hk with ⟨hkl, hm, hh⟩ | ⟨j, d, rfl, hj2, hj, rfl⟩
    · rcases hst.rep.live k ds hh with ⟨h2, h3⟩ | ⟨b, o, c, e2, h2, h3, h4, h5, h6, h7⟩
      · exact .inl ⟨by rw [outι _ hkl]; exact h2, h3⟩
      · have hkb := other k ds b o hm hh h2
        refine .inr ⟨b, o, c, e2, oldι _ _ h2, h3, fun hp => ?_, h5.get (q3.step.same b hkb), h6, fun i hi => (h7 i hi).step hs q7 oldι⟩
        rcases q6 b hp with h | h
        · exact h4 h
        · exact h hkb
    · rcases q4.live j d hj with ⟨h2, h3⟩ | ⟨b, o, c, e2, h2, h3, h4, h5, h6, h7⟩
      · subst h3
        refine .inl ⟨?_, rfl⟩
        rcases Nat.lt_or_ge j ρ.length with hjl | hjl
        · have e := List.getElem?_eq_getElem hjl
          rw [q8 j (by rw [hιcl]; exact hjl), hιc j _ e] at h2
          have hl : ρ[j] < ι.length := by rw [hιl]; exact hltX _ (List.getElem_mem hjl)
          rw [g_lt j _ e, outι _ (.inl (hlt _ (List.getElem_mem hjl))), List.getElem?_eq_getElem hl]
          rw [List.getElem?_eq_getElem hl] at h2
          simpa using h2
        · rw [newι j hjl hj2]; exact h2
      · refine .inr ⟨b, o, c, e2, fwd _ _ h2, fun hp => h3 (cxk b hp), h4, h5, by simpa [renL_eq] using h6, fun i hi => ?_⟩
        have := h7 i (by simpa [renL_eq] using hi)
        simp only [renL_eq, List.getElem_map]
        exact this.ren fwd
  · rcases cases_row k ds hk with ⟨hkl, hm, hh⟩ | ⟨j, d, rfl, hj2, hj, rfl⟩ <;> rcases cases_row k' ds' hk' with ⟨hkl', hm', hh'⟩ | ⟨j', d', rfl, hj2', hj', rfl⟩
    · have o1 : ι[k]? = some (some (b, o)) := by
        rwa [outι _ hkl] at hi
      have o2 : ι[k']? = some (some (b', o')) := by
        rwa [outι _ hkl'] at hi'
      exact hst.rep.inj k k' ds ds' b o b' o' hh hh' o1 o2 hbb
    · have o1 : ι[k]? = some (some (b, o)) := by
        rwa [outι _ hkl] at hi
      obtain ⟨c2, e2, k2, _⟩ := q4.block hj' (place _ _ _ _ hj2' hj' hi')
      subst hbb
      exact absurd (other k ds b o hm hh o1) k2
    · have o2 : ι[k']? = some (some (b', o')) := by
        rwa [outι _ hkl'] at hi'
      obtain ⟨c2, e2, k2, _⟩ := q4.block hj (place _ _ _ _ hj2 hj hi)
      subst hbb
      exact absurd (other k' ds' b o' hm' hh' o2) k2
    · rw [q4.inj j j' d d' b o b' o' hj hj' (place _ _ _ _ hj2 hj hi) (place _ _ _ _ hj2' hj' hi') hbb]
  · rcases q6 b hb with h | h
    · exact hst.p1 b h
    · exact .inr fun hp => h (cxk b hp)
  · exact (hst.fr t).step hs q7 oldι
  · rw [outι]
    · exact hst.grow.2 h hh
    · refine Classical.byContradiction fun hn => ?_
      have := (vac (h - n) (by omega)).1
      omega
  · rw [outι]
    rw [keys_wsOf] at hh
    simp at hh
    omega

end
end Go.Lite
set_option linter.unusedVariables false
set_option linter.unusedSimpArgs false

/- Lite, part S: rows forgotten, renamed, frozen; calls that leave nothing behind. -/
namespace Go.Lite
open Go Go.RowKit
set_option linter.unusedVariables false

def sgOf (σ : List (Option Nat)) (j : Nat) : Option Nat := match σ[j]? with
  | some x => x
  | none => none

/-- What y says is said by x, the rows renumbered: number j is the old number σ j. -/
def FitS (σ : List (Option Nat)) (x y : LV) : Prop :=
  ∀ (w : World) (per : Nat → Prop) (ι ι' : Pl), (∀ (j h : Nat) (b : Nat × Nat), sgOf σ j = some h → ι[h]? = some (some b) → ι'[j]? = some (some b)) → ∀ v, VR w per ι y v → VR w per ι' x v

theorem FitS.dead {σ : List (Option Nat)} {y : LV} : FitS σ .dead y := fun _ _ _ _ _ v _ => .dead v
theorem FitS.free {σ : List (Option Nat)} {x : LV} (h : hfree x = true) : FitS σ x x := fun _ _ _ _ _ _ hv => hv.hfree h
theorem FitS.ptr {σ : List (Option Nat)} {j h o : Nat} (hs : sgOf σ j = some h) : FitS σ (.ptr j o) (.ptr h o) := fun _ _ _ _ hi v hv => by
  cases hv with
  | ptr h1 => exact .ptr (hi _ _ _ hs h1)
theorem FitS.sl {σ : List (Option Nat)} {sz j h o n : Nat} (hs : sgOf σ j = some h) : FitS σ (.sl sz j o n) (.sl sz h o n) := fun _ _ _ _ hi v hv => by
  cases hv with
  | sl h1 h2 h3 => exact .sl (hi _ _ _ hs h1) h2 h3
  | slz => exact .slz
theorem FitS.slnil {σ : List (Option Nat)} {sz j o : Nat} : FitS σ (.sl sz j o 0) .nils := fun _ _ _ _ hi v hv => by
  cases hv with
  | nils => exact .slz
theorem FitS.psnil {σ : List (Option Nat)} {sz : Nat} : FitS σ (.ps sz 0 []) .nils := fun _ _ _ _ hi v hv => by
  cases hv with
  | nils => exact .psz
theorem FitS.agg {σ : List (Option Nat)} {cs ds : List LV} (hl : cs.length = ds.length) (h : ∀ i (h1 : i < cs.length) (h2 : i < ds.length), FitS σ cs[i] ds[i]) : FitS σ (.agg cs) (.agg ds) := fun w per ι ι' hi v hv => by
  obtain ⟨vs, rfl, hvl⟩ := hv.agg_inv
  exact .agg (by rw [hl]; exact hvl.1) fun i hi2 => h i hi2 (by rw [← hl]; exact hi2) w per ι ι' hi _ (hvl.2 i (by rw [← hl]; exact hi2))
theorem FitS.tup {σ : List (Option Nat)} {cs ds : List LV} (hl : cs.length = ds.length) (h : ∀ i (h1 : i < cs.length) (h2 : i < ds.length), FitS σ cs[i] ds[i]) : FitS σ (.tup cs) (.tup ds) := fun w per ι ι' hi v hv => by
  obtain ⟨vs, rfl, hvl⟩ := hv.tup_inv
  exact .tup (by rw [hl]; exact hvl.1) fun i hi2 => h i hi2 (by rw [← hl]; exact hi2) w per ι ι' hi _ (hvl.2 i (by rw [← hl]; exact hi2))
theorem FitS.fn {σ : List (Option Nat)} {f : Nat} {cs ds : List LV} (hu : isUnd cs = isUnd ds) (hl : cs.length = ds.length) (h : ∀ i (h1 : i < cs.length) (h2 : i < ds.length), FitS σ cs[i] ds[i]) : FitS σ (.fn f cs) (.fn f ds) := fun w per ι ι' hi v hv => by
  cases hv with
  | fn hn hvv => exact .fnC (by rw [hl]; exact hn) (fun i hi2 => h i hi2 (by rw [← hl]; exact hi2) w per ι ι' hi _ (hvv i (by rw [← hl]; exact hi2))) hu

/-- Rows forgotten and renumbered. -/
theorem Wk.canon {N : Dim} {F F' : Fr} {H H' : Hp} (σ : List (Option Nat)) (hlen : σ.length = H'.length) (hinj : ∀ j j' h, sgOf σ j = some h → sgOf σ j' = some h → j = j') (hm : ∀ j, j < N.m → sgOf σ j = some j)
    (hF : ∀ t, FitS σ (fget F' t) (fget F t))
    (hH : ∀ (j : Nat) (cs' : List LV), H'[j]? = some (some cs') → (sgOf σ j = none ∧ cs' = []) ∨ ∃ h cs, sgOf σ j = some h ∧ H[h]? = some (some cs) ∧ cs'.length ≤ cs.length ∧ ∀ i (h1 : i < cs'.length) (h2 : i < cs.length), FitS σ cs'[i] cs[i]) :
    Wk N F' H' F H := by
  intro cx a w hsr
  obtain ⟨ι, per, hst⟩ := hsr.st
  let ι' : Pl := σ.map fun x => match x with
    | some h => (ι[h]?).getD none
    | none => none
  have sg_lt : ∀ (j h : Nat), sgOf σ j = some h → j < σ.length := by
    intro j h hj
    rcases Nat.lt_or_ge j σ.length with h' | h'
    · exact h'
    · simp [sgOf, List.getElem?_eq_none h'] at hj
  have at' : ∀ (j h : Nat), sgOf σ j = some h → ι'[j]? = some ((ι[h]?).getD none) := by
    intro j h hj
    have hl := sg_lt j h hj
    have e : σ[j]? = some (some h) := by
      unfold sgOf at hj
      rw [List.getElem?_eq_getElem hl] at hj ⊢
      rw [← hj]
    simp [ι', e]
  have fits : ∀ (j h : Nat) (b : Nat × Nat), sgOf σ j = some h → ι[h]? = some (some b) → ι'[j]? = some (some b) := by
    intro j h b hj hb
    rw [at' j h hj, hb]; rfl
  have back : ∀ (j : Nat) (b : Nat × Nat), ι'[j]? = some (some b) → ∃ h, sgOf σ j = some h ∧ ι[h]? = some (some b) := by
    intro j b hb
    cases hs : sgOf σ j with
    | some h =>
      refine ⟨h, rfl, ?_⟩
      rw [at' j h hs] at hb
      cases hx : ι[h]? with
      | none => rw [hx] at hb; simp at hb
      | some y => rw [hx] at hb; simpa using hb
    | none =>
      have hl : j < σ.length := by
        rcases Nat.lt_or_ge j σ.length with h' | h'
        · exact h'
        · rw [List.getElem?_eq_none (by simpa [ι'] using h')] at hb; cases hb
      have e : σ[j]? = some none := by
        unfold sgOf at hs
        rw [List.getElem?_eq_getElem hl] at hs ⊢
        rw [← hs]
      simp [ι', e] at hb
  refine .of (ι := ι') (per := per) ⟨⟨by simp [ι', hlen], hst.rep.perlt, fun j cs' hj => ?_, fun j j' cs cs' b o b' o' hj hj' hi hi' hbb => ?_⟩, hst.p1, hst.p2, fun t => hF t w per ι ι' fits _ (hst.fr t), hst.size, hst.defers, hst.below, hst.bs, hst.grow.1, fun j hj => ?_⟩
  · rcases hH j cs' hj with ⟨h1, rfl⟩ | ⟨h, cs, h1, h2, h3, h4⟩
    · refine .inl ⟨?_, rfl⟩
      have hl : j < σ.length := by rw [hlen]; exact lt_row hj
      have e : σ[j]? = some none := by
        unfold sgOf at h1
        rw [List.getElem?_eq_getElem hl] at h1 ⊢
        rw [← h1]
      simp [ι', e]
    · rcases hst.rep.live h cs h2 with ⟨k1, k2⟩ | ⟨b, o, c, e, k1, k2, k3, k4, k5, k6⟩
      · subst k2
        refine .inl ⟨?_, List.eq_nil_of_length_eq_zero (by simpa using h3)⟩
        rw [at' j h h1, k1]; rfl
      · exact .inr ⟨b, o, c, e, fits j h _ h1 k1, k2, k3, k4, by omega, fun i hi => h4 i hi (by omega) w per ι ι' fits _ (k6 i (by omega))⟩
  · obtain ⟨h1, s1, i1⟩ := back _ _ hi
    obtain ⟨h2, s2, i2⟩ := back _ _ hi'
    rcases hH j cs hj with ⟨z, _⟩ | ⟨h, ds, q1, q2, _⟩
    · rw [s1] at z; cases z
    rcases hH j' cs' hj' with ⟨z, _⟩ | ⟨h', ds', q1', q2', _⟩
    · rw [s2] at z; cases z
    rw [s1] at q1; rw [s2] at q1'
    cases q1; cases q1'
    have := hst.rep.inj _ _ _ _ _ _ _ _ q2 q2' i1 i2 hbb
    subst this
    exact hinj j j' _ s1 s2
  · rw [at' j j (hm j hj), ← hst.grow.2 j hj]
    have : j < ι.length := Nat.lt_of_lt_of_le hj hst.mle
    rw [List.getElem?_eq_getElem this]; rfl

/-! ### A row that nobody writes any more becomes plain -/
mutual
def fz (h : Nat) (cs : List LV) : LV → LV
  | .ptr k o => if k = h then .pp (cs.drop o) else .ptr k o
  | .sl sz k o n => if k = h then (if o + n * sz ≤ cs.length then .ps sz n ((cs.drop o).take (n * sz)) else .dead) else .sl sz k o n
  | .fn f ds => .fn f (fzL h cs ds)
  | .agg ds => .agg (fzL h cs ds)
  | .tup ds => .tup (fzL h cs ds)
  | .dead => .dead
  | .und => .und
  | .bool b => .bool b
  | .int k m => .int k m
  | .str s => .str s
  | .nilp => .nilp
  | .pp cs => .pp cs
  | .nils => .nils
  | .ps sz m cs => .ps sz m cs
  | .nilf => .nilf
  | .yld l => .yld l
def fzL (h : Nat) (cs : List LV) : List LV → List LV
  | [] => []
  | c :: r => fz h cs c :: fzL h cs r
end

theorem fz_und {h : Nat} {cs : List LV} (x : LV) : fz h cs x = .und ↔ x = .und := by cases x <;> simp only [fz, reduceCtorEq, iff_false, iff_self] <;> (repeat' split) <;> simp
theorem fzL_eq (h : Nat) (cs ds : List LV) : fzL h cs ds = ds.map (fz h cs) := by
  induction ds with
  | nil => rfl
  | cons c r ih => simp [fzL, ih]

def fzF (h : Nat) (cs : List LV) : Fr → Fr
  | [] => []
  | (t, x) :: r => (t, fz h cs x) :: fzF h cs r
def fzR (h : Nat) (cs : List LV) : Option (List LV) → Option (List LV)
  | none => none
  | some ds => some (fzL h cs ds)

theorem fget_fzF (h : Nat) (cs : List LV) (F : Fr) (t : Nat) : fget (fzF h cs F) t = fz h cs (fget F t) := by
  induction F with
  | nil => simp [fzF, fget, fz]
  | cons p r ih =>
    obtain ⟨s, x⟩ := p
    simp only [fzF, fget_cons]
    split
    · rfl
    · exact ih

theorem skol {n : Nat} {p : Nat → Value → Prop} (h : ∀ i, i < n → ∃ u, p i u) : ∃ us : Nat → Value, ∀ i, i < n → p i (us i) := by
  classical
  refine ⟨fun i => if hi : i < n then Classical.choose (h i hi) else undef, fun i hi => ?_⟩
  show p i (if hi : i < n then Classical.choose (h i hi) else undef)
  rw [dif_pos hi]
  exact Classical.choose_spec (h i hi)

theorem VR.fz {w : World} {per : Nat → Prop} {ι : Pl} {h : Nat} {cs : List LV} {per' : Nat → Prop} (hp : ∀ b, per b → per' b)
    (hrow : ∀ b o, ι[h]? = some (some (b, o)) → per' b ∧ ∀ i (hi : i < cs.length), ∃ u, w.cell? ⟨b, o + i, none⟩ = some u ∧ VR w per' [] cs[i] u) {x : LV} {v : Value} (hv : VR w per ι x v) : VR w per' ι (Lite.fz h cs x) v := by
  induction hv with
  | dead v => exact .dead v
  | und => exact .und
  | bool b => exact .bool b
  | int k n => exact .int k n
  | str s => exact .str s
  | nilp => exact .nilp
  | @ptr ι h' off b o hi =>
    simp only [Lite.fz]
    split
    · rename_i e
      subst e
      obtain ⟨h1, h2⟩ := hrow b o hi
      have key : ∀ i, i < (cs.drop off).length → ∃ u, w.cell? ⟨b, o + off + i, none⟩ = some u ∧ ∀ (hh : i < (cs.drop off).length), VR w per' [] (cs.drop off)[i] u := by
        intro i hi2
        have : off + i < cs.length := by simp at hi2; omega
        obtain ⟨u, k1, k2⟩ := h2 (off + i) this
        exact ⟨u, by rw [← k1, Nat.add_assoc], fun _ => by rw [List.getElem_drop]; exact k2⟩
      obtain ⟨us, hus⟩ := skol key
      exact .pp us h1 (fun i hi2 => (hus i hi2).1) fun i hi2 => (hus i hi2).2 hi2
    · exact .ptr hi
  | pp vs h1 h2 h3 _ => exact .pp vs (hp _ h1) h2 fun i hi => (h3 i hi).step (Step.refl _ _) hp (fun _ _ h => h)
  | nils => exact .nils
  | @sl ι sz h' off len b o cap hi hl hr =>
    simp only [Lite.fz]
    split
    · rename_i e
      subst e
      split
      · rename_i hle
        obtain ⟨h1, h2⟩ := hrow b o hi
        have hlen : ((cs.drop off).take (len * sz)).length = len * sz := by simp; omega
        have key : ∀ i, i < len * sz → ∃ u, w.cell? ⟨b, o + off + i, none⟩ = some u ∧ ∀ (hh : i < ((cs.drop off).take (len * sz)).length), VR w per' [] ((cs.drop off).take (len * sz))[i] u := by
          intro i hi2
          obtain ⟨u, k1, k2⟩ := h2 (off + i) (by omega)
          exact ⟨u, by rw [← k1, Nat.add_assoc], fun _ => by rw [List.getElem_take, List.getElem_drop]; exact k2⟩
        obtain ⟨us, hus⟩ := skol key
        exact .ps us h1 hlen hl (fun i hi2 => (hus i (by rw [hlen] at hi2; exact hi2)).1) fun i hi2 => (hus i (by rw [hlen] at hi2; exact hi2)).2 hi2
      · exact .dead _
    · exact .sl hi hl hr
  | @slz ι sz h' off a =>
    simp only [Lite.fz]
    split
    · split
      · simp only [Nat.zero_mul, List.take_zero]; exact .psz
      · exact .dead _
    · exact .slz
  | psz => exact .psz
  | ps vs h1 h2 h3 h4 h5 _ => exact .ps vs (hp _ h1) h2 h3 h4 fun i hi => (h5 i hi).step (Step.refl _ _) hp (fun _ _ h => h)
  | nilf => exact .nilf
  | yld l => exact .yld l
  | fn hn hv ih => simp only [Lite.fz, fzL_eq]; exact .fnC (by simpa using hn) (fun i hi => by rw [List.getElem_map]; exact ih i (by simpa using hi) hrow) (isUnd_map fz_und _)
  | agg hn hv ih => simp only [Lite.fz, fzL_eq]; exact .agg (by simpa using hn) fun i hi => by rw [List.getElem_map]; exact ih i (by simpa using hi) hrow
  | tup hn hv ih => simp only [Lite.fz, fzL_eq]; exact .tup (by simpa using hn) fun i hi => by rw [List.getElem_map]; exact ih i (by simpa using hi) hrow

theorem Wk.freeze {N : Dim} {F : Fr} {H : Hp} {h : Nat} {cs : List LV} (hm : N.m ≤ h) (hh : H[h]? = some (some cs)) (hf : hfreeL cs = true) : Wk N (fzF h cs F) ((H.map (fzR h cs)).set h none) F H := by
  intro cx a w hsr
  obtain ⟨ι, per, hst⟩ := hsr.st
  let per' : Nat → Prop := fun b => per b ∨ ∃ o, ι[h]? = some (some (b, o))
  have hp : ∀ b, per b → per' b := fun b hb => .inl hb
  have hrow : ∀ b o, ι[h]? = some (some (b, o)) → per' b ∧ ∀ i (hi : i < cs.length), ∃ u, w.cell? ⟨b, o + i, none⟩ = some u ∧ VR w per' [] cs[i] u := by
    intro b o hi
    refine ⟨.inr ⟨o, hi⟩, fun i hi2 => ?_⟩
    obtain ⟨c, e, k1, k2, k3, k4, k5⟩ := hst.rep.block hh hi
    refine ⟨c.getD (o + i) undef, ?_, ((k5 i hi2).step (Step.refl _ _) hp (ι' := ι) (fun _ _ h => h)).hfree (hfreeL_get hf i hi2)⟩
    rw [cell_of_blk k3.1]
    have : o + i < c.size := by omega
    simp [this]
  have fzv : ∀ {x : LV} {v : Value}, VR w per ι x v → VR w per' ι (fz h cs x) v := fun hv => hv.fz hp hrow
  have old : ∀ (k : Nat) (ds : List LV), ((H.map (fzR h cs)).set h none)[k]? = some (some ds) → k ≠ h ∧ ∃ d, H[k]? = some (some d) ∧ ds = fzL h cs d := by
    intro k ds hk
    rw [List.getElem?_set] at hk
    split at hk
    · split at hk
      · simp at hk
      · cases hk
    · rename_i hne
      rw [List.getElem?_map] at hk
      cases hx : H[k]? with
      | none => rw [hx] at hk; cases hk
      | some y =>
        rw [hx] at hk
        cases y with
        | none => cases hk
        | some d => exact ⟨fun e => hne e.symm, d, rfl, (Option.some.inj (Option.some.inj hk)).symm⟩
  refine .of (ι := ι) (per := per') ⟨⟨by simp [hst.rep.len], fun b hb => ?_, fun k ds hk => ?_, fun k k' ds ds' b o b' o' hk hk' hi hi' hbb => ?_⟩, fun b hb => ?_, fun b hb => .inl (hst.p2 b hb), fun t => ?_, hst.size, hst.defers, hst.below, hst.bs, hst.grow⟩
  · rcases hb with hb | ⟨o, hb⟩
    · exact hst.rep.perlt b hb
    · obtain ⟨c, e, k1, k2, k3, _⟩ := hst.rep.block hh hb
      exact lt_of_get k3.1
  · obtain ⟨hne, d, hd, rfl⟩ := old k ds hk
    rcases hst.rep.live k d hd with ⟨h2, h3⟩ | ⟨b, o, c, e, h2, h3, h4, h5, h6, h7⟩
    · subst h3; exact .inl ⟨h2, rfl⟩
    · refine .inr ⟨b, o, c, e, h2, h3, fun hp => ?_, h5, by simpa [fzL_eq] using h6, fun i hi => ?_⟩
      · rcases hp with hp | ⟨o', hp⟩
        · exact h4 hp
        · exact hne (hst.rep.inj k h d cs b o b o' hd hh h2 hp rfl)
      · simp only [fzL_eq, List.getElem_map]
        exact fzv (h7 i (by simpa [fzL_eq] using hi))
  · obtain ⟨_, d, hd, _⟩ := old k ds hk
    obtain ⟨_, d', hd', _⟩ := old k' ds' hk'
    exact hst.rep.inj k k' d d' b o b' o' hd hd' hi hi' hbb
  · rcases hb with hb | ⟨o, hb⟩
    · exact hst.p1 b hb
    · obtain ⟨c, e, k1, _⟩ := hst.rep.block hh hb
      exact .inr k1
  · rw [fget_fzF]
    exact fzv (hst.fr t)

/-! ### What a call has made and nobody knows any more -/
mutual
def hlt (m : Nat) : LV → Bool
  | .ptr h _ => Nat.blt h m
  | .sl _ h _ _ => Nat.blt h m
  | .fn _ cs => hltL m cs
  | .agg cs => hltL m cs
  | .tup cs => hltL m cs
  | _ => true
def hltL (m : Nat) : List LV → Bool
  | [] => true
  | c :: r => hlt m c && hltL m r
end
def hltH (m : Nat) : Hp → Bool
  | [] => true
  | none :: r => hltH m r
  | some cs :: r => hltL m cs && hltH m r

theorem hltL_get {m : Nat} {cs : List LV} (h : hltL m cs = true) : ∀ i (hi : i < cs.length), hlt m cs[i] = true := by
  induction cs with
  | nil => intro i hi; simp at hi
  | cons c r ih =>
    simp only [hltL, Bool.and_eq_true] at h
    intro i hi
    cases i with
    | zero => exact h.1
    | succ i => exact ih h.2 i (by simpa using hi)

theorem hltH_get {m : Nat} {H : Hp} (h : hltH m H = true) {k : Nat} {cs : List LV} (hk : H[k]? = some (some cs)) : hltL m cs = true := by
  induction H generalizing k with
  | nil => simp at hk
  | cons p r ih =>
    cases p with
    | none =>
      cases k with
      | zero => simp at hk
      | succ k => exact ih (by simpa [hltH] using h) (by simpa using hk)
    | some ds =>
      simp only [hltH, Bool.and_eq_true] at h
      cases k with
      | zero => simp at hk; subst hk; exact h.1
      | succ k => exact ih h.2 (by simpa using hk)

theorem VR.hlt {w : World} {per : Nat → Prop} {ι : Pl} {m : Nat} {x : LV} {v : Value} (hv : VR w per ι x v) : Lite.hlt m x = true → VR w per (ι.take m) x v := by
  have tk : ∀ {ι : Pl} {h : Nat} {b : Nat × Nat}, Nat.blt h m = true → ι[h]? = some (some b) → (ι.take m)[h]? = some (some b) := by
    intro ι h b hb hi
    have : h < m := by simpa using hb
    rw [List.getElem?_take, if_pos this]; exact hi
  induction hv with
  | dead v => intro _; exact .dead v
  | und => intro _; exact .und
  | bool b => intro _; exact .bool b
  | int k n => intro _; exact .int k n
  | str s => intro _; exact .str s
  | nilp => intro _; exact .nilp
  | ptr hi => intro h; exact .ptr (tk (by simpa [Lite.hlt] using h) hi)
  | pp vs h1 h2 h3 _ => intro _; exact .pp vs h1 h2 h3
  | nils => intro _; exact .nils
  | sl h1 h2 h3 => intro h; exact .sl (tk (by simpa [Lite.hlt] using h) h1) h2 h3
  | slz => intro _; exact .slz
  | psz => intro _; exact .psz
  | ps vs h1 h2 h3 h4 h5 _ => intro _; exact .ps vs h1 h2 h3 h4 h5
  | nilf => intro _; exact .nilf
  | yld l => intro _; exact .yld l
  | fn hn hv ih => intro h; exact .fn hn fun i hi => ih i hi (hltL_get (by simpa [Lite.hlt] using h) i hi)
  | agg hn hv ih => intro h; exact .agg hn fun i hi => ih i hi (hltL_get (by simpa [Lite.hlt] using h) i hi)
  | tup hn hv ih => intro h; exact .tup hn fun i hi => ih i hi (hltL_get (by simpa [Lite.hlt] using h) i hi)

theorem LC.cut {P : Program} {f : Nat} {args : List LV} {H : Hp} {R R' : LV → Hp → Prop} (h : LC P f args H R) (hr : ∀ x G, R x G → hlt H.length x = true ∧ hltH H.length (G.take H.length) = true ∧ R' x (G.take H.length)) : LC P f args H R' := by
  refine ⟨h.1, fun kp per ι w vs h1 h2 h3 h4 => (h.2 kp per ι w vs h1 h2 h3 h4).mono fun e w' ⟨v, res, G, ι', per', g1, g2, g3, g4, g5, g6, g7, g8⟩ => ?_⟩
  obtain ⟨k1, k2, k3⟩ := hr _ _ g2
  have old : ∀ (k : Nat) (cs : List LV), (G.take H.length)[k]? = some (some cs) → k < H.length ∧ G[k]? = some (some cs) := by
    intro k cs hk
    rw [List.getElem?_take] at hk
    split at hk
    · rename_i hl; exact ⟨hl, hk⟩
    · cases hk
  have oldι : ∀ (k : Nat) (y : Option (Nat × Nat)), (ι'.take H.length)[k]? = some y → ι'[k]? = some y := by
    intro k y hk
    rw [List.getElem?_take] at hk
    split at hk
    · exact hk
    · cases hk
  refine ⟨v, res, G.take H.length, ι'.take H.length, per', g1, k3, g3, ⟨by simp [g4.len], g4.perlt, fun k cs hk => ?_, fun k k' cs cs' b o b' o' hk hk' hi hi' hbb => ?_⟩, g5.hlt k1, g6, g7, fun j hj => ?_⟩
  · obtain ⟨hl, hk'⟩ := old k cs hk
    have tk : ∀ y, ι'[k]? = some y → (ι'.take H.length)[k]? = some y := fun y hy => by rw [List.getElem?_take, if_pos hl]; exact hy
    rcases g4.live k cs hk' with ⟨q1, q2⟩ | ⟨b, o, c, e, q1, q2, q3, q4, q5, q6⟩
    · exact .inl ⟨tk _ q1, q2⟩
    · exact .inr ⟨b, o, c, e, tk _ q1, q2, q3, q4, q5, fun i hi => (q6 i hi).hlt (hltL_get (hltH_get k2 hk) i hi)⟩
  · exact g4.inj k k' cs cs' b o b' o' (old k cs hk).2 (old k' cs' hk').2 (oldι _ _ hi) (oldι _ _ hi') hbb
  · have : j < H.length := by rw [← h1.len]; exact hj
    rw [List.getElem?_take, if_pos this]; exact g8 j hj

end Go.Lite

/- Lite, part O: running code at closed arguments. -/
namespace Go.Lite
open Go Go.RowKit
set_option linter.unusedVariables false

inductive XE where
  | normal
  | exit (id : Nat)
  | ret

def evStep (τ : TT) (call : Nat → List LV → Hp → Option (LV × Hp)) (o : Op) (F : Fr) (H : Hp) : Option (LV × Hp) :=
  match pureOp τ F o with
  | some x => some (x, H)
  | none => match loadOp τ F H o with
    | some x => some (x, H)
    | none => match o with
      | .call ⟨.value g, args, _⟩ => match evalO F g with
        | .fn f cap => (match isUnd cap with | true => call f (cap.drop 1 ++ args.toList.map (evalO F)) H | false => call f (args.toList.map (evalO F) ++ cap) H)
        | _ => none
      | o => effN τ F H o

def evOps (τ : TT) (call : Nat → List LV → Hp → Option (LV × Hp)) : List SO → Fr → Hp → Option (Fr × Hp)
  | [], F, H => some (F, H)
  | o :: r, F, H => match wantS o.g F with
    | some true => (match evStep τ call o.op F H with | some (x, H') => evOps τ call r (lput o.dst x F) H' | none => none)
    | some false => evOps τ call r (lput o.dst .und F) H
    | none => none

/-- One operation of a region that draws its order: what it does, how many rows it makes. -/
def evDA (τ : TT) (call : Nat → List LV → Hp → Option (LV × Hp)) (s : SO) (F : Fr) (H : Hp) : Option (DA × Nat) :=
  match wantS s.g F with
  | some true => (match valP τ F H s.op with
    | some x => some (⟨s.dst, x, [], guardSlot s.g ++ slotsOf s.op, valRows F s.op, []⟩, 0)
    | none => match s.op with
      | .call ⟨.value g, args, _⟩ => (match evalO F g with
        | .fn f cap => (match (if isUnd cap = false then call f ((args.toList.map (evalO F) ++ cap).map (snap H 3)) [] else none) with
          | some (x, X0) => if rigid x then some (⟨s.dst, x, [], guardSlot s.g ++ slotsOf s.op, (args.toList.map (evalO F) ++ cap).flatMap (reach H 3), []⟩, 0) else
            if psfree x && psfreeH X0 then some (⟨s.dst, ren (H.length + ·) x, wsOf H.length (X0.map (renR (H.length + ·))), guardSlot s.g ++ slotsOf s.op, (args.toList.map (evalO F) ++ cap).flatMap (reach H 3), (wsOf H.length (X0.map (renR (H.length + ·)))).map (·.1)⟩, X0.length) else none
          | none => none)
        | _ => none)
      | op => (match effOp τ F H H.length op with
        | some (x, ws) => some (⟨s.dst, x, ws, guardSlot s.g ++ slotsOf s.op, lookRows F s.op, if makes s.op then [H.length] else []⟩, if makes s.op then 1 else 0)
        | none => none))
  | some false => some (⟨s.dst, .und, [], guardSlot s.g, [], []⟩, 0)
  | none => none

def evDraw (τ : TT) (call : Nat → List LV → Hp → Option (LV × Hp)) : List SO → Fr → Hp → Option (List DA × Fr × Hp)
  | [], F, H => some ([], F, H)
  | s :: r, F, H => match evDA τ call s F H with
    | some (c, e) => if c.rs.all (Nat.blt · H.length) && c.keys.all (Nat.blt · (H.length + e)) then
        (match evDraw τ call r (lput s.dst c.x F) (applyWs (H ++ List.replicate e none) c.ws) with
        | some (cs, F', H') => some (c :: cs, F', H')
        | none => none) else none
    | none => none

/-- The slots of F, each once. -/
def rm (s : Nat) : Fr → Fr
  | [] => []
  | (t, v) :: r => cond (Nat.beq t s) (rm s r) ((t, v) :: rm s r)
def dd : Nat → Fr → Fr
  | 0, F => F
  | _, [] => []
  | n + 1, (t, v) :: r => (t, v) :: dd n (rm t r)

def evS (τ : TT) (call : Nat → List LV → Hp → Option (LV × Hp)) : Nat → SC → Fr → Hp → Option (XE × Fr × Hp)
  | 0, _, _, _ => none
  | n + 1, s, F, H => match s with
    | .skip => some (.normal, F, H)
    | .reg ops => (match evOps τ call ops F H with | some (F, H) => some (.normal, F, H) | none => none)
    | .regd ops af => (match evDraw τ call ops F H with | some (cs, F, H) => if okB af cs then some (.normal, F, H) else none | none => none)
    | .seq a b => (match evS τ call n a F H with
      | some (.normal, F, H) => evS τ call n b F H
      | r => r)
    | .cond c a b => (match evalO F c with
      | .bool true => evS τ call n a F H
      | .bool false => evS τ call n b F H
      | _ => none)
    | .block id c => (match evS τ call n c F H with
      | some (.exit id', F, H) => if id' = id then some (.normal, F, H) else some (.exit id', F, H)
      | r => r)
    | .loop c => (match evS τ call n c F H with
      | some (.normal, F, H) => evS τ call n (.loop c) (dd 300 F) H
      | r => r)
    | .scope c => evS τ call n c F H
    | .exit id => some (.exit id, F, H)
    | .ret => some (.ret, F, H)
    | .rf _ _ _ _ => none

section
variable {P : Program} {τ : TT} (hτ : τ = ttOf P) {N : Dim} {call : Nat → List LV → Hp → Option (LV × Hp)} (hm : P.follows .mixedOrders = true) (hcall : ∀ f args H0 x H, call f args H0 = some (x, H) → LC P f args H0 fun y G => y = x ∧ G = H)
include hτ hcall

include hm in
end

end Go.Lite

/- Lite, part P: small facts for the walks. -/
namespace Go.Lite
open Go

end Go.Lite
set_option linter.unusedVariables false
set_option linter.unusedSimpArgs false

/- Lite, part TA: typed values: a slice holds a list of a plain type; an operation's value, what it asks, the rows that it lays. -/
namespace Go.Lite
open Go Go.RowKit
set_option linter.unusedVariables false

inductive TV (A : Nat → Type) where
  | dead
  | und
  | bool (b : Bool)
  | int (k : IntKind) (n : Int)
  | str (s : ByteArray)
  | nilp
  | nils
  | nilf
  | yld (l : Nat)
  | ptr (h off : Nat)
  | ptrE (sz h i off : Nat)
  | pel (cs : List (TV A))
  | sl (sz h off len : Nat)
  | sla (sz h off len : Nat)
  | lst (e : Nat) (xs : List (A e))
  | fn (f : Nat) (cap : List (TV A))
  | agg (cs : List (TV A))
  | tup (cs : List (TV A))
  | opt (g : Bool) (v : TV A)

instance {A : Nat → Type} : Inhabited (TV A) := ⟨.dead⟩

/-- The types of a program's slices' elements: their cells, and back. -/
structure Reg (A : Nat → Type) where
  sz : Nat → Nat
  d : ∀ e, A e
  encL : ∀ e, A e → List LV
  enc : ∀ e, A e → List (TV A)
  dec : ∀ e, List (TV A) → Option (A e)
  el : Nat → Option Nat
  byt : ∀ e, Option (List (A e) → List Int)

section
variable {A : Nat → Type} (R : Reg A)

mutual
def emb : TV A → LV
  | .dead => .dead
  | .und => .und
  | .bool b => .bool b
  | .int k n => .int k n
  | .str s => .str s
  | .nilp => .nilp
  | .nils => .nils
  | .nilf => .nilf
  | .yld l => .yld l
  | .ptr h o => .ptr h o
  | .ptrE sz h i o => .ptr h (i * sz + o)
  | .pel cs => .pp (embC cs)
  | .sl sz h o n => .sl sz h o n
  | .sla sz h o n => .sl sz h (o * sz) n
  | .lst e xs => .ps (R.sz e) xs.length (xs.flatMap (R.encL e))
  | .fn f cs => .fn f (embC cs)
  | .agg cs => .agg (embC cs)
  | .tup cs => .tup (embC cs)
  | .opt g v => cond g (emb v) .und
def embC : List (TV A) → List LV
  | [] => []
  | c :: r => emb c :: embC r
end

theorem embC_eq (cs : List (TV A)) : embC R cs = cs.map (emb R) := by
  induction cs with
  | nil => rfl
  | cons c r ih => simp [embC, ih]

structure Reg.Ok : Prop where
  pos : ∀ e, 0 < R.sz e
  len : ∀ e a, (R.encL e a).length = R.sz e
  ok : ∀ e a, embC R (R.enc e a) = R.encL e a
  dec : ∀ e cs a, R.dec e cs = some a → embC R cs = R.encL e a
  free : ∀ e a, hfreeL (R.encL e a) = true
  sol : ∀ e a, (R.encL e a).all solid = true
  byt : ∀ e f, R.byt e = some f → ∀ xs, xs.flatMap (R.encL e) = (f xs).map (LV.int .u8)

end

inductive TRow (A : Nat → Type) where
  | cells (cs : List (TV A))
  | arr (e : Nat) (xs : List (A e))

abbrev TH (A : Nat → Type) := List (Option (TRow A))
abbrev TF (A : Nat → Type) := List (Nat × TV A)

section
variable {A : Nat → Type} (R : Reg A)

def embR : TRow A → List LV
  | .cells cs => embC R cs
  | .arr e xs => xs.flatMap (R.encL e)
def embO : Option (TRow A) → Option (List LV)
  | none => none
  | some r => some (embR R r)
def embH : TH A → Hp
  | [] => []
  | r :: H => embO R r :: embH H
def embF : TF A → Fr
  | [] => []
  | (t, v) :: F => (t, emb R v) :: embF F
def embW : List (Nat × Option (TRow A)) → List (Nat × Option (List LV))
  | [] => []
  | (h, r) :: ws => (h, embO R r) :: embW ws

def tget : TF A → Nat → TV A
  | [], _ => .dead
  | (s, v) :: r, t => cond (Nat.beq s t) v (tget r t)

theorem fget_embF (F : TF A) (t : Nat) : fget (embF R F) t = emb R (tget F t) := by
  induction F with
  | nil => simp [embF, fget, tget, emb]
  | cons p r ih =>
    obtain ⟨s, v⟩ := p
    simp only [embF, fget, tget]
    cases Nat.beq s t <;> simp [ih]

mutual
def upC : LV → TV A
  | .und => .und
  | .bool b => .bool b
  | .int k n => .int k n
  | .str s => .str s
  | .nilp => .nilp
  | .nils => .nils
  | .nilf => .nilf
  | .yld l => .yld l
  | .ptr h o => .ptr h o
  | .sl sz h o n => .sl sz h o n
  | .fn f cs => .fn f (upL cs)
  | .agg cs => .agg (upL cs)
  | .tup cs => .tup (upL cs)
  | _ => .dead
def upL : List LV → List (TV A)
  | [] => []
  | c :: r => upC c :: upL r
end

mutual
/-- It holds no plain memory. -/
def flat : LV → Bool
  | .ps _ _ _ => false
  | .pp _ => false
  | .fn _ cs => flatL cs
  | .agg cs => flatL cs
  | .tup cs => flatL cs
  | _ => true
def flatL : List LV → Bool
  | [] => true
  | c :: r => flat c && flatL r
end

mutual
theorem emb_up : ∀ (x : LV), flat x = true → emb R (upC x) = x
  | .dead, _ => rfl
  | .und, _ => rfl
  | .bool _, _ => rfl
  | .int _ _, _ => rfl
  | .str _, _ => rfl
  | .nilp, _ => rfl
  | .nils, _ => rfl
  | .nilf, _ => rfl
  | .yld _, _ => rfl
  | .ptr _ _, _ => rfl
  | .sl _ _ _ _, _ => rfl
  | .fn f cs, h => by simp only [upC, emb]; rw [embC_up cs (by simpa [flat] using h)]
  | .agg cs, h => by simp only [upC, emb]; rw [embC_up cs (by simpa [flat] using h)]
  | .tup cs, h => by simp only [upC, emb]; rw [embC_up cs (by simpa [flat] using h)]
  | .ps _ _ _, h => by simp [flat] at h
  | .pp _, h => by simp [flat] at h
theorem embC_up : ∀ (cs : List LV), flatL cs = true → embC R (upL cs) = cs
  | [], _ => rfl
  | c :: r, h => by
    simp only [flatL, Bool.and_eq_true] at h
    simp only [upL, embC]
    rw [emb_up c h.1, embC_up r h.2]
end

theorem flat_scalar (v : Value) : flat (scalarLV v) = true := by
  unfold scalarLV; split <;> rfl
theorem flat_const (v : Value) : flat (constLV v) = true := by
  unfold constLV
  split
  · rename_i cs
    simp only [flat]
    have : ∀ (l : List Value), flatL (l.map scalarLV) = true := by
      intro l
      induction l with
      | nil => rfl
      | cons c r ih => simp [flatL, flat_scalar, ih]
    exact this _
  · exact flat_scalar v

def tO (F : TF A) : Operand → TV A
  | .tmp t => tget F t
  | .const v => upC (constLV v)
  | .global _ => .dead
  | .func f => .fn f []

theorem evalO_emb (F : TF A) (o : Operand) : evalO (embF R F) o = emb R (tO F o) := by
  cases o with
  | tmp t => exact fget_embF R F t
  | const v => exact (emb_up R _ (flat_const v)).symm
  | global g => rfl
  | func f => rfl

def nth {α : Type} : List α → Nat → Option α
  | [], _ => none
  | x :: _, 0 => some x
  | _ :: r, n + 1 => nth r n

theorem nth_eq {α : Type} : ∀ (l : List α) (n : Nat), nth l n = l[n]? := by
  intro l
  induction l with
  | nil => intro n; simp [nth]
  | cons x r ih => intro n; cases n <;> simp [nth, ih]

def trow (H : TH A) (h : Nat) : Option (TRow A) := match nth H h with
  | some (some r) => some r
  | _ => none

theorem embH_get (H : TH A) (h : Nat) : (embH R H)[h]? = (H[h]?).map (embO R) := by
  induction H generalizing h with
  | nil => simp [embH]
  | cons r H ih => cases h <;> simp [embH, ih]

theorem embH_length (H : TH A) : (embH R H).length = H.length := by
  induction H with
  | nil => rfl
  | cons r H ih => simp [embH, ih]

theorem row_emb {H : TH A} {h : Nat} {r : TRow A} (hr : trow H h = some r) : row (embH R H) h = some (embR R r) := by
  unfold trow at hr
  rw [nth_eq] at hr
  split at hr
  · rename_i r' h'
    obtain rfl := Option.some.inj hr
    unfold row
    rw [embH_get, h']
    rfl
  · cases hr

def tpart (agg : Bool) (size : Nat) (cs : List (TV A)) (off : Nat) : Option (TV A) :=
  cond agg (cond (Nat.ble (off + size) cs.length) (some (.agg ((cs.drop off).take size))) none) (nth cs off)

theorem embC_length (cs : List (TV A)) : (embC R cs).length = cs.length := by rw [embC_eq]; simp
theorem embC_drop (cs : List (TV A)) (n : Nat) : embC R (cs.drop n) = (embC R cs).drop n := by rw [embC_eq, embC_eq, List.map_drop]
theorem embC_take (cs : List (TV A)) (n : Nat) : embC R (cs.take n) = (embC R cs).take n := by rw [embC_eq, embC_eq, List.map_take]
theorem embC_append (cs ds : List (TV A)) : embC R (cs ++ ds) = embC R cs ++ embC R ds := by rw [embC_eq, embC_eq, embC_eq, List.map_append]
theorem embC_get (cs : List (TV A)) (n : Nat) : (embC R cs)[n]? = (cs[n]?).map (emb R) := by rw [embC_eq, List.getElem?_map]

theorem tpart_emb {agg : Bool} {size : Nat} {cs : List (TV A)} {off : Nat} {v : TV A} (h : tpart agg size cs off = some v) : lpart agg size (embC R cs) off = some (emb R v) := by
  unfold tpart at h
  unfold lpart
  cases agg
  · simp only [cond_false] at h
    rw [nth_eq] at h
    simp [embC_get, h]
  · simp only [cond_true] at h
    cases hb : Nat.ble (off + size) cs.length
    · rw [hb] at h; cases h
    · rw [hb] at h
      have hle : off + size ≤ cs.length := Nat.le_of_ble_eq_true hb
      simp only [cond_true, Option.some.injEq] at h
      subst h
      simp only [if_true]
      rw [if_pos (by rw [embC_length]; exact hle)]
      simp only [emb, embC_take, embC_drop]

end
/-! ### What might be nothing -/
section
variable {A : Nat → Type} {R : Reg A}
/-- It might be nothing. -/
def undT : TV A → Bool
  | .und => true
  | .opt _ _ => true
  | _ => false
/-- Both begin with nothing, or surely neither. -/
def fnB : List (TV A) → List (TV A) → Bool
  | [], [] => true
  | .und :: _, .und :: _ => true
  | c :: _, d :: _ => !undT c && !undT d
  | _, _ => false
theorem undT_emb {c : TV A} {r : List (TV A)} (h : undT c = false) : isUnd (embC R (c :: r)) = false := by
  cases c <;> first | rfl | (simp [undT] at h)
theorem fnB_ok {cs ds : List (TV A)} (h : fnB cs ds = true) : isUnd (embC R cs) = isUnd (embC R ds) := by
  unfold fnB at h
  split at h
  · rfl
  · rfl
  · simp only [Bool.and_eq_true, Bool.not_eq_true'] at h
    rw [undT_emb h.1, undT_emb h.2]
  · cases h
end
end Go.Lite

/- Lite, part TB: operations on typed values: what they come to, and that it is so. -/
namespace Go.Lite
open Go Go.RowKit
set_option linter.unusedVariables false

/-! ### Lists of pieces of one length -/
section
variable {α : Type} {f : α → List LV} {c : Nat}

theorem fm_length (hf : ∀ a, (f a).length = c) (xs : List α) : (xs.flatMap f).length = xs.length * c := by
  induction xs with
  | nil => simp
  | cons x r ih => simp [List.flatMap_cons, ih, hf, Nat.add_mul, Nat.add_comm]

theorem fm_drop (hf : ∀ a, (f a).length = c) : ∀ (n : Nat) (xs : List α), (xs.flatMap f).drop (n * c) = (xs.drop n).flatMap f := by
  intro n
  induction n with
  | zero => intro xs; simp
  | succ n ih =>
    intro xs
    cases xs with
    | nil => simp
    | cons x r =>
      simp only [List.flatMap_cons, List.drop_succ_cons]
      rw [← ih r, Nat.add_mul, Nat.one_mul, Nat.add_comm, List.drop_append]
      have : (f x).length = c := hf x
      rw [List.drop_eq_nil_of_le (by omega), List.nil_append]
      congr 1; omega

theorem fm_take (hf : ∀ a, (f a).length = c) : ∀ (n : Nat) (xs : List α), (xs.flatMap f).take (n * c) = (xs.take n).flatMap f := by
  intro n
  induction n with
  | zero => intro xs; simp
  | succ n ih =>
    intro xs
    cases xs with
    | nil => simp
    | cons x r =>
      simp only [List.flatMap_cons, List.take_succ_cons]
      rw [← ih r, Nat.add_mul, Nat.one_mul, Nat.add_comm, List.take_append]
      have : (f x).length = c := hf x
      rw [List.take_of_length_le (by omega)]
      congr 2; omega

theorem fm_split (hf : ∀ a, (f a).length = c) {xs : List α} {i : Nat} (hi : i < xs.length) : xs.flatMap f = (xs.take i).flatMap f ++ (f xs[i] ++ (xs.drop (i + 1)).flatMap f) ∧ ((xs.take i).flatMap f).length = i * c := by
  constructor
  · have : xs = xs.take i ++ (xs[i] :: xs.drop (i + 1)) := by rw [← List.drop_eq_getElem_cons hi, List.take_append_drop]
    exact (congrArg (List.flatMap f) this).trans (by rw [List.flatMap_append, List.flatMap_cons])
  · rw [fm_length hf, List.length_take, Nat.min_eq_left (by omega)]

theorem lpart_mid {agg : Bool} {size o : Nat} {X B C : List LV} {v : LV} (h : lpart agg size B o = some v) : lpart agg size (X ++ (B ++ C)) (X.length + o) = some v := by
  unfold lpart at *
  split at h
  · rename_i ha
    split at h
    · rename_i hl
      rw [if_pos ha, if_pos (by simp; omega)]
      obtain rfl := Option.some.inj h
      congr 2
      rw [List.drop_append, List.drop_eq_nil_of_le (by omega), List.nil_append, show X.length + o - X.length = o by omega, List.drop_append, List.take_append]
      have : (B.drop o).length = B.length - o := by simp
      rw [show size - (B.drop o).length = 0 by omega]
      simp
    · cases h
  · rename_i ha
    rw [if_neg ha]
    obtain ⟨h1, rfl⟩ := List.getElem?_eq_some_iff.1 h
    rw [List.getElem?_append_right (by omega), show X.length + o - X.length = o by omega, List.getElem?_append_left h1, List.getElem?_eq_getElem h1]

theorem putC_mid {o : Nat} {X B C vs : List LV} (h : o + vs.length ≤ B.length) : putC (X ++ (B ++ C)) (X.length + o) vs = X ++ (putC B o vs ++ C) := by
  unfold putC
  split
  · simp only [List.length_singleton] at h
    rw [List.set_append_right _ _ (by omega), show X.length + o - X.length = o by omega, List.set_append_left _ _ (by omega)]
  · unfold putCells
    rw [List.take_append, List.take_of_length_le (by omega), show X.length + o - X.length = o by omega, List.take_append, show o - B.length = 0 by omega]
    rw [List.drop_append, List.drop_eq_nil_of_le (by omega), List.nil_append, show X.length + o + vs.length - X.length = o + vs.length by omega, List.drop_append, show o + vs.length - B.length = 0 by omega]
    simp

theorem getD_get {xs : List α} {i : Nat} (d : α) (hi : i < xs.length) : xs.getD i d = xs[i] := by simp [hi]
end

def Conj : List Prop → Prop
  | [] => True
  | p :: r => p ∧ Conj r
theorem Conj.app : ∀ {a b : List Prop}, Conj (a ++ b) → Conj a ∧ Conj b
  | [], _, h => ⟨trivial, h⟩
  | _ :: _, _, h => ⟨⟨h.1, (Conj.app h.2).1⟩, (Conj.app h.2).2⟩

/-- The value is one of its kind. -/
def rng : IntKind → Int → Prop
  | .i8, n => -128 ≤ n ∧ n ≤ 127
  | .i16, n => -32768 ≤ n ∧ n ≤ 32767
  | .i32, n => -2147483648 ≤ n ∧ n ≤ 2147483647
  | .i64, n => -9223372036854775808 ≤ n ∧ n ≤ 9223372036854775807
  | .u8, n => 0 ≤ n ∧ n ≤ 255
  | .u16, n => 0 ≤ n ∧ n ≤ 65535
  | .u32, n => 0 ≤ n ∧ n ≤ 4294967295
  | .u64, n => 0 ≤ n ∧ n ≤ 18446744073709551615

theorem wrap_rng {k : IntKind} {n : Int} (h : rng k n) : k.wrap n = n := by
  cases k <;> simp only [rng] at h <;> simp [IntKind.wrap, IntKind.bits, IntKind.signed] <;> omega

/-- Sums and the like: signed kinds must not overflow, unsigned ones wrap. -/
def arith (k : IntKind) (n : Int) : List Prop × Int :=
  match k with
  | .u8 => ([], n % 256)
  | .u16 => ([], n % 65536)
  | .u32 => ([], n % 4294967296)
  | .u64 => ([], n % 18446744073709551616)
  | .i8 => ([-128 ≤ n ∧ n ≤ 127], n)
  | .i16 => ([-32768 ≤ n ∧ n ≤ 32767], n)
  | .i32 => ([-2147483648 ≤ n ∧ n ≤ 2147483647], n)
  | .i64 => ([-9223372036854775808 ≤ n ∧ n ≤ 9223372036854775807], n)

theorem arith_ok {k : IntKind} {n : Int} (h : Conj (arith k n).1) : k.wrap n = (arith k n).2 := by
  cases k <;> simp only [arith, Conj, and_true] at h ⊢ <;> simp [IntKind.wrap, IntKind.bits, IntKind.signed] <;> omega

def kEq : IntKind → IntKind → Bool
  | .i8, .i8 | .i16, .i16 | .i32, .i32 | .i64, .i64 | .u8, .u8 | .u16, .u16 | .u32, .u32 | .u64, .u64 => true
  | _, _ => false
theorem kEq_eq {k k' : IntKind} (h : kEq k k' = true) : k = k' := by cases k <;> cases k' <;> first | rfl | (simp [kEq] at h)

/-- Bits of two numbers that are not negative. -/
def band (a b : Int) : Int := ((a.toNat &&& b.toNat : Nat) : Int)
def bor (a b : Int) : Int := ((a.toNat ||| b.toNat : Nat) : Int)
def bxor (a b : Int) : Int := ((a.toNat ^^^ b.toNat : Nat) : Int)
/-- The bits of a that b lacks. -/
def bandn (k : IntKind) (a b : Int) : Int := k.wrap ((BitVec.ofInt k.bits a &&& ~~~ BitVec.ofInt k.bits b).toNat : Int)
/-- Go's quotient and remainder. -/
def quo (a b : Int) : Int := a.tdiv b
def rem (a b : Int) : Int := a.tmod b

section
variable {A : Nat → Type} (R : Reg A)

def tint (op : BinOp) (k : IntKind) (a : Int) (k' : IntKind) (b : Int) : Option (List Prop × TV A) :=
  match op with
  | .shl => some ((0 ≤ b) :: (arith k (a * 2 ^ b.toNat)).1, .int k (arith k (a * 2 ^ b.toNat)).2)
  | .shr => some ([0 ≤ b, rng k a], .int k (a / 2 ^ b.toNat))
  | _ => cond (kEq k k') (match op with
    | .add => some ((arith k (a + b)).1, .int k (arith k (a + b)).2)
    | .sub => some ((arith k (a - b)).1, .int k (arith k (a - b)).2)
    | .mul => some ((arith k (a * b)).1, .int k (arith k (a * b)).2)
    | .quo => some ([b ≠ 0, rng k (quo a b)], .int k (quo a b))
    | .rem => some ([b ≠ 0], .int k (rem a b))
    | .and => some ([0 ≤ a, 0 ≤ b, rng k a, rng k b], .int k (band a b))
    | .or => some ([0 ≤ a, 0 ≤ b, rng k a, rng k b], .int k (bor a b))
    | .xor => some ([0 ≤ a, 0 ≤ b, rng k a, rng k b], .int k (bxor a b))
    | .andNot => some ([], .int k (bandn k a b))
    | .eql => some ([], .bool (decide (a = b)))
    | .neq => some ([], .bool (!(decide (a = b))))
    | .lss => some ([], .bool (decide (a < b)))
    | .leq => some ([], .bool (decide (a ≤ b)))
    | .gtr => some ([], .bool (decide (b < a)))
    | .geq => some ([], .bool (decide (b ≤ a)))
    | _ => none) none

theorem rng_two {k : IntKind} {a : Int} (h0 : 0 ≤ a) (h : rng k a) : a < 2 ^ (k.bits) ∧ (k.signed = true → a < 2 ^ (k.bits - 1)) := by
  cases k <;> simp only [rng] at h <;> simp [IntKind.bits, IntKind.signed] <;> omega

theorem bits_toNat {k : IntKind} {a : Int} (h0 : 0 ≤ a) (h : rng k a) : (BitVec.ofInt k.bits a).toNat = a.toNat := by
  have := (rng_two h0 h).1
  rw [BitVec.toNat_ofInt]
  congr 1
  have e : ((2 ^ k.bits : Nat) : Int) = 2 ^ k.bits := by simp
  rw [e]
  exact Int.emod_eq_of_lt h0 this

theorem rng_of_lt {k : IntKind} {n : Nat} (h : n < 2 ^ k.bits) (hs : k.signed = true → n < 2 ^ (k.bits - 1)) : rng k (n : Int) := by
  cases k <;> simp [IntKind.bits, IntKind.signed] at h hs <;> simp only [rng] <;> omega

theorem toNat_lt_two {a : Int} {n : Nat} (h0 : 0 ≤ a) (h : a < 2 ^ n) : a.toNat < 2 ^ n := by
  have e : ((2 ^ n : Nat) : Int) = 2 ^ n := by simp
  omega

theorem tint_ok {op : BinOp} {k k' : IntKind} {a b : Int} {cs : List Prop} {v : TV A} (h : tint op k a k' b = some (cs, v)) (hc : Conj cs) : lbin op (.int k a) (.int k' b) = some (emb R v) := by
  have two : ∀ n : Nat, (0 : Int) < 2 ^ n := fun n => Int.pow_pos (by decide)
  by_cases h1 : op = .shl
  · subst h1
    simp only [tint, Option.some.injEq, Prod.mk.injEq] at h
    obtain ⟨rfl, rfl⟩ := h
    have hw := arith_ok hc.2
    simp only [lbin]
    rw [if_neg (by have := hc.1; omega)]
    simp only [emb]
    rw [← hw]
    congr 2
    -- beyond the kind's bits nothing is left
    rcases Nat.le_total b.toNat k.bits with hb | hb
    · rw [Nat.min_eq_left hb]
    · rw [Nat.min_eq_right hb]
      obtain ⟨j, hj⟩ : ∃ j, b.toNat = k.bits + j := ⟨b.toNat - k.bits, by omega⟩
      rw [hj, Int.pow_add, ← Int.mul_assoc]
      have : ∀ m : Int, k.wrap (m * 2 ^ k.bits) = k.wrap 0 := by
        intro m
        cases k <;> simp [IntKind.wrap, IntKind.bits, IntKind.signed] <;> omega
      rw [this, show a * 2 ^ k.bits * 2 ^ j = a * 2 ^ j * 2 ^ k.bits by rw [Int.mul_assoc, Int.mul_comm (2 ^ k.bits), ← Int.mul_assoc], this]
  · by_cases h2 : op = .shr
    · subst h2
      simp only [tint, Option.some.injEq, Prod.mk.injEq] at h
      obtain ⟨rfl, rfl⟩ := h
      simp only [lbin]
      rw [if_neg (by have := hc.1; omega)]
      simp only [emb, Option.some.injEq, LV.int.injEq, true_and]
      rw [Int.fdiv_eq_ediv_of_nonneg _ (Int.le_of_lt (two _))]
      rcases Nat.le_total b.toNat k.bits with hb | hb
      · rw [Nat.min_eq_left hb]
      · rw [Nat.min_eq_right hb]
        have hr := hc.2.1
        have small : ∀ n : Nat, k.bits ≤ n → (0 ≤ a → a / 2 ^ n = 0) ∧ (a < 0 → a / 2 ^ n = -1) := by
          intro n hn
          have hp : (2 : Int) ^ k.bits ≤ 2 ^ n := by
            have := Nat.pow_le_pow_right (show 0 < 2 by decide) hn
            have e1 : ((2 ^ n : Nat) : Int) = 2 ^ n := by simp
            have e2 : ((2 ^ k.bits : Nat) : Int) = 2 ^ k.bits := by simp
            omega
          have hb2 : a < 2 ^ k.bits ∧ -(2 ^ k.bits) ≤ a := by cases k <;> simp only [rng] at hr <;> simp [IntKind.bits] <;> omega
          refine ⟨fun h0 => Int.ediv_eq_zero_of_lt h0 (by omega), fun h0 => ?_⟩
          have p := two n
          have := Int.ediv_lt_iff_lt_mul (a := a) (b := 0) p
          have h3 : a / 2 ^ n < 0 := this.2 (by simpa using h0)
          have h4 : -1 ≤ a / 2 ^ n := (Int.le_ediv_iff_mul_le p).2 (by omega)
          omega
        rcases Int.lt_or_le a 0 with ha | ha
        · rw [(small _ (Nat.le_refl _)).2 ha, (small _ hb).2 ha]
        · rw [(small _ (Nat.le_refl _)).1 ha, (small _ hb).1 ha]
    · have hk : kEq k k' = true := by
        cases hk : kEq k k' with
        | true => rfl
        | false => cases op <;> simp [tint, hk] at h h1 h2
      have := kEq_eq hk
      subst this
      have hbits : ∀ {f : Nat → Nat → Nat}, Conj [0 ≤ a, 0 ≤ b, rng k a, rng k b] → (∀ x y n, x < 2 ^ n → y < 2 ^ n → f x y < 2 ^ n) → k.wrap ((f a.toNat b.toNat : Nat) : Int) = ((f a.toNat b.toNat : Nat) : Int) := by
        intro f ⟨p1, p2, p3, p4, _⟩ hf
        obtain ⟨a1, a2⟩ := rng_two p1 p3
        obtain ⟨b1, b2⟩ := rng_two p2 p4
        exact wrap_rng (rng_of_lt (hf _ _ _ (toNat_lt_two p1 a1) (toNat_lt_two p2 b1)) fun hs => hf _ _ _ (toNat_lt_two p1 (a2 hs)) (toNat_lt_two p2 (b2 hs)))
      cases op <;> simp only [tint, hk, cond_true, Option.some.injEq, Prod.mk.injEq, reduceCtorEq, not_true_eq_false] at h h1 h2 <;> obtain ⟨rfl, rfl⟩ := h <;> simp only [lbin, ne_eq, not_true_eq_false, if_false, emb]
      case add => rw [arith_ok hc]
      case sub => rw [arith_ok hc]
      case mul => rw [arith_ok hc]
      case quo =>
        rw [if_neg hc.1]
        rw [wrap_rng (show rng k (a.tdiv b) from hc.2.1)]; rfl
      case rem => rw [if_neg hc.1]; rfl
      case and =>
        have := hbits (f := (· &&& ·)) hc (fun x y n hx hy => Nat.and_lt_two_pow _ hy)
        obtain ⟨p1, p2, p3, p4, _⟩ := hc
        rw [BitVec.toNat_and, bits_toNat p1 p3, bits_toNat p2 p4, this]; rfl
      case or =>
        have := hbits (f := (· ||| ·)) hc (fun x y n hx hy => Nat.or_lt_two_pow hx hy)
        obtain ⟨p1, p2, p3, p4, _⟩ := hc
        rw [BitVec.toNat_or, bits_toNat p1 p3, bits_toNat p2 p4, this]; rfl
      case xor =>
        have := hbits (f := (· ^^^ ·)) hc (fun x y n hx hy => Nat.xor_lt_two_pow hx hy)
        obtain ⟨p1, p2, p3, p4, _⟩ := hc
        rw [BitVec.toNat_xor, bits_toNat p1 p3, bits_toNat p2 p4, this]; rfl
      case eql => congr 2
      case neq =>
        first | rfl | (congr 2; done) | (congr 2; by_cases e : a = b <;> simp [e])
      all_goals rfl
end
end Go.Lite
