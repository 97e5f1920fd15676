/- Lite, parts K. -/
import Derived.Test.YtagfanbodglplaaLiteJ
set_option linter.unusedVariables false
set_option linter.unusedSimpArgs false

/- Lite, part K: calls out of a frame, and regions. -/
namespace Go.Lite
open Go Go.RowKit
set_option linter.unusedVariables false

mutual
/-- It speaks of no row of the call's own. -/
def hfree : LV → Bool
  | .ptr _ _ => false
  | .sl _ _ _ _ => false
  | .fn _ cs => hfreeL cs
  | .agg cs => hfreeL cs
  | .tup cs => hfreeL cs
  | _ => true
def hfreeL : List LV → Bool
  | [] => true
  | c :: r => hfree c && hfreeL r
end

mutual
/-- It holds nothing that lies outside the rows. -/
def psfree : LV → Bool
  | .ps _ _ _ => false
  | .pp _ => false
  | .fn _ cs => psfreeL cs
  | .agg cs => psfreeL cs
  | .tup cs => psfreeL cs
  | _ => true
def psfreeL : List LV → Bool
  | [] => true
  | c :: r => psfree c && psfreeL r
end

def psfreeH : Hp → Bool
  | [] => true
  | none :: r => psfreeH r
  | some cs :: r => psfreeL cs && psfreeH r

mutual
/-- Handles renamed. -/
def ren (g : Nat → Nat) : LV → LV
  | .ptr h o => .ptr (g h) o
  | .sl sz h o m => .sl sz (g h) o m
  | .fn f cs => .fn f (renL g cs)
  | .agg cs => .agg (renL g cs)
  | .tup cs => .tup (renL g cs)
  | .dead => .dead
  | .und => .und
  | .bool b => .bool b
  | .int k m => .int k m
  | .str s => .str s
  | .nilp => .nilp
  | .pp cs => .pp cs
  | .nils => .nils
  | .ps sz m cs => .ps sz m cs
  | .nilf => .nilf
  | .yld l => .yld l
def renL (g : Nat → Nat) : List LV → List LV
  | [] => []
  | c :: r => ren g c :: renL g r
end

theorem ren_und {g : Nat → Nat} (x : LV) : ren g x = .und ↔ x = .und := by cases x <;> simp [ren]

def snL (f : LV → LV) (l : List LV) : List LV := if hfreeL l then l else l.map f

/-- What a callee that only reads is shown: rows as plain values. -/
def snap (H : Hp) : Nat → LV → LV
  | 0, x => if hfree x then x else .dead
  | k + 1, x => match x with
    | .sl sz h o m => (match row H h with | some cs => if o + m * sz ≤ cs.length then .ps sz m (snL (snap H k) ((cs.drop o).take (m * sz))) else .dead | none => .dead)
    | .agg cs => .agg (snL (snap H k) cs)
    | .fn f cs => .fn f (snL (snap H k) cs)
    | .ptr h o => (match row H h with | some cs => .pp (snL (snap H k) (cs.drop o)) | none => .dead)
    | .tup _ => .dead
    | x => x

theorem hfreeL_get {cs : List LV} (h : hfreeL cs = true) : ∀ i (hi : i < cs.length), hfree cs[i] = true := by
  induction cs with
  | nil => intro i hi; simp at hi
  | cons c r ih =>
    simp only [hfreeL, Bool.and_eq_true] at h
    intro i hi
    cases i with
    | zero => exact h.1
    | succ i => exact ih h.2 i (by simpa using hi)

theorem psfreeL_get {cs : List LV} (h : psfreeL cs = true) : ∀ i (hi : i < cs.length), psfree cs[i] = true := by
  induction cs with
  | nil => intro i hi; simp at hi
  | cons c r ih =>
    simp only [psfreeL, Bool.and_eq_true] at h
    intro i hi
    cases i with
    | zero => exact h.1
    | succ i => exact ih h.2 i (by simpa using hi)

theorem renL_eq (g : Nat → Nat) (cs : List LV) : renL g cs = cs.map (ren g) := by
  induction cs with
  | nil => rfl
  | cons c r ih => simp [renL, ih]

theorem psfreeH_get {H : Hp} (h : psfreeH H = true) {k : Nat} {cs : List LV} (hk : H[k]? = some (some cs)) : psfreeL cs = true := by
  induction H generalizing k with
  | nil => simp at hk
  | cons p r ih =>
    cases p with
    | none =>
      cases k with
      | zero => simp at hk
      | succ k => exact ih (by simpa [psfreeH] using h) (by simpa using hk)
    | some ds =>
      simp only [psfreeH, Bool.and_eq_true] at h
      cases k with
      | zero => simp at hk; subst hk; exact h.1
      | succ k => exact ih h.2 (by simpa using hk)

section
variable {w : World} {ι ι' : Pl} {per per' : Nat → Prop}

theorem VR.hfree {x : LV} {v : Value} (hv : VR w per ι x v) : hfree x = true → VR w per ι' x v := by
  induction hv with
  | dead v => intro _; exact .dead v
  | und => intro _; exact .und
  | bool b => intro _; exact .bool b
  | int k n => intro _; exact .int k n
  | str s => intro _; exact .str s
  | nilp => intro _; exact .nilp
  | ptr hi => intro h; simp [Lite.hfree] at h
  | pp vs h1 h2 h3 _ => intro _; exact .pp vs h1 h2 h3
  | nils => intro _; exact .nils
  | sl h1 h2 h3 => intro h; simp [Lite.hfree] at h
  | slz => intro h; simp [Lite.hfree] at h
  | psz => intro _; exact .psz
  | ps vs h1 h2 h3 h4 h5 _ => intro _; exact .ps vs h1 h2 h3 h4 h5
  | nilf => intro _; exact .nilf
  | yld l => intro _; exact .yld l
  | fn hn hv ih => intro h; exact .fn hn fun i hi => ih i hi (hfreeL_get (by simpa [Lite.hfree] using h) i hi)
  | agg hn hv ih => intro h; exact .agg hn fun i hi => ih i hi (hfreeL_get (by simpa [Lite.hfree] using h) i hi)
  | tup hn hv ih => intro h; exact .tup hn fun i hi => ih i hi (hfreeL_get (by simpa [Lite.hfree] using h) i hi)

theorem VR.psfree {x : LV} {v : Value} (hv : VR w per ι x v) : psfree x = true → VR w per' ι x v := by
  induction hv with
  | dead v => intro _; exact .dead v
  | und => intro _; exact .und
  | bool b => intro _; exact .bool b
  | int k n => intro _; exact .int k n
  | str s => intro _; exact .str s
  | nilp => intro _; exact .nilp
  | ptr hi => intro h; exact .ptr hi
  | pp vs h1 h2 h3 _ => intro h; simp [Lite.psfree] at h
  | nils => intro _; exact .nils
  | sl h1 h2 h3 => intro h; exact .sl h1 h2 h3
  | slz => intro h; exact .slz
  | psz => intro _; exact .psz
  | ps vs h1 h2 h3 h4 h5 _ => intro h; simp [Lite.psfree] at h
  | nilf => intro _; exact .nilf
  | yld l => intro _; exact .yld l
  | fn hn hv ih => intro h; exact .fn hn fun i hi => ih i hi (psfreeL_get (by simpa [Lite.psfree] using h) i hi)
  | agg hn hv ih => intro h; exact .agg hn fun i hi => ih i hi (psfreeL_get (by simpa [Lite.psfree] using h) i hi)
  | tup hn hv ih => intro h; exact .tup hn fun i hi => ih i hi (psfreeL_get (by simpa [Lite.psfree] using h) i hi)

theorem VR.ren {g : Nat → Nat} {x : LV} {v : Value} (hv : VR w per ι x v) : (∀ (h : Nat) (b : Nat × Nat), ι[h]? = some (some b) → ι'[g h]? = some (some b)) → VR w per ι' (ren g x) v := by
  induction hv with
  | dead v => intro _; exact .dead v
  | und => intro _; exact .und
  | bool b => intro _; exact .bool b
  | int k n => intro _; exact .int k n
  | str s => intro _; exact .str s
  | nilp => intro _; exact .nilp
  | ptr hi => intro h; exact .ptr (h _ _ hi)
  | pp vs h1 h2 h3 _ => intro _; exact .pp vs h1 h2 h3
  | nils => intro _; exact .nils
  | sl h1 h2 h3 => intro h; exact .sl (h _ _ h1) h2 h3
  | slz => intro h; exact .slz
  | psz => intro _; exact .psz
  | ps vs h1 h2 h3 h4 h5 _ => intro _; exact .ps vs h1 h2 h3 h4 h5
  | nilf => intro _; exact .nilf
  | yld l => intro _; exact .yld l
  | fn hn hv ih => intro h; simp only [Lite.ren, renL_eq]; exact .fnC (by simpa using hn) (fun i hi => by rw [List.getElem_map]; exact ih i (by simpa using hi) h) (isUnd_map ren_und _)
  | agg hn hv ih => intro h; simp only [Lite.ren, renL_eq]; exact .agg (by simpa using hn) fun i hi => by rw [List.getElem_map]; exact ih i (by simpa using hi) h
  | tup hn hv ih => intro h; simp only [Lite.ren, renL_eq]; exact .tup (by simpa using hn) fun i hi => by rw [List.getElem_map]; exact ih i (by simpa using hi) h

theorem VR.unren {g : Nat → Nat} {y : LV} {v : Value} (hv : VR w per ι y v) : (∀ (h : Nat) (b : Nat × Nat), ι[g h]? = some (some b) → ι'[h]? = some (some b)) → ∀ {x : LV}, Lite.ren g x = y → VR w per ι' x v := by
  induction hv with
  | dead v => intro _ x hx; cases x <;> simp only [Lite.ren, reduceCtorEq] at hx; exact .dead v
  | und => intro _ x hx; cases x <;> simp only [Lite.ren, reduceCtorEq] at hx; exact .und
  | bool b => intro _ x hx; cases x <;> simp only [Lite.ren, reduceCtorEq] at hx; cases hx; exact .bool b
  | int k n => intro _ x hx; cases x <;> simp only [Lite.ren, reduceCtorEq] at hx; cases hx; exact .int k n
  | str s => intro _ x hx; cases x <;> simp only [Lite.ren, reduceCtorEq] at hx; cases hx; exact .str s
  | nilp => intro _ x hx; cases x <;> simp only [Lite.ren, reduceCtorEq] at hx; exact .nilp
  | ptr hi => intro h x hx; cases x <;> simp only [Lite.ren, reduceCtorEq] at hx; cases hx; exact .ptr (h _ _ hi)
  | pp vs h1 h2 h3 _ => intro _ x hx; cases x <;> simp only [Lite.ren, reduceCtorEq] at hx; cases hx; exact .pp vs h1 h2 h3
  | nils => intro _ x hx; cases x <;> simp only [Lite.ren, reduceCtorEq] at hx; exact .nils
  | sl h1 h2 h3 => intro h x hx; cases x <;> simp only [Lite.ren, reduceCtorEq] at hx; cases hx; exact .sl (h _ _ h1) h2 h3
  | slz => intro h x hx; cases x <;> simp only [Lite.ren, reduceCtorEq] at hx; cases hx; exact .slz
  | psz => intro _ x hx; cases x <;> simp only [Lite.ren, reduceCtorEq] at hx; cases hx; exact .psz
  | ps vs h1 h2 h3 h4 h5 _ => intro _ x hx; cases x <;> simp only [Lite.ren, reduceCtorEq] at hx; cases hx; exact .ps vs h1 h2 h3 h4 h5
  | nilf => intro _ x hx; cases x <;> simp only [Lite.ren, reduceCtorEq] at hx; exact .nilf
  | yld l => intro _ x hx; cases x <;> simp only [Lite.ren, reduceCtorEq] at hx; cases hx; exact .yld l
  | fn hn hv ih =>
    intro h x hx
    cases x <;> simp only [Lite.ren, renL_eq, reduceCtorEq, LV.fn.injEq] at hx
    obtain ⟨rfl, rfl⟩ := hx
    exact .fnC (by simpa using hn) (fun i hi => ih i (by simpa using hi) h (by simp)) (isUnd_map ren_und _).symm
  | agg hn hv ih =>
    intro h x hx
    cases x <;> simp only [Lite.ren, renL_eq, reduceCtorEq, LV.agg.injEq] at hx
    subst hx
    exact .agg (by simpa using hn) fun i hi => ih i (by simpa using hi) h (by simp)
  | tup hn hv ih =>
    intro h x hx
    cases x <;> simp only [Lite.ren, renL_eq, reduceCtorEq, LV.tup.injEq] at hx
    subst hx
    exact .tup (by simpa using hn) fun i hi => ih i (by simpa using hi) h (by simp)

end

section
variable {P : Program} {cx : Ctx} {N : Dim} {ι : Pl} {per : Nat → Prop} {F F' : Fr} {H H' : Hp} {a : Act} {w : World} {x : LV}

/-- Every block that is there is there to be read. -/
def allOf (w : World) : Nat → Prop := fun b => b < w.heap.size

theorem snap_und {H : Hp} (k : Nat) (x : LV) : snap H k x = .und ↔ x = .und := by
  cases k with
  | zero => simp only [snap]; split <;> rename_i h <;> cases x <;> simp_all [hfree]
  | succ k => cases x <;> simp only [snap, reduceCtorEq, iff_false, iff_self] <;> (repeat' split) <;> simp
theorem isUnd_snL {H : Hp} {k : Nat} (l : List LV) : isUnd (snL (snap H k) l) = isUnd l := by
  unfold snL
  split
  · rfl
  · exact isUnd_map (snap_und k) l

theorem snap_sound (hst : ST cx N ι per F H a w) : ∀ (k : Nat) (x : LV) (v : Value), VR w per ι x v → VR w (allOf w) [] (snap H k x) v := by
  have widen : ∀ {x : LV} {v : Value}, VR w per ι x v → hfree x = true → VR w (allOf w) [] x v := fun hv hf => (hv.step (Step.refl _ _) (fun b hb => hst.rep.perlt b hb) (ι' := ι) (fun _ _ h => h)).hfree hf
  intro k
  induction k with
  | zero =>
    intro x v hv
    simp only [snap]
    split
    · rename_i hf; exact widen hv hf
    · exact .dead v
  | succ k ih =>
    have ihL : ∀ (cs : List LV) (vs : List Value), VL w ι per cs vs → VL w [] (allOf w) (snL (snap H k) cs) vs := by
      intro cs vs hvl
      unfold snL
      split
      · rename_i hf
        exact ⟨hvl.1, fun i hi => widen (hvl.2 i hi) (hfreeL_get hf i hi)⟩
      · refine ⟨by simp [hvl.1], fun i hi => ?_⟩
        rw [List.getElem_map]
        exact ih _ _ (hvl.2 i (by simpa using hi))
    intro x v hv
    cases x with
    | sl sz h o m =>
      simp only [snap]
      split
      · rename_i cs hrow
        split
        · rename_i hle
          rcases hv.sl_inv with ⟨b, o', cap, hi, hl, hr, rfl⟩ | ⟨rfl, aa, rfl⟩
          · obtain ⟨c, e2, h1, h2, h3, h4, h5⟩ := hst.rep.block (row_some hrow) hi
            have hlen : ((cs.drop o).take (m * sz)).length = m * sz := by simp; omega
            have hvl : VL w ι per ((cs.drop o).take (m * sz)) ((List.range (m * sz)).map fun j => c.getD (o' + o + j) undef) := by
              refine ⟨by rw [hlen]; simp, fun i hi => ?_⟩
              have hi' : i < m * sz := by rw [hlen] at hi; exact hi
              rw [List.getElem_take, List.getElem_drop]
              have := h5 (o + i) (by omega)
              rw [← Nat.add_assoc] at this
              simpa [hi'] using this
            have h6 := ihL _ _ hvl
            refine .ps (b := b) (o := o' + o) (fun j => c.getD (o' + o + j) undef) (lt_of_get h3.1) (by rw [h6.1]; simp) hl (fun i hi => ?_) fun i hi => ?_
            · have hi' : i < m * sz := by rw [h6.1] at hi; simpa using hi
              rw [cell_of_blk h3.1]
              have : o' + o + i < c.size := by omega
              simp [this]
            · have hi' : i < m * sz := by rw [h6.1] at hi; simpa using hi
              have := h6.2 i hi
              simpa [hi'] using this
          · have h6 := ihL ((cs.drop o).take (0 * sz)) [] (by simpa using VL.nil)
            have h7 : snL (snap H k) ((cs.drop o).take (0 * sz)) = [] := List.eq_nil_of_length_eq_zero h6.1
            rw [h7]
            exact .psz
        · exact .dead v
      · exact .dead v
    | agg cs =>
      obtain ⟨vs, rfl, hvl⟩ := hv.agg_inv
      have h6 := ihL _ _ hvl
      exact .agg h6.1 h6.2
    | fn f cs =>
      cases hv with
      | fn hn hvv =>
        have h6 := ihL _ _ ⟨hn, hvv⟩
        exact .fnC h6.1 h6.2 (isUnd_snL _)
    | ptr h o =>
      simp only [snap]
      split
      · rename_i cs hrow
        obtain ⟨b, o', hi, rfl⟩ := hv.ptr_inv
        obtain ⟨c, e2, h1, h2, h3, h4, h5⟩ := hst.rep.block (row_some hrow) hi
        have hlen : (cs.drop o).length = cs.length - o := by simp
        have hvl : VL w ι per (cs.drop o) ((List.range (cs.length - o)).map fun j => c.getD (o' + o + j) undef) := by
          refine ⟨by rw [hlen]; simp, fun i hi => ?_⟩
          have hi' : i < cs.length - o := by rw [hlen] at hi; exact hi
          rw [List.getElem_drop]
          have := h5 (o + i) (by omega)
          rw [← Nat.add_assoc] at this
          simpa [hi'] using this
        have h6 := ihL _ _ hvl
        refine .pp (b := b) (o := o' + o) (fun j => c.getD (o' + o + j) undef) (lt_of_get h3.1) (fun i hi => ?_) fun i hi => ?_
        · have hi' : i < cs.length - o := by rw [h6.1] at hi; simpa using hi
          rw [cell_of_blk h3.1]
          have : o' + o + i < c.size := by omega
          simp [this]
        · have hi' : i < cs.length - o := by rw [h6.1] at hi; simpa using hi
          have := h6.2 i hi
          simpa [hi'] using this
      · exact .dead v
    | tup cs => exact .dead v
    | dead => exact .dead v
    | und => exact widen hv rfl
    | bool b => exact widen hv rfl
    | int k n => exact widen hv rfl
    | str s => exact widen hv rfl
    | nilp => exact widen hv rfl
    | yld l => exact widen hv rfl
    | pp cs => exact widen hv rfl
    | nils => exact widen hv rfl
    | ps sz m cs => exact widen hv rfl
    | nilf => exact widen hv rfl

/-- What is asked at a call. -/
def callK (P : Program) (f : Nat) (args : List LV) (H : Hp) (K : LV → Hp → Prop) : Prop :=
  callable P f = true ∧ ∀ (cx : Ctx) (N : Dim) (ι : Pl) (per : Nat → Prop) (F : Fr) (a : Act) (w : World) (vs : List Value), ST cx N ι per F H a w → VL w ι per args vs →
    Calls P f vs.toArray w fun e w' => ∃ v x H' ι' per', e = .returned v ∧ K x H' ∧ ST cx N ι' per' F H' a w' ∧ VR w' per' ι' x v ∧ Step per w w' ∧ (∀ b, per b → per' b) ∧ ∀ h, h < ι.length → ι'[h]? = ι[h]?

theorem callK.mono {P : Program} {f : Nat} {args : List LV} {H : Hp} {K K' : LV → Hp → Prop} (h : callK P f args H K) (hk : ∀ x H, K x H → K' x H) : callK P f args H K' :=
  ⟨h.1, fun cx N ι per F a w vs h1 h2 => (h.2 cx N ι per F a w vs h1 h2).mono fun e w' ⟨v, x, H', ι', per', g1, g2, g3⟩ => ⟨v, x, H', ι', per', g1, hk _ _ g2, g3⟩⟩

theorem call_sound (hst : ST cx N ι per F H a w) {f : Nat} {args : List LV} {vs : List Value} (hvl : VL w ι per args vs) {K : LV → Hp → Prop} (h : callK P f args H K) :
    callable P f = true ∧ Calls P f vs.toArray w fun e w' => ∃ v x H' ι' per', e = .returned v ∧ K x H' ∧ ST cx N ι' per' F H' a w' ∧ VR w' per' ι' x v :=
  ⟨h.1, (h.2 cx N ι per F a w vs hst hvl).mono fun e w' ⟨v, x, H', ι', per', g1, g2, g3, g4, _⟩ => ⟨v, x, H', ι', per', g1, g2, g3, g4⟩⟩

theorem Kept.below {w w' : World} (h : Kept (fun b => b < w.heap.size) w w') : Below w.heap.size w w' := ⟨h.os, h.tape, h.output, h.size, h.step.same⟩

theorem Rep.weaken {kp kp' : Nat → Prop} {w : World} (h : Rep kp w ι per H) (hk : ∀ b, kp' b → kp b) : Rep kp' w ι per H :=
  ⟨h.len, h.perlt, fun k cs hh => by
    rcases h.live k cs hh with h1 | ⟨b, o, c, e, h1, h2, h3⟩
    · exact .inl h1
    · exact .inr ⟨b, o, c, e, h1, fun hp => h2 (hk b hp), h3⟩, h.inj⟩

/-- The contract at all the rows of the caller's. -/
theorem callK.whole {f : Nat} {args : List LV} {K : LV → Hp → Prop} (h : LC P f args H K) : callK P f args H K := by
  refine ⟨h.1, fun cx N ι per F a w vs hst hvl => ?_⟩
  have hrep : Rep (fun b => cx.kp b ∨ per b) w ι per H := ⟨hst.rep.len, hst.rep.perlt, fun k cs hh => by
    rcases hst.rep.live k cs hh with h1 | ⟨b, o, c, e, h1, h2, h3, h4⟩
    · exact .inl h1
    · exact .inr ⟨b, o, c, e, h1, fun hp => hp.elim h2 h3, h3, h4⟩, hst.rep.inj⟩
  refine (h.2 _ per ι w vs hrep (fun b hb => hb.elim (hst.bs b) (hst.rep.perlt b)) (fun b hb => .inr hb) hvl).mono fun e w' ⟨v, res, H', ι', per', g1, g2, g3, g4, g5, g6, g7, g8⟩ => ?_
  have hk : Kept cx.kp w w' := g3.mono fun b hb => .inl hb
  have hs : Step per w w' := ⟨fun b hb => g3.step.same b (.inr hb), g3.step.room⟩
  refine ⟨v, res, H', ι', per', g1, g2, ⟨g4.weaken fun b hb => .inl hb, fun b hb => ?_, fun b hb => g7 b (hst.p2 b hb), fun t => ?_, hst.size, hst.defers.keep hk, hst.below.trans hk,
    fun b hb => Nat.lt_of_lt_of_le (hst.bs b hb) hk.size, hst.grow.1, fun h hh => ?_⟩, g5, hs, g7, g8⟩
  · rcases g6 b hb with h1 | h1
    · exact hst.p1 b h1
    · exact .inr fun hp => h1 (.inl hp)
  · refine (hst.fr t).step hs g7 fun h b hb => ?_
    have hl : h < ι.length := by
      rcases Nat.lt_or_ge h ι.length with h' | h'
      · exact h'
      · simp [List.getElem?_eq_none h'] at hb
    rw [g8 h hl]; exact hb
  · rw [g8 h (Nat.lt_of_lt_of_le hh hst.mle)]
    exact hst.grow.2 h hh

/-- The numbers of the caller's rows for those of the callee's: the first are handed over, the others are new. -/
def gOf (ρ : List Nat) (n : Nat) (j : Nat) : Nat := match ρ[j]? with
  | some h => h
  | none => n + (j - ρ.length)

def setRows : Hp → List Nat → Hp → Hp
  | H, [], _ => H
  | H, h :: r, x :: xs => setRows (H.set h x) r xs
  | H, h :: r, [] => setRows (H.set h none) r []

def renR (g : Nat → Nat) : Option (List LV) → Option (List LV)
  | none => none
  | some cs => some (renL g cs)

theorem setRows_length : ∀ (ρ : List Nat) (H X : Hp), (setRows H ρ X).length = H.length := by
  intro ρ
  induction ρ with
  | nil => intro H X; rfl
  | cons h r ih => intro H X; cases X <;> simp [setRows, ih]

theorem setRows_other : ∀ (ρ : List Nat) (H X : Hp) (k : Nat), k ∉ ρ → (setRows H ρ X)[k]? = H[k]? := by
  intro ρ
  induction ρ with
  | nil => intro H X k _; rfl
  | cons h r ih =>
    intro H X k hk
    simp only [List.mem_cons, not_or] at hk
    cases X <;> simp only [setRows] <;> rw [ih _ _ _ hk.2, List.getElem?_set_ne (fun e => hk.1 e.symm)]

theorem setRows_at : ∀ (ρ : List Nat) (H X : Hp) (j h : Nat), ρ.Nodup → ρ[j]? = some h → h < H.length → (setRows H ρ X)[h]? = some ((X[j]?).getD none) := by
  intro ρ
  induction ρ with
  | nil => intro H X j h _ hj; simp at hj
  | cons k r ih =>
    intro H X j h hn hj hl
    have hn' := List.nodup_cons.1 hn
    cases j with
    | zero =>
      simp only [List.getElem?_cons_zero, Option.some.injEq] at hj
      subst hj
      cases X with
      | nil => simp only [setRows]; rw [setRows_other _ _ _ _ hn'.1]; simp [hl]
      | cons x xs => simp only [setRows]; rw [setRows_other _ _ _ _ hn'.1]; simp [hl]
    | succ j =>
      simp only [List.getElem?_cons_succ] at hj
      cases X with
      | nil => simp only [setRows]; rw [ih _ _ j h hn'.2 hj (by simpa using hl)]; simp
      | cons x xs => simp only [setRows]; rw [ih _ _ j h hn'.2 hj (by simpa using hl)]; simp

/-- Rows are handed over: number j of the callee's is number ρ j of the caller's. -/
theorem callK.hand {f : Nat} {args0 : List LV} {H0 : Hp} {K : LV → Hp → Prop} (ρ : List Nat) (hn : ρ.Nodup) (hlt : ∀ h ∈ ρ, h < H.length) (hlen : H0.length = ρ.length)
    (hrows : ∀ (j h : Nat) (cs : List LV), ρ[j]? = some h → H0[j]? = some (some cs) → H[h]? = some (some (renL (gOf ρ H.length) cs)))
    (h : LC P f args0 H0 fun x H1 => K (ren (gOf ρ H.length) x) (setRows H ρ ((H1.take ρ.length).map (renR (gOf ρ H.length))) ++ (H1.drop ρ.length).map (renR (gOf ρ H.length)))) :
    callK P f (args0.map (ren (gOf ρ H.length))) H K := by
  refine ⟨h.1, fun cx N ι per F a w vs hst hvl => ?_⟩
  obtain ⟨g, hg⟩ : ∃ g, g = gOf ρ H.length := ⟨_, rfl⟩
  rw [← hg] at hrows h hvl
  have g_lt : ∀ (j h : Nat), ρ[j]? = some h → g j = h := fun j h hj => by rw [hg, gOf, hj]
  have g_ge : ∀ j, ρ.length ≤ j → g j = H.length + (j - ρ.length) := fun j hj => by rw [hg, gOf, List.getElem?_eq_none hj]
  let ιc : Pl := ρ.map fun h => (ι[h]?).getD none
  have hιc : ∀ (j h : Nat), ρ[j]? = some h → ιc[j]? = some ((ι[h]?).getD none) := fun j h hj => by simp [ιc, hj]
  have hιcl : ιc.length = ρ.length := by simp [ιc]
  have back : ∀ (j : Nat) (b : Nat × Nat), ι[g j]? = some (some b) → ιc[j]? = some (some b) := by
    intro j b hb
    rcases Nat.lt_or_ge j ρ.length with hj | hj
    · have e := List.getElem?_eq_getElem hj
      rw [g_lt j _ e] at hb
      rw [hιc j _ e, hb]; rfl
    · rw [g_ge j hj, List.getElem?_eq_none (by rw [hst.rep.len]; omega)] at hb
      cases hb
  have pl : ∀ (j : Nat) (b : Nat × Nat), ιc[j]? = some (some b) → ∃ h, ρ[j]? = some h ∧ ι[h]? = some (some b) := by
    intro j b hb
    rcases Nat.lt_or_ge j ρ.length with hj | hj
    · have e := List.getElem?_eq_getElem hj
      rw [hιc j _ e] at hb
      refine ⟨_, e, ?_⟩
      cases hx : ι[ρ[j]]? with
      | none => rw [hx] at hb; simp at hb
      | some y => rw [hx] at hb; simpa using hb
    · rw [List.getElem?_eq_none (by rw [hιcl]; exact hj)] at hb; cases hb
  let kp : Nat → Prop := fun b => b < w.heap.size ∧ ∀ (j o : Nat), ∀ cs, H0[j]? = some (some cs) → ιc[j]? ≠ some (some (b, o))
  have hrep : Rep kp w ιc per H0 := by
    refine ⟨by rw [hιcl, hlen], hst.rep.perlt, fun j cs hj => ?_, fun j j' cs cs' b o b' o' hj hj' hi hi' hbb => ?_⟩
    · have hjl : j < ρ.length := by rw [← hlen]; exact lt_row hj
      have e := List.getElem?_eq_getElem hjl
      rcases hst.rep.live _ _ (hrows j _ cs e hj) with ⟨h2, h3⟩ | ⟨b, o, c, e2, h2, h3, h4, h5, h6, h7⟩
      · refine .inl ⟨by rw [hιc j _ e, h2]; rfl, ?_⟩
        rw [renL_eq] at h3
        exact List.map_eq_nil_iff.1 h3
      · have hi : ιc[j]? = some (some (b, o)) := by rw [hιc j _ e, h2]; rfl
        refine .inr ⟨b, o, c, e2, hi, fun hk => hk.2 j o cs hj hi, h4, h5, by simpa [renL_eq] using h6, fun i hi => ?_⟩
        have := h7 i (by simpa [renL_eq] using hi)
        exact this.unren back (by simp [renL_eq])
    · obtain ⟨h1, e1, q1⟩ := pl _ _ hi
      obtain ⟨h2, e2, q2⟩ := pl _ _ hi'
      have := hst.rep.inj h1 h2 _ _ b o b' o' (hrows j h1 cs e1 hj) (hrows j' h2 cs' e2 hj') q1 q2 hbb
      subst this
      obtain ⟨l1, r1⟩ := List.getElem?_eq_some_iff.1 e1
      obtain ⟨l2, r2⟩ := List.getElem?_eq_some_iff.1 e2
      rcases Nat.lt_trichotomy j j' with hlt' | hlt' | hlt'
      · exact absurd (r1.trans r2.symm) (List.pairwise_iff_getElem.1 hn j j' l1 l2 hlt')
      · exact hlt'
      · exact absurd (r2.trans r1.symm) (List.pairwise_iff_getElem.1 hn j' j l2 l1 hlt')
  have perk : ∀ b, per b → kp b := fun b hb => ⟨hst.rep.perlt b hb, fun j o cs hj hi => by
    obtain ⟨h1, e1, q1⟩ := pl _ _ hi
    obtain ⟨c, e, _, k1, _⟩ := hst.rep.block (hrows j h1 cs e1 hj) q1
    exact k1 hb⟩
  have cxk : ∀ b, cx.kp b → kp b := fun b hb => ⟨hst.bs b hb, fun j o cs hj hi => by
    obtain ⟨h1, e1, q1⟩ := pl _ _ hi
    obtain ⟨c, e, k0, _⟩ := hst.rep.block (hrows j h1 cs e1 hj) q1
    exact k0 hb⟩
  have hargs : VL w ιc per args0 vs := ⟨by simpa using hvl.1, fun i hi => by
    have := hvl.2 i (by simpa using hi)
    exact this.unren back (by simp)⟩
  refine (h.2 kp per ιc w vs hrep (fun b hb => hb.1) perk hargs).mono fun e w' ⟨v, res, H1, ι1, per', q1, q2, q3, q4, q5, q6, q7, q8⟩ => ?_
  have hk : Kept cx.kp w w' := q3.mono cxk
  have hs : Step per w w' := ⟨fun b hb => q3.step.same b (perk b hb), q3.step.room⟩
  let ι2 : Pl := ι ++ ι1.drop ρ.length
  have oldι : ∀ (h : Nat) (x : Option (Nat × Nat)), ι[h]? = some x → ι2[h]? = some x := fun h x hx => by
    have hl : h < ι.length := by
      rcases Nat.lt_or_ge h ι.length with h' | h'
      · exact h'
      · simp [List.getElem?_eq_none h'] at hx
    simp only [ι2]; rw [List.getElem?_append_left hl]; exact hx
  have newι : ∀ j, ρ.length ≤ j → ι2[g j]? = ι1[j]? := fun j hj => by
    simp only [ι2]
    rw [g_ge j hj, ← hst.rep.len, List.getElem?_append_right (by omega), List.getElem?_drop]
    congr 1; omega
  have fwd : ∀ (j : Nat) (b : Nat × Nat), ι1[j]? = some (some b) → ι2[g j]? = some (some b) := by
    intro j b hb
    rcases Nat.lt_or_ge j ρ.length with hj | hj
    · rw [q8 j (by rw [hιcl]; exact hj)] at hb
      obtain ⟨h1, e1, r1⟩ := pl _ _ hb
      rw [g_lt j h1 e1]
      exact oldι _ _ r1
    · rw [newι j hj]; exact hb
  have hl1 : ρ.length ≤ H1.length := by
    rw [← q4.len]
    rcases Nat.lt_or_ge ι1.length ρ.length with h' | h'
    · have := q8 ι1.length (by rw [hιcl]; exact h')
      rw [List.getElem?_eq_none (Nat.le_refl _), List.getElem?_eq_getElem (by rw [hιcl]; exact h')] at this
      cases this
    · exact h'
  obtain ⟨H2, hH2⟩ : ∃ H2, H2 = setRows H ρ ((H1.take ρ.length).map (renR g)) ++ (H1.drop ρ.length).map (renR g) := ⟨_, rfl⟩
  replace q2 : K (ren g res) H2 := by rw [hH2]; exact q2
  have cases_row : ∀ (k : Nat) (ds : List LV), H2[k]? = some (some ds) →
      (k < H.length ∧ k ∉ ρ ∧ H[k]? = some (some ds)) ∨ ∃ j d, g j = k ∧ H1[j]? = some (some d) ∧ ds = renL g d := by
    intro k ds hk
    rw [hH2] at hk
    rcases Nat.lt_or_ge k H.length with hkl | hkl
    · rw [List.getElem?_append_left (by rw [setRows_length]; exact hkl)] at hk
      by_cases hm : k ∈ ρ
      · obtain ⟨j, hjl, hj⟩ := List.getElem_of_mem hm
        have e : ρ[j]? = some k := by rw [List.getElem?_eq_getElem hjl, hj]
        rw [setRows_at ρ H _ j k hn e hkl] at hk
        simp only [Option.some.injEq, List.getElem?_map, List.getElem?_take, hjl, if_true] at hk
        cases hx : H1[j]? with
        | none => rw [hx] at hk; cases hk
        | some y =>
          rw [hx] at hk
          cases y with
          | none => cases hk
          | some d => exact .inr ⟨j, d, g_lt j k e, hx, (Option.some.inj hk).symm⟩
      · rw [setRows_other _ _ _ _ hm] at hk
        exact .inl ⟨hkl, hm, hk⟩
    · rw [List.getElem?_append_right (by rw [setRows_length]; exact hkl), setRows_length, List.getElem?_map, List.getElem?_drop] at hk
      cases hx : H1[ρ.length + (k - H.length)]? with
      | none => rw [hx] at hk; cases hk
      | some y =>
        rw [hx] at hk
        cases y with
        | none => cases hk
        | some d => exact .inr ⟨_, d, by rw [g_ge _ (by omega)]; omega, hx, (Option.some.inj (Option.some.inj hk)).symm⟩
  have place : ∀ (j : Nat) (d : List LV) (b o : Nat), H1[j]? = some (some d) → ι2[g j]? = some (some (b, o)) → ι1[j]? = some (some (b, o)) := by
    intro j d b o hj hb
    rcases Nat.lt_or_ge j ρ.length with hjl | hjl
    · have e := List.getElem?_eq_getElem hjl
      rw [g_lt j _ e] at hb
      have : ι[ρ[j]]? = some (some (b, o)) := by
        have hl : ρ[j] < ι.length := by rw [hst.rep.len]; exact hlt _ (List.getElem_mem hjl)
        simp only [ι2] at hb
        rwa [List.getElem?_append_left hl] at hb
      rw [q8 j (by rw [hιcl]; exact hjl), hιc j _ e, this]; rfl
    · rw [newι j hjl] at hb; exact hb
  have other : ∀ (k : Nat) (ds : List LV) (b o : Nat), k ∉ ρ → H[k]? = some (some ds) → ι[k]? = some (some (b, o)) → kp b := by
    intro k ds b o hk hh hi
    obtain ⟨c, e, k0, k1, k2, _⟩ := hst.rep.block hh hi
    refine ⟨lt_of_get k2.1, fun j o' cs hj hij => ?_⟩
    obtain ⟨h1, e1, r1⟩ := pl _ _ hij
    have := hst.rep.inj k h1 _ _ b o b o' hh (hrows j h1 cs e1 hj) hi r1 rfl
    subst this
    exact hk (List.mem_of_getElem? e1)
  refine ⟨v, _, H2, ι2, per', q1, q2, ⟨⟨?_, q4.perlt, fun k ds hk => ?_, fun k k' ds ds' b o b' o' hk hk' hi hi' hbb => ?_⟩, fun b hb => ?_, fun b hb => q7 b (hst.p2 b hb), fun t => ?_, hst.size, hst.defers.keep hk, hst.below.trans hk,
    fun b hb => Nat.lt_of_lt_of_le (hst.bs b hb) hk.size, hst.grow_push _⟩, q5.ren fwd, hs, q7, fun h hh => List.getElem?_append_left hh⟩
  · rw [hH2]
    simp only [ι2, List.length_append, List.length_drop, List.length_map, setRows_length]
    rw [hst.rep.len, q4.len]
  · rcases cases_row k ds hk with ⟨hkl, hm, hh⟩ | ⟨j, d, rfl, hj, rfl⟩
    · rcases hst.rep.live k ds hh with ⟨h2, h3⟩ | ⟨b, o, c, e2, h2, h3, h4, h5, h6, h7⟩
      · exact .inl ⟨oldι _ _ h2, h3⟩
      · have hkb := other k ds b o hm hh h2
        refine .inr ⟨b, o, c, e2, oldι _ _ h2, h3, fun hp => ?_, h5.get (q3.step.same b hkb), h6, fun i hi => (h7 i hi).step hs q7 fun h x hx => oldι _ _ hx⟩
        rcases q6 b hp with h | h
        · exact h4 h
        · exact h hkb
    · rcases q4.live j d hj with ⟨h2, h3⟩ | ⟨b, o, c, e2, h2, h3, h4, h5, h6, h7⟩
      · subst h3
        refine .inl ⟨?_, rfl⟩
        rcases Nat.lt_or_ge j ρ.length with hjl | hjl
        · have e := List.getElem?_eq_getElem hjl
          rw [q8 j (by rw [hιcl]; exact hjl), hιc j _ e] at h2
          have hl : ρ[j] < ι.length := by rw [hst.rep.len]; exact hlt _ (List.getElem_mem hjl)
          rw [g_lt j _ e]
          simp only [ι2]
          rw [List.getElem?_append_left hl, List.getElem?_eq_getElem hl]
          rw [List.getElem?_eq_getElem hl] at h2
          simpa using h2
        · rw [newι j hjl]; exact h2
      · refine .inr ⟨b, o, c, e2, fwd _ _ h2, fun hp => h3 (cxk b hp), h4, h5, by simpa [renL_eq] using h6, fun i hi => ?_⟩
        have := h7 i (by simpa [renL_eq] using hi)
        simp only [renL_eq, List.getElem_map]
        exact this.ren fwd
  · rcases cases_row k ds hk with ⟨hkl, hm, hh⟩ | ⟨j, d, rfl, hj, rfl⟩ <;> rcases cases_row k' ds' hk' with ⟨hkl', hm', hh'⟩ | ⟨j', d', rfl, hj', rfl⟩
    · have o1 : ι[k]? = some (some (b, o)) := by
        simp only [ι2] at hi; rwa [List.getElem?_append_left (by rw [hst.rep.len]; exact hkl)] at hi
      have o2 : ι[k']? = some (some (b', o')) := by
        simp only [ι2] at hi'; rwa [List.getElem?_append_left (by rw [hst.rep.len]; exact hkl')] at hi'
      exact hst.rep.inj k k' ds ds' b o b' o' hh hh' o1 o2 hbb
    · have o1 : ι[k]? = some (some (b, o)) := by
        simp only [ι2] at hi; rwa [List.getElem?_append_left (by rw [hst.rep.len]; exact hkl)] at hi
      obtain ⟨c2, e2, k2, _⟩ := q4.block hj' (place _ _ _ _ hj' hi')
      subst hbb
      exact absurd (other k ds b o hm hh o1) k2
    · have o2 : ι[k']? = some (some (b', o')) := by
        simp only [ι2] at hi'; rwa [List.getElem?_append_left (by rw [hst.rep.len]; exact hkl')] at hi'
      obtain ⟨c2, e2, k2, _⟩ := q4.block hj (place _ _ _ _ hj hi)
      subst hbb
      exact absurd (other k' ds' b o' hm' hh' o2) k2
    · rw [q4.inj j j' d d' b o b' o' hj hj' (place _ _ _ _ hj hi) (place _ _ _ _ hj' hi') hbb]
  · rcases q6 b hb with h | h
    · exact hst.p1 b h
    · exact .inr fun hp => h (cxk b hp)
  · exact (hst.fr t).step hs q7 fun h x hx => oldι _ _ hx

/-- The arguments hold no rows. -/
theorem callK.bare {f : Nat} {args : List LV} {K : LV → Hp → Prop} (hf : hfreeL args = true) (h : LC P f args [] fun x H1 => K (ren (H.length + ·) x) (H ++ H1.map (renR (H.length + ·)))) : callK P f args H K := by
  have e1 : gOf [] H.length = (H.length + ·) := by funext j; simp [gOf]
  have e2 : args.map (ren (gOf [] H.length)) = args := by
    have key : ∀ (n : Nat) (g : Nat → Nat) (x : LV), SizeOf.sizeOf x < n → hfree x = true → ren g x = x := by
      intro n
      induction n with
      | zero => intro g x h; omega
      | succ n ih =>
        intro g x hs hx
        have keyL : ∀ (cs : List LV), SizeOf.sizeOf cs < n → hfreeL cs = true → renL g cs = cs := by
          intro cs hcs hf
          rw [renL_eq]
          have : ∀ c ∈ cs, ren g c = c := fun c hc => by
            obtain ⟨i, hi, rfl⟩ := List.getElem_of_mem hc
            have := List.sizeOf_lt_of_mem hc
            exact ih g _ (by omega) (hfreeL_get hf i hi)
          rw [List.map_congr_left this]; simp
        cases x <;> simp only [hfree, reduceCtorEq] at hx <;> simp only [ren]
        · rw [keyL _ (by simp at hs; omega) hx]
        · rw [keyL _ (by simp at hs; omega) hx]
        · rw [keyL _ (by simp at hs; omega) hx]
    have : ∀ c ∈ args, ren (gOf [] H.length) c = c := fun c hc => by
      obtain ⟨i, hi, rfl⟩ := List.getElem_of_mem hc
      exact key _ _ _ (Nat.lt_succ_self _) (hfreeL_get hf i hi)
    rw [List.map_congr_left this]; simp
  have := callK.hand (P := P) (H := H) (f := f) (args0 := args) (H0 := []) (K := K) [] List.nodup_nil (by simp) rfl (by simp) (by rw [e1]; simpa [setRows] using h)
  rwa [e2] at this

/-- What the callee reads of the caller's rows is shown to it as plain values. -/
theorem callK.snap {f : Nat} {args : List LV} {K : LV → Hp → Prop} (h : LC P f (args.map (snap H 3)) [] fun x H1 => psfree x = true ∧ psfreeH H1 = true ∧ K (ren (H.length + ·) x) (H ++ H1.map (renR (H.length + ·)))) : callK P f args H K := by
  refine ⟨h.1, fun cx N ι per F a w vs hst hvl => ?_⟩
  have hsn := snap_sound hst 3
  refine (h.2 (fun b => b < w.heap.size) (allOf w) [] w vs (Rep.nil _ _ _ fun b hb => hb) (fun b hb => hb) (fun b hb => hb) ⟨by simp [hvl.1], fun i hi => by rw [List.getElem_map]; exact hsn _ _ (hvl.2 i (by simpa using hi))⟩).mono
    fun e w' ⟨v, res, H1, ι1, per', q1, ⟨p1, p2, q2⟩, q3, q4, q5, q6, q7, q8⟩ => ?_
  have hk : Kept cx.kp w w' := q3.mono fun b hb => hst.bs b hb
  have hs : Step per w w' := ⟨fun b hb => q3.step.same b (hst.rep.perlt b hb), q3.step.room⟩
  have hιl : ι.length = H.length := hst.rep.len
  have oldι : ∀ (h : Nat) (x : Option (Nat × Nat)), ι[h]? = some x → (ι ++ ι1)[h]? = some x := fun h x hx => by
    have hl : h < ι.length := by
      rcases Nat.lt_or_ge h ι.length with h' | h'
      · exact h'
      · simp [List.getElem?_eq_none h'] at hx
    rw [List.getElem?_append_left hl]; exact hx
  have newι : ∀ j, (ι ++ ι1)[H.length + j]? = ι1[j]? := fun j => by
    rw [← hιl, List.getElem?_append_right (by omega)]; congr 1; omega
  have cases_row : ∀ (k : Nat) (ds : List LV), (H ++ H1.map (renR (H.length + ·)))[k]? = some (some ds) → (k < H.length ∧ H[k]? = some (some ds)) ∨ ∃ j d, k = H.length + j ∧ H1[j]? = some (some d) ∧ ds = renL (H.length + ·) d := by
    intro k ds hk
    rcases Nat.lt_or_ge k H.length with hkl | hkl
    · rw [List.getElem?_append_left hkl] at hk; exact .inl ⟨hkl, hk⟩
    · rw [List.getElem?_append_right hkl, List.getElem?_map] at hk
      cases hx : H1[k - H.length]? with
      | none => rw [hx] at hk; cases hk
      | some y =>
        rw [hx] at hk
        cases y with
        | none => cases hk
        | some d => exact .inr ⟨_, d, by omega, hx, (Option.some.inj (Option.some.inj hk)).symm⟩
  have fwd : ∀ (j : Nat) (b : Nat × Nat), ι1[j]? = some (some b) → (ι ++ ι1)[H.length + j]? = some (some b) := fun j b hb => by rw [newι]; exact hb
  have inold : ∀ (k : Nat) (b : Option (Nat × Nat)), k < H.length → (ι ++ ι1)[k]? = some b → ι[k]? = some b := fun k b hk hb => by
    rwa [List.getElem?_append_left (by rw [hιl]; exact hk)] at hb
  refine ⟨v, _, _, ι ++ ι1, per, q1, q2, ⟨⟨by simp [hιl, q4.len], fun b hb => Nat.lt_of_lt_of_le (hst.rep.perlt b hb) q3.size, fun k ds hk => ?_, fun k k' ds ds' b o b' o' hk hk' hi hi' hbb => ?_⟩, hst.p1, hst.p2, fun t => (hst.fr t).step hs (fun _ h => h) fun h x hx => oldι _ _ hx,
    hst.size, hst.defers.keep hk, hst.below.trans hk, fun b hb => Nat.lt_of_lt_of_le (hst.bs b hb) hk.size, hst.grow_push _⟩, (q5.psfree p1).ren fwd, hs, fun _ h => h, fun h hh => List.getElem?_append_left hh⟩
  · rcases cases_row k ds hk with ⟨hkl, hh⟩ | ⟨j, d, rfl, hj, rfl⟩
    · rcases hst.rep.live k ds hh with ⟨h2, h3⟩ | ⟨b, o, c, e2, h2, h3, h4, h5, h6, h7⟩
      · exact .inl ⟨oldι _ _ h2, h3⟩
      · exact .inr ⟨b, o, c, e2, oldι _ _ h2, h3, h4, h5.get (q3.step.same b (lt_of_get h5.1)), h6, fun i hi => (h7 i hi).step hs (fun _ h => h) fun h x hx => oldι _ _ hx⟩
    · rcases q4.live j d hj with ⟨h2, h3⟩ | ⟨b, o, c, e2, h2, h3, h4, h5, h6, h7⟩
      · subst h3
        exact .inl ⟨by rw [newι]; exact h2, rfl⟩
      · refine .inr ⟨b, o, c, e2, fwd _ _ h2, fun hp => h3 (hst.bs b hp), fun hp => h3 (hst.rep.perlt b hp), h5, by simpa [renL_eq] using h6, fun i hi => ?_⟩
        have h8 := h7 i (by simpa [renL_eq] using hi)
        simp only [renL_eq, List.getElem_map]
        exact (h8.psfree (psfreeL_get (psfreeH_get p2 hj) i (by simpa [renL_eq] using hi))).ren fwd
  · rcases cases_row k ds hk with ⟨hkl, hh⟩ | ⟨j, d, rfl, hj, rfl⟩ <;> rcases cases_row k' ds' hk' with ⟨hkl', hh'⟩ | ⟨j', d', rfl, hj', rfl⟩
    · exact hst.rep.inj k k' ds ds' b o b' o' hh hh' (inold _ _ hkl hi) (inold _ _ hkl' hi') hbb
    · obtain ⟨c1, e1, _, _, g3, _⟩ := hst.rep.block hh (inold _ _ hkl hi)
      rw [newι] at hi'
      obtain ⟨c2, e2, g1, _⟩ := q4.block hj' hi'
      subst hbb
      exact absurd (lt_of_get g3.1) g1
    · obtain ⟨c1, e1, _, _, g3, _⟩ := hst.rep.block hh' (inold _ _ hkl' hi')
      rw [newι] at hi
      obtain ⟨c2, e2, g1, _⟩ := q4.block hj hi
      subst hbb
      exact absurd (lt_of_get g3.1) g1
    · rw [newι] at hi hi'
      rw [q4.inj j j' d d' b o b' o' hj hj' hi hi' hbb]

end
end Go.Lite
