/- Lite, parts A to F: plain values, operations on them, and what they stand for. -/
import Derived.Calls
import Derived.Tactics
import Derived.Tactics2
import Derived.Below
import Derived.Deep.Quiet
import Derived.Laws.World
import Derived.Laws.Sem
import Derived.WalkKit
set_option linter.unusedVariables false
set_option linter.unusedSimpArgs false

/- Lite, part A: plain values, the relation to the model's values, the state, and the rules of control. -/
namespace Go.Lite
open Go Go.RowKit

/-- A value as a reader sees it: what a slice holds stands in it (ps), or lies in a numbered row of the call's own (sl, ptr). -/
inductive LV where
  | dead
  | und
  | bool (b : Bool)
  | int (k : IntKind) (n : Int)
  | str (s : ByteArray)
  | nilp
  | ptr (h off : Nat)
  | pp (cs : List LV)
  | nils
  | sl (sz h off len : Nat)
  | ps (sz len : Nat) (cs : List LV)
  | nilf
  | fn (f : Nat) (cap : List LV)
  | agg (cs : List LV)
  | tup (cs : List LV)

instance : Inhabited LV := ⟨.dead⟩

abbrev Hp := List (Option (List LV))
abbrev Fr := List (Nat × LV)
abbrev Pl := List (Option (Nat × Nat))

def fget : Fr → Nat → LV
  | [], _ => .dead
  | (s, v) :: r, t => cond (Nat.beq s t) v (fget r t)

/-- The newest comes first. -/
def fset (F : Fr) (t : Nat) (v : LV) : Fr := (t, v) :: F

theorem fget_cons (s : Nat) (v : LV) (r : Fr) (t : Nat) : fget ((s, v) :: r) t = if s = t then v else fget r t := by
  simp only [fget]
  by_cases h : s = t
  · subst h; simp
  · have : Nat.beq s t = false := by
      rw [← Bool.not_eq_true]; intro h2; exact h (Nat.eq_of_beq_eq_true h2)
    rw [this, if_neg h]; rfl

theorem fget_fset (F : Fr) (t u : Nat) (v : LV) : fget (fset F t v) u = if t = u then v else fget F u := fget_cons t v F u

/-- There is room in block b up to cell n. -/
def Room (w : World) (b n : Nat) : Prop := ∃ c e fz, w.heap[b]? = some (.cells c e fz) ∧ n ≤ c.size

inductive VR (w : World) (per : Nat → Prop) : Pl → LV → Value → Prop where
  | dead {ι : Pl} (v : Value) : VR w per ι .dead v
  | und {ι : Pl} : VR w per ι .und undef
  | bool {ι : Pl} (b : Bool) : VR w per ι (.bool b) (.bool b)
  | int {ι : Pl} (k : IntKind) (n : Int) : VR w per ι (.int k n) (.int k n)
  | str {ι : Pl} (s : ByteArray) : VR w per ι (.str s) (.string s)
  | nilp {ι : Pl} : VR w per ι .nilp (.pointer none)
  | ptr {ι : Pl} {h off b o : Nat} (hi : ι[h]? = some (some (b, o))) : VR w per ι (.ptr h off) (.pointer (some ⟨b, o + off, none⟩))
  | pp {ι : Pl} {cs : List LV} {b o : Nat} (vs : Nat → Value) (hp : per b)
      (hc : ∀ i, i < cs.length → w.cell? ⟨b, o + i, none⟩ = some (vs i)) (hv : ∀ i (h : i < cs.length), VR w per [] cs[i] (vs i)) :
      VR w per ι (.pp cs) (.pointer (some ⟨b, o, none⟩))
  | nils {ι : Pl} : VR w per ι .nils (.slice none 0 0)
  | sl {ι : Pl} {sz h off len b o cap : Nat} (hi : ι[h]? = some (some (b, o))) (hl : len ≤ cap) (hr : Room w b (o + off + cap * sz)) :
      VR w per ι (.sl sz h off len) (.slice (some ⟨b, o + off, none⟩) len cap)
  | slz {ι : Pl} {sz h off : Nat} {a : Option Addr} : VR w per ι (.sl sz h off 0) (.slice a 0 0)
  | psz {ι : Pl} {sz cap : Nat} {a : Option Addr} : VR w per ι (.ps sz 0 []) (.slice a 0 cap)
  | ps {ι : Pl} {sz len : Nat} {cs : List LV} {b o cap : Nat} (vs : Nat → Value) (hp : per b) (hn : cs.length = len * sz) (hl : len ≤ cap)
      (hc : ∀ i, i < cs.length → w.cell? ⟨b, o + i, none⟩ = some (vs i)) (hv : ∀ i (h : i < cs.length), VR w per [] cs[i] (vs i)) :
      VR w per ι (.ps sz len cs) (.slice (some ⟨b, o, none⟩) len cap)
  | nilf {ι : Pl} : VR w per ι .nilf .nilFunc
  | fn {ι : Pl} {f : Nat} {cap : List LV} {vs : List Value} (hn : cap.length = vs.length) (hv : ∀ i (h : i < cap.length), VR w per ι cap[i] (vs.getD i undef)) :
      VR w per ι (.fn f cap) (.func (.func f) #[] vs.toArray)
  | agg {ι : Pl} {cs : List LV} {vs : List Value} (hn : cs.length = vs.length) (hv : ∀ i (h : i < cs.length), VR w per ι cs[i] (vs.getD i undef)) :
      VR w per ι (.agg cs) (.agg vs.toArray)
  | tup {ι : Pl} {cs : List LV} {vs : List Value} (hn : cs.length = vs.length) (hv : ∀ i (h : i < cs.length), VR w per ι cs[i] (vs.getD i undef)) :
      VR w per ι (.tup cs) (.tuple vs.toArray)

/-- From w to w' only blocks outside per have turned, and no block has changed its size. -/
structure Step (per : Nat → Prop) (w w' : World) : Prop where
  same : ∀ b, per b → w'.heap[b]? = w.heap[b]?
  room : ∀ b n, Room w b n → Room w' b n

theorem Step.refl (per : Nat → Prop) (w : World) : Step per w w := ⟨fun _ _ => rfl, fun _ _ h => h⟩
theorem Step.trans {per : Nat → Prop} {a b c : World} (h : Step per a b) (k : Step per b c) : Step per a c :=
  ⟨fun x hx => (k.same x hx).trans (h.same x hx), fun x n r => k.room x n (h.room x n r)⟩

theorem VR.step {w w' : World} {per per' : Nat → Prop} (hs : Step per w w') (hp : ∀ b, per b → per' b) {ι : Pl} {x : LV} {v : Value} (h : VR w per ι x v) :
    ∀ {ι' : Pl}, (∀ (h : Nat) (b : Nat × Nat), ι[h]? = some (some b) → ι'[h]? = some (some b)) → VR w' per' ι' x v := by
  induction h with
  | dead v => intro ι' _; exact .dead v
  | und => intro ι' _; exact .und
  | bool b => intro ι' _; exact .bool b
  | int k n => intro ι' _; exact .int k n
  | str s => intro ι' _; exact .str s
  | nilp => intro ι' _; exact .nilp
  | ptr h => intro ι' hi; exact .ptr (hi _ _ h)
  | @pp _ cs b o vs hpb hc hv ih =>
    intro ι' _
    refine .pp vs (hp _ hpb) (fun i h => ?_) fun i h => ih i h (fun _ _ h => h)
    rw [← hc i h]; exact World.cell?_of_block (hs.same b hpb)
  | nils => intro ι' _; exact .nils
  | sl h1 h2 h3 => intro ι' hi; exact .sl (hi _ _ h1) h2 (hs.room _ _ h3)
  | slz => intro ι' _; exact .slz
  | psz => intro ι' _; exact .psz
  | @ps _ sz len cs b o cap vs hpb hn hl hc hv ih =>
    intro ι' _
    refine .ps vs (hp _ hpb) hn hl (fun i h => ?_) fun i h => ih i h (fun _ _ h => h)
    rw [← hc i h]; exact World.cell?_of_block (hs.same b hpb)
  | nilf => intro ι' _; exact .nilf
  | fn hn hv ih => intro ι' hi; exact .fn hn fun i h => ih i h hi
  | agg hn hv ih => intro ι' hi; exact .agg hn fun i h => ih i h hi
  | tup hn hv ih => intro ι' hi; exact .tup hn fun i h => ih i h hi

/-- The rows of the call's own, and where they lie. -/
structure Rep (base : Nat) (w : World) (ι : Pl) (per : Nat → Prop) (H : Hp) : Prop where
  len : ι.length = H.length
  perlt : ∀ b, per b → b < w.heap.size
  live : ∀ (h : Nat) (cs : List LV), H[h]? = some (some cs) → (ι[h]? = some none ∧ cs = []) ∨
    ∃ b o c e, ι[h]? = some (some (b, o)) ∧ base ≤ b ∧ ¬ per b ∧ w.heap[b]? = some (.cells c e (0, 0)) ∧ o + cs.length ≤ c.size ∧
      ∀ i (hi : i < cs.length), VR w per ι cs[i] (c.getD (o + i) undef)
  inj : ∀ (h h' : Nat) (cs cs' : List LV) (b o b' o' : Nat), H[h]? = some (some cs) → H[h']? = some (some cs') → ι[h]? = some (some (b, o)) → ι[h']? = some (some (b', o')) → b = b' → h = h'

theorem Rep.nil (base : Nat) (w : World) (per : Nat → Prop) (hp : ∀ b, per b → b < w.heap.size) : Rep base w [] per [] :=
  ⟨rfl, hp, fun h cs hh => by simp at hh, fun h h' cs cs' b o b' o' hh => by simp at hh⟩

/-- The state: frame and rows F, H stand for the slots and the world. -/
def SR (base : Nat) (per0 : Nat → Prop) (w0 : World) (N : Nat) (F : Fr) (H : Hp) (a : Act) (w : World) : Prop :=
  ∃ ι per, Rep base w ι per H ∧ (∀ b, per b → per0 b ∨ base ≤ b) ∧ (∀ b, per0 b → per b) ∧ (∀ t, VR w per ι (fget F t) (a.tmps.getD t undef)) ∧
    a.tmps.size = N ∧ a.defers = [] ∧ Below base w0 w ∧ base ≤ w.heap.size

abbrev LPost := Exit → Fr → Hp → Prop

def LQ (Q : LPost) (base : Nat) (per0 : Nat → Prop) (w0 : World) (N : Nat) (e : Exit) (a : Act) (w : World) : Prop :=
  ∃ F H, Q e F H ∧ SR base per0 w0 N F H a w

/-- No way out but these: on, out of a block, back. -/
def Good (Q : LPost) : Prop := ∀ F H, ¬ Q .outgrown F H

def Lwp (P : Program) (N : Nat) (c : Code) (Q : LPost) (F : Fr) (H : Hp) : Prop :=
  ∀ base per0 w0 a w, SR base per0 w0 N F H a w → c.wp P (LQ Q base per0 w0 N) a w

theorem Lwp.mono {P : Program} {N : Nat} {c : Code} {Q Q' : LPost} {F : Fr} {H : Hp} (h : Lwp P N c Q F H) (hq : ∀ e F H, Q e F H → Q' e F H) : Lwp P N c Q' F H :=
  fun base per0 w0 a w hs => wp_mono (h base per0 w0 a w hs) fun e a' w' ⟨F', H', q, s⟩ => ⟨F', H', hq _ _ _ q, s⟩

section rules
variable {P : Program} {N : Nat} {Q : LPost} {F : Fr} {H : Hp}

theorem lwp_skip (h : Q .normal F H) : Lwp P N .skip Q F H := fun _ _ _ _ _ hs => wp_skip ⟨F, H, h, hs⟩
theorem lwp_label {l : Nat} (h : Q .normal F H) : Lwp P N (.label l) Q F H := fun _ _ _ _ _ hs => wp_label ⟨F, H, h, hs⟩
theorem lwp_exit {id : Nat} (h : Q (.exit id) F H) : Lwp P N (.exit id) Q F H := fun _ _ _ _ _ hs => wp_exit ⟨F, H, h, hs⟩
theorem lwp_ret (h : Q .ret F H) : Lwp P N .ret Q F H := fun _ _ _ _ _ hs => wp_ret ⟨F, H, h, hs⟩

/-- On to the next piece. -/
def seqQ (K : Fr → Hp → Prop) (Q : LPost) : LPost
  | .normal, F, H => K F H
  | e, F, H => Q e F H

theorem lwp_seq {x y : Code} (h : Lwp P N x (seqQ (Lwp P N y Q) Q) F H) : Lwp P N (.seq x y) Q F H := by
  intro base per0 w0 a w hs
  refine wp_seq (wp_mono (h base per0 w0 a w hs) fun e a' w' ⟨F', H', q, s⟩ => ?_)
  cases e <;> first | exact q base per0 w0 a' w' s | exact ⟨F', H', q, s⟩

def blockQ (id : Nat) (Q : LPost) : LPost
  | .exit id', F, H => if id' = id then Q .normal F H else Q (.exit id') F H
  | e, F, H => Q e F H

theorem lwp_block {id : Nat} {c : Code} (h : Lwp P N c (blockQ id Q) F H) : Lwp P N (.block id c) Q F H := by
  intro base per0 w0 a w hs
  refine wp_block (wp_mono (h base per0 w0 a w hs) fun e a' w' ⟨F', H', q, s⟩ => ?_)
  cases e with
  | exit id' =>
    simp only [blockQ] at q
    simp only [Exit.inBlock]
    split
    · rename_i h; rw [if_pos h] at q; exact ⟨F', H', q, s⟩
    · rename_i h; rw [if_neg h] at q; exact ⟨F', H', q, s⟩
  | _ => exact ⟨F', H', q, s⟩

theorem exists_min (p : Nat → Prop) (h : ∃ n, p n) : ∃ n, p n ∧ ∀ m, p m → n ≤ m := by
  obtain ⟨n, hn⟩ := h
  induction n using Nat.strongRecOn with
  | _ n ih =>
    by_cases hx : ∃ m, m < n ∧ p m
    · obtain ⟨m, hm, hp⟩ := hx
      exact ih m hm hp
    · refine ⟨n, hn, fun m hm => ?_⟩
      rcases Nat.lt_or_ge m n with h' | h'
      · exact absurd ⟨m, h', hm⟩ hx
      · exact h'

theorem wp_loop_rel {c : Code} {Q : Exit → Act → World → Prop} (R : Nat → Act → World → Prop)
    (round : ∀ n a w, R n a w → c.wp P (Exit.then (fun a' w' => ∃ m, m < n ∧ R m a' w') Q) a w) {n : Nat} {a : Act} {w : World} (h0 : R n a w) : (Code.loop c).wp P Q a w := by
  classical
  let μ : Act → World → Nat := fun a w => if h : ∃ n, R n a w then (exists_min _ h).choose else 0
  have hμ : ∀ a w, (∃ n, R n a w) → R (μ a w) a w := by
    intro a w h
    simp only [μ, dif_pos h]
    exact (exists_min _ h).choose_spec.1
  have hle : ∀ a w n, R n a w → μ a w ≤ n := by
    intro a w n h
    have h' : ∃ n, R n a w := ⟨n, h⟩
    simp only [μ, dif_pos h']
    exact (exists_min _ h').choose_spec.2 n h
  refine wp_loop (I := fun a w => ∃ n, R n a w) μ ⟨n, h0⟩ fun a w hI => ?_
  refine wp_mono (round _ a w (hμ a w hI)) fun e a' w' h => ?_
  cases e with
  | normal =>
    obtain ⟨m, hm, hR⟩ := h
    exact ⟨⟨m, hR⟩, Nat.lt_of_le_of_lt (hle a' w' m hR) hm⟩
  | _ => exact h

/-- A loop: at the head of each round the state is one of a family; each round that goes on lowers the number. -/
theorem lwp_loop {c : Code} (R : Nat → Fr → Hp → Prop) {n : Nat} (h0 : R n F H)
    (round : ∀ n F H, R n F H → Lwp P N c (seqQ (fun F' H' => ∃ m, m < n ∧ R m F' H') Q) F H) : Lwp P N (.loop c) Q F H := by
  intro base per0 w0 a w hs
  refine wp_loop_rel (fun n a w => ∃ F H, R n F H ∧ SR base per0 w0 N F H a w) (fun n a w ⟨F, H, hR, hs⟩ => ?_) ⟨F, H, h0, hs⟩
  refine wp_mono (round n F H hR base per0 w0 a w hs) fun e a' w' ⟨F', H', q, s⟩ => ?_
  cases e with
  | normal =>
    obtain ⟨m, hm, hR'⟩ := q
    exact ⟨m, hm, F', H', hR', s⟩
  | _ => exact ⟨F', H', q, s⟩

/-- Slots may be forgotten. -/
theorem SR.weaken {base : Nat} {per0 : Nat → Prop} {w0 : World} {N : Nat} {F F' : Fr} {H : Hp} {a : Act} {w : World} (hF : ∀ t, fget F' t = fget F t ∨ fget F' t = .dead)
    (h : SR base per0 w0 N F H a w) : SR base per0 w0 N F' H a w := by
  obtain ⟨ι, per, h1, h2, h3, h4, h5⟩ := h
  refine ⟨ι, per, h1, h2, h3, fun t => ?_, h5⟩
  rcases hF t with e | e
  · rw [e]; exact h4 t
  · rw [e]; exact .dead _

theorem lwp_weaken {c : Code} {F' : Fr} (hF : ∀ t, fget F' t = fget F t ∨ fget F' t = .dead) (h : Lwp P N c Q F' H) : Lwp P N c Q F H :=
  fun base per0 w0 a w hs => h base per0 w0 a w (hs.weaken hF)

end rules
end Go.Lite

/- Lite, part B: types as a reader sees them; the operations that only compute. -/
namespace Go.Lite
open Go Go.RowKit

def scalarLV : Value → LV
  | .bool b => .bool b
  | .int k n => .int k n
  | .string s => .str s
  | .pointer none => .nilp
  | .slice none 0 0 => .nils
  | .nilFunc => .nilf
  | _ => .dead

theorem VR.scalar {w : World} {ι : Pl} {per : Nat → Prop} (v : Value) : VR w per ι (scalarLV v) v := by
  unfold scalarLV
  split <;> constructor

def constLV : Value → LV
  | .agg cs => .agg (cs.toList.map scalarLV)
  | v => scalarLV v

theorem VR.const {w : World} {ι : Pl} {per : Nat → Prop} (v : Value) : VR w per ι (constLV v) v := by
  unfold constLV
  split
  · rename_i cs
    have h : VR w per ι (.agg (cs.toList.map scalarLV)) (.agg cs.toList.toArray) := by
      refine .agg (by simp) fun i hi => ?_
      have hi' : i < cs.size := by simpa using hi
      simp [hi']
      exact .scalar _
    simpa using h
  · exact .scalar v

inductive TD where
  | int (k : IntKind) | bool | str
  | slice (esz ebytes : Nat) (ez : List LV)
  | arr (n esz : Nat) (eagg : Bool)
  | struct (fs : List (Nat × Nat × Bool))
  | other

/-- What the operations ask of a type. -/
structure TI where
  d : TD
  size : Nat
  agg : Bool
  zero : List LV

def aggOf (P : Program) (t : TypeId) : Bool :=
  match P.underlying t with
  | some (.struct _) | some (.array _ _) => true
  | _ => false

def zeroOf (i : TypeInfo) : Option (List LV) :=
  match i.zero with
  | some z => some (z.cells.toList.map scalarLV)
  | none => none

def fieldsOf (P : Program) : List Field → Option (List (Nat × Nat × Bool))
  | [] => some []
  | f :: r =>
    match P.info? f.type, P.underlying f.type, fieldsOf P r with
    | some j, some _, some l => some ((f.offset, j.size, aggOf P f.type) :: l)
    | _, _, _ => none

def tdOf (P : Program) : TypeDesc → Option TD
  | .int k => some (.int k)
  | .bool => some .bool
  | .string => some .str
  | .slice e =>
    match P.info? e with
    | some j => (match zeroOf j with | some z => if j.size = 0 ∨ z.length ≠ j.size then none else some (.slice j.size j.bytes z) | none => none)
    | none => none
  | .array n e =>
    match P.info? e, P.underlying e with
    | some j, some _ => if j.size = 0 then none else some (.arr n j.size (aggOf P e))
    | _, _ => none
  | .struct fs => (fieldsOf P fs.toList).map .struct
  | _ => some .other

def tiOf (P : Program) (t : TypeId) : Option TI :=
  match P.info? t, P.underlying t with
  | some i, some d =>
    match zeroOf i, tdOf P d with
    | some z, some td => if z.length ≠ i.size then none else some ⟨td, i.size, aggOf P t, z⟩
    | _, _ => none
  | _, _ => none

/-- A type's row, taken apart. -/
theorem ti_spec {P : Program} {t : TypeId} {ti : TI} (h : tiOf P t = some ti) :
    ∃ i d z, P.info? t = some i ∧ P.underlying t = some d ∧ i.zero = some z ∧ ti.zero = z.cells.toList.map scalarLV ∧ ti.size = i.size ∧ z.cells.size = i.size ∧
      ti.agg = aggOf P t ∧ tdOf P d = some ti.d := by
  unfold tiOf at h
  split at h
  · rename_i i d hi hd
    split at h
    · rename_i z td hz htd
      split at h
      · cases h
      · rename_i hl
        obtain rfl := Option.some.inj h
        unfold zeroOf at hz
        split at hz
        · rename_i z' hz'
          obtain rfl := Option.some.inj hz
          refine ⟨i, d, z', hi, hd, hz', rfl, rfl, ?_, rfl, htd⟩
          simpa using hl
        · cases hz
    · cases h
  · cases h

section runs
variable {P : Program} {t : TypeId} {ti : TI} {w : World}

theorem run_typeInfo {i : TypeInfo} (h : P.info? t = some i) : (typeInfo t).run P w = .ok i w := by simp [typeInfo, h]
theorem run_underlying {d : TypeDesc} (h : P.underlying t = some d) : (underlying t).run P w = .ok d w := by simp [underlying, h]
theorem run_sizeOf {i : TypeInfo} (h : P.info? t = some i) : (sizeOf t).run P w = .ok i.size w := by simp [sizeOf, typeInfo, h]
theorem run_zeroValue {i : TypeInfo} {z : Value} (h : P.info? t = some i) (hz : i.zero = some z) : (zeroValue t).run P w = .ok z w := by simp [zeroValue, typeInfo, h, hz]
theorem run_isAgg {d : TypeDesc} (h : P.underlying t = some d) : (isAgg t).run P w = .ok (aggOf P t) w := by
  unfold isAgg aggOf
  rw [h]
  cases d <;> simp [underlying, h]

end runs

def evalO (F : Fr) : Operand → LV
  | .tmp t => fget F t
  | .const v => constLV v
  | .global _ => .dead
  | .func f => .fn f []

/-- The frame stands for the slots. -/
def FR (w : World) (ι : Pl) (per : Nat → Prop) (F : Fr) (a : Act) : Prop := ∀ t, VR w per ι (fget F t) (a.tmps.getD t undef)

theorem FR.eval {w : World} {ι : Pl} {per : Nat → Prop} {F : Fr} {a : Act} (h : FR w ι per F a) (x : Operand) : VR w per ι (evalO F x) (a.eval x) := by
  cases x with
  | tmp t => exact h t
  | const v => exact .const v
  | global g => exact .dead _
  | func f => exact .fn (vs := []) rfl (fun i hi => absurd hi (by simp))

def lbin (op : BinOp) : LV → LV → Option LV
  | .int k a, .int k' b =>
    match op with
    | .shl => if b < 0 then none else some (.int k (k.wrap (a * 2 ^ (min b.toNat k.bits))))
    | .shr => if b < 0 then none else some (.int k (a.fdiv (2 ^ (min b.toNat k.bits))))
    | _ =>
      if k ≠ k' then none else
      match op with
      | .add => some (.int k (k.wrap (a + b)))
      | .sub => some (.int k (k.wrap (a - b)))
      | .mul => some (.int k (k.wrap (a * b)))
      | .quo => if b = 0 then none else some (.int k (k.wrap (a.tdiv b)))
      | .rem => if b = 0 then none else some (.int k (a.tmod b))
      | .and => some (.int k (k.wrap (BitVec.ofInt k.bits a &&& BitVec.ofInt k.bits b).toNat))
      | .or => some (.int k (k.wrap (BitVec.ofInt k.bits a ||| BitVec.ofInt k.bits b).toNat))
      | .xor => some (.int k (k.wrap (BitVec.ofInt k.bits a ^^^ BitVec.ofInt k.bits b).toNat))
      | .andNot => some (.int k (k.wrap (BitVec.ofInt k.bits a &&& ~~~ BitVec.ofInt k.bits b).toNat))
      | .eql => some (.bool (a == b))
      | .neq => some (.bool (a != b))
      | .lss => some (.bool (decide (a < b)))
      | .leq => some (.bool (decide (a ≤ b)))
      | .gtr => some (.bool (decide (a > b)))
      | .geq => some (.bool (decide (a ≥ b)))
      | _ => none
  | .str a, .str b =>
    match op with
    | .add => if ((a.size + b.size : Nat) : Int) > IntKind.i64.max then none else some (.str (a ++ b))
    | .eql => some (.bool (a.toList == b.toList))
    | .neq => some (.bool (!(a.toList == b.toList)))
    | .lss => some (.bool (Op.bytesLess a.toList b.toList))
    | _ => none
  | _, _ => none

def lun (op : UnOp) : LV → Option LV
  | .int k n => (match op with | .neg => some (.int k (k.wrap (0 - n))) | .xor => some (.int k (k.wrap (BitVec.ofInt k.bits (if k.signed then -1 else k.max) ^^^ BitVec.ofInt k.bits n).toNat)) | _ => none)
  | .bool b => (match op with | .not => some (.bool (!b)) | _ => none)
  | _ => none

/-- The cells of a value, where they are known. -/
def lcells : LV → Option (List LV)
  | .agg cs => some cs
  | .dead => none
  | .und => none
  | .tup _ => none
  | v => some [v]

def putCells (cs : List LV) (off : Nat) (vs : List LV) : List LV := cs.take off ++ vs ++ cs.drop (off + vs.length)

def lpart (agg : Bool) (size : Nat) (cs : List LV) (off : Nat) : Option LV :=
  if agg then (if off + size ≤ cs.length then some (.agg ((cs.drop off).take size)) else none) else cs[off]?

def lookBool : LV → Option Bool
  | .bool b => some b
  | _ => none

def asI : LV → Option Int
  | .int _ n => some n
  | _ => none

def lmin : List LV → LV → Option LV
  | [], x => some x
  | .int k y :: r, .int k' x => lmin r (.int k' (if y < x then y else x))
  | _, _ => none
def lmax : List LV → LV → Option LV
  | [], x => some x
  | .int k y :: r, .int k' x => lmax r (.int k' (if x < y then y else x))
  | _, _ => none

def hiOf (len : Nat) : Option LV → Option Int
  | none => some len
  | some x => asI x
def loOf : Option LV → Option Int
  | none => some 0
  | some x => asI x
def sliceBnds (len : Nat) (lo hi : Option LV) : Option (Nat × Nat) :=
  match hiOf len hi, loOf lo with
  | some h, some l => if 0 ≤ l ∧ l ≤ h ∧ h ≤ len then some (l.toNat, h.toNat) else none
  | _, _ => none

def lfill (place : Nat → Option (Nat × Nat)) (cells : List LV) : List (Nat × LV) → Option (List LV)
  | [] => some cells
  | (i, v) :: rest =>
    match place i, lcells v with
    | some (off, size), some cs => if cs.length ≠ size ∨ off + cs.length > cells.length then none else lfill place (putCells cells off cs) rest
    | _, _ => none

/-- Comparisons of bools besides. -/
def lbinT (P : Program) (t : TypeId) (op : BinOp) : LV → LV → Option LV
  | .bool a, .bool b => match tiOf P t, op with
    | some ⟨.bool, _, _, _⟩, .eql => some (.bool (a == b))
    | some ⟨.bool, _, _, _⟩, .neq => some (.bool (!(a == b)))
    | _, _ => none
  | x, y => lbin op x y

/-- The operations that only compute: neither the world nor the rows are asked. -/
def pureOp (P : Program) (F : Fr) : Op → Option LV
  | .move x | .assign x => some (evalO F x)
  | .pick c a b => match evalO F c with | .bool t => some (if t then evalO F a else evalO F b) | _ => none
  | .nilCheck x => match evalO F x with
    | .ptr h o => some (.ptr h o)
    | .pp cs => some (.pp cs)
    | .fn f c => some (.fn f c)
    | _ => none
  | .binOp op t x y _ => lbinT P t op (evalO F x) (evalO F y)
  | .unOp op _ x => lun op (evalO F x)
  | .convert s d x => match tiOf P s, tiOf P d, evalO F x with
    | some _, some ⟨.int k, _, _, _⟩, .int _ n => some (.int k (k.wrap n))
    | some _, some ⟨.str, _, _, _⟩, .str b => some (.str b)
    | _, _, _ => none
  | .makeFunc (.func f) first captured => if first.size = 0 then some (.fn f (captured.toList.map (evalO F))) else none
  | .extract x i => match evalO F x with | .tup vs => vs[i]? | _ => none
  | .fieldAddr s x f => match tiOf P s, evalO F x with
    | some ⟨.struct fs, _, _, _⟩, .ptr h o => (match fs[f]? with | some (off, size, _) => if size = 0 then none else some (.ptr h (o + off)) | none => none)
    | some ⟨.struct fs, _, _, _⟩, .pp cs => (match fs[f]? with | some (off, size, _) => if size = 0 then none else some (.pp (cs.drop off)) | none => none)
    | _, _ => none
  | .field s x f => match tiOf P s, evalO F x with
    | some ⟨.struct fs, _, _, _⟩, .agg cs => (match fs[f]? with | some (off, size, agg) => lpart agg size cs off | none => none)
    | _, _ => none
  | .indexAddr t x i => match tiOf P t, evalO F x, evalO F i with
    | some ⟨.slice esz _ _, _, _, _⟩, .sl sz h o len, .int _ n => if sz = esz ∧ 0 ≤ n ∧ n < len then some (.ptr h (o + n.toNat * sz)) else none
    | some ⟨.slice esz _ _, _, _, _⟩, .ps sz len cs, .int _ n => if sz = esz ∧ 0 ≤ n ∧ n < len then some (.pp ((cs.drop (n.toNat * sz)).take sz)) else none
    | some ⟨.arr m esz _, _, _, _⟩, .ptr h o, .int _ n => if 0 ≤ n ∧ n < m then some (.ptr h (o + n.toNat * esz)) else none
    | some ⟨.arr m esz _, _, _, _⟩, .pp cs, .int _ n => if 0 ≤ n ∧ n < m then some (.pp (cs.drop (n.toNat * esz))) else none
    | _, _, _ => none
  | .index t x i => match tiOf P t, evalO F x, evalO F i with
    | some ⟨.arr m esz eagg, _, _, _⟩, .agg cs, .int _ n => if 0 ≤ n ∧ n < m then lpart eagg esz cs (n.toNat * esz) else none
    | some ⟨.str, _, _, _⟩, .str s, .int _ n => if 0 ≤ n then (match s[n.toNat]? with | some b => some (.int .u8 b.toNat) | none => none) else none
    | _, _, _ => none
  | .build t parts => match tiOf P t with
    | some ⟨.struct fs, _, _, z⟩ => (lfill (fun i => (fs[i]?).map fun f => (f.1, f.2.1)) z (parts.toList.map fun p => (p.1, evalO F p.2))).map .agg
    | some ⟨.arr n esz _, _, _, z⟩ => (lfill (fun i => some (i * esz, esz)) z (parts.toList.map fun p => (p.1, evalO F p.2))).map .agg
    | _ => none
  | .slice t x lo hi none => match tiOf P t, evalO F x with
    | some ⟨.str, _, _, _⟩, .str s => (match sliceBnds s.size (lo.map (evalO F)) (hi.map (evalO F)) with | some (l, h) => some (.str (s.extract l h)) | none => none)
    | some ⟨.slice esz _ _, _, _, _⟩, .sl sz h o len => if sz ≠ esz then none else (match sliceBnds len (lo.map (evalO F)) (hi.map (evalO F)) with | some (l, r) => some (.sl sz h (o + l * sz) (r - l)) | none => none)
    | some ⟨.slice esz _ _, _, _, _⟩, .ps sz len cs => if sz ≠ esz then none else (match sliceBnds len (lo.map (evalO F)) (hi.map (evalO F)) with | some (l, r) => some (.ps sz (r - l) ((cs.drop (l * sz)).take ((r - l) * sz))) | none => none)
    | some ⟨.slice _ _ _, _, _, _⟩, .nils => (match sliceBnds 0 (lo.map (evalO F)) (hi.map (evalO F)) with | some _ => some .nils | none => none)
    | _, _ => none
  | .call ⟨.builtin .len, args, argTypes⟩ => match (argTypes[0]?).bind (tiOf P), (args[0]?).map (evalO F) with
    | some ⟨.str, _, _, _⟩, some (.str s) => some (.int .i64 s.size)
    | some ⟨.slice _ _ _, _, _, _⟩, some (.sl _ _ _ n) => some (.int .i64 n)
    | some ⟨.slice _ _ _, _, _, _⟩, some (.ps _ n _) => some (.int .i64 n)
    | some ⟨.slice _ _ _, _, _, _⟩, some .nils => some (.int .i64 0)
    | some ⟨.arr n _ _, _, _, _⟩, some _ => some (.int .i64 n)
    | _, _ => none
  | .call ⟨.builtin .min, args, _⟩ => match args.toList.map (evalO F) with | x :: r => lmin r x | [] => none
  | .call ⟨.builtin .max, args, _⟩ => match args.toList.map (evalO F) with | x :: r => lmax r x | [] => none
  | _ => none

/-- What an operation that only computes comes to. -/
def Yields (P : Program) (w : World) (ι : Pl) (per : Nat → Prop) (x : LV) (s : Sem Next) : Prop := ∃ u, (∀ w', s.run P w' = .ok (.value u) w') ∧ VR w per ι x u

theorem eqGuard_int {P : Program} {w : World} {op : BinOp} {t : TypeId} {ox oy : Operand} {k k' : IntKind} {a b : Int} : (eqGuard op t ox oy (.int k a) (.int k' b)).run P w = .ok () w := by
  cases op <;> rfl
theorem eqGuard_str {P : Program} {w : World} {op : BinOp} {t : TypeId} {ox oy : Operand} {a b : ByteArray} : (eqGuard op t ox oy (.string a) (.string b)).run P w = .ok () w := by
  cases op <;> rfl
theorem eqGuard_bool {P : Program} {w : World} {op : BinOp} {t : TypeId} {ox oy : Operand} {a b : Bool} : (eqGuard op t ox oy (.bool a) (.bool b)).run P w = .ok () w := by
  cases op <;> rfl

theorem lbin_sound {P : Program} {w : World} {ι : Pl} {per : Nat → Prop} {op : BinOp} {t : TypeId} {x y : LV} {u v : Value} {ox oy : Operand} (hx : VR w per ι x u) (hy : VR w per ι y v) {r : LV}
    (h : lbin op x y = some r) : ∃ z, (∀ w', (do eqGuard op t ox oy u v; binOp op t u v : Sem Value).run P w' = .ok z w') ∧ VR w per ι r z := by
  unfold lbin at h
  split at h
  · cases hx; cases hy
    rename_i k a k' b
    simp only [Sem.run_bind, eqGuard_int, Result.andThen_ok]
    split at h
    · split at h
      · cases h
      · rename_i hb
        obtain rfl := Option.some.inj h
        refine ⟨_, ?_, .int _ _⟩; intro w'; simp [binOp, Op.shift, hb]
    · split at h
      · cases h
      · rename_i hb
        obtain rfl := Option.some.inj h
        refine ⟨_, ?_, .int _ _⟩; intro w'; simp [binOp, Op.shift, hb]
    · rename_i hn1 hn2
      split at h
      · cases h
      · rename_i hk
        simp only [ne_eq, Decidable.not_not] at hk
        subst hk
        have hkk : ¬ (k ≠ k) := fun h => h rfl
        cases op with
        | shl => exact absurd rfl hn1
        | shr => exact absurd rfl hn2
        | quo =>
          simp only at h
          split at h
          · cases h
          · rename_i hb
            obtain rfl := Option.some.inj h
            refine ⟨_, ?_, .int _ _⟩
            intro w'; simp [binOp, Op.intDiv, hb]
        | rem =>
          simp only at h
          split at h
          · cases h
          · rename_i hb
            obtain rfl := Option.some.inj h
            refine ⟨_, ?_, .int _ _⟩
            intro w'; simp [binOp, Op.intDiv, hb]
        | add | sub | mul =>
          obtain rfl := Option.some.inj h
          refine ⟨_, ?_, .int _ _⟩
          intro w'; simp [binOp, Op.intArith]
        | and | or | xor | andNot =>
          obtain rfl := Option.some.inj h
          refine ⟨_, ?_, .int _ _⟩
          intro w'; simp only [binOp, if_neg hkk, Op.intBits]; rfl
        | eql | neq | lss | leq | gtr | geq =>
          obtain rfl := Option.some.inj h
          refine ⟨_, ?_, .bool _⟩
          intro w'; simp only [binOp, if_neg hkk, Op.intCmp]; rfl
  · cases hx; cases hy
    rename_i a b
    simp only [Sem.run_bind, eqGuard_str, Result.andThen_ok]
    split at h
    · split at h
      · cases h
      · rename_i hb
        obtain rfl := Option.some.inj h
        refine ⟨_, ?_, .str _⟩
        intro w'
        simp only [binOp, Op.stringOp]
        rw [if_neg hb]
        simp
    · obtain rfl := Option.some.inj h
      refine ⟨_, ?_, .bool _⟩; intro w'; simp [binOp, Op.stringOp]
    · obtain rfl := Option.some.inj h
      refine ⟨_, ?_, .bool _⟩; intro w'; simp [binOp, Op.stringOp]
    · obtain rfl := Option.some.inj h
      refine ⟨_, ?_, .bool _⟩; intro w'; simp [binOp, Op.stringOp]
    · cases h
  · cases h

theorem lun_sound {P : Program} {w : World} {ι : Pl} {per : Nat → Prop} {op : UnOp} {x : LV} {u : Value} (hx : VR w per ι x u) {r : LV}
    (h : lun op x = some r) : ∃ z, (∀ w', (Op.unary op u).run P w' = .ok z w') ∧ VR w per ι r z := by
  unfold lun at h
  split at h
  · cases hx
    split at h
    · obtain rfl := Option.some.inj h
      refine ⟨_, ?_, .int _ _⟩; intro w'; simp [Op.unary, Op.intArith]
    · obtain rfl := Option.some.inj h
      refine ⟨_, ?_, .int _ _⟩; intro w'; simp only [Op.unary, Op.intBits]; rfl
    · cases h
  · cases hx
    split at h
    · obtain rfl := Option.some.inj h
      refine ⟨_, ?_, .bool _⟩; intro w'; simp [Op.unary]
    · cases h
  · cases h

end Go.Lite

/- Lite, part C: the operations that only compute do what pureOp says. -/
namespace Go.Lite
open Go Go.RowKit

theorem add_plain (b o n : Nat) : (⟨b, o, none⟩ : Addr).add n = ⟨b, o + n, none⟩ := by
  unfold Addr.add
  split
  · rename_i h; subst h; rfl
  · rfl

/-- Lists of values. -/
def VL (w : World) (ι : Pl) (per : Nat → Prop) (cs : List LV) (vs : List Value) : Prop :=
  cs.length = vs.length ∧ ∀ i (h : i < cs.length), VR w per ι cs[i] (vs.getD i undef)

section
variable {w : World} {ι : Pl} {per : Nat → Prop}

theorem VR.agg_inv {cs : List LV} {v : Value} (h : VR w per ι (.agg cs) v) : ∃ vs : List Value, v = .agg vs.toArray ∧ VL w ι per cs vs := by
  cases h with
  | agg hn hv => exact ⟨_, rfl, hn, hv⟩

theorem VR.tup_inv {cs : List LV} {v : Value} (h : VR w per ι (.tup cs) v) : ∃ vs : List Value, v = .tuple vs.toArray ∧ VL w ι per cs vs := by
  cases h with
  | tup hn hv => exact ⟨_, rfl, hn, hv⟩

theorem VR.sl_inv {sz h off len : Nat} {v : Value} (hv : VR w per ι (.sl sz h off len) v) :
    (∃ b o cap, ι[h]? = some (some (b, o)) ∧ len ≤ cap ∧ Room w b (o + off + cap * sz) ∧ v = .slice (some ⟨b, o + off, none⟩) len cap) ∨ (len = 0 ∧ ∃ a, v = .slice a 0 0) := by
  cases hv with
  | sl h1 h2 h3 => exact .inl ⟨_, _, _, h1, h2, h3, rfl⟩
  | slz => exact .inr ⟨rfl, _, rfl⟩

theorem VR.ps_inv {sz len : Nat} {cs : List LV} {v : Value} (hv : VR w per ι (.ps sz len cs) v) :
    (∃ (b o cap : Nat) (vs : Nat → Value), per b ∧ cs.length = len * sz ∧ len ≤ cap ∧ (∀ i, i < cs.length → w.cell? ⟨b, o + i, none⟩ = some (vs i)) ∧ (∀ i (h : i < cs.length), VR w per [] cs[i] (vs i)) ∧
      v = .slice (some ⟨b, o, none⟩) len cap) ∨ (len = 0 ∧ cs = [] ∧ ∃ a cap, v = .slice a 0 cap) := by
  cases hv with
  | ps vs h1 h2 h3 h4 h5 => exact .inl ⟨_, _, _, vs, h1, h2, h3, h4, h5, rfl⟩
  | psz => exact .inr ⟨rfl, rfl, _, _, rfl⟩

theorem VR.pp_inv {cs : List LV} {v : Value} (hv : VR w per ι (.pp cs) v) :
    ∃ (b o : Nat) (vs : Nat → Value), per b ∧ (∀ i, i < cs.length → w.cell? ⟨b, o + i, none⟩ = some (vs i)) ∧ (∀ i (h : i < cs.length), VR w per [] cs[i] (vs i)) ∧ v = .pointer (some ⟨b, o, none⟩) := by
  cases hv with
  | pp vs h1 h2 h3 => exact ⟨_, _, vs, h1, h2, h3, rfl⟩

theorem VR.ptr_inv {h off : Nat} {v : Value} (hv : VR w per ι (.ptr h off) v) : ∃ b o, ι[h]? = some (some (b, o)) ∧ v = .pointer (some ⟨b, o + off, none⟩) := by
  cases hv with
  | ptr hi => exact ⟨_, _, hi, rfl⟩

theorem VL.get {cs : List LV} {vs : List Value} (h : VL w ι per cs vs) {i : Nat} {x : LV} (hx : cs[i]? = some x) : ∃ v, vs[i]? = some v ∧ VR w per ι x v := by
  obtain ⟨hi, rfl⟩ := List.getElem?_eq_some_iff.1 hx
  have hi' : i < vs.length := by rw [← h.1]; exact hi
  refine ⟨vs[i], by simp [hi'], ?_⟩
  have := h.2 i hi
  simpa [hi'] using this

theorem VL.nil : VL w ι per [] [] := ⟨rfl, fun i h => absurd h (by simp)⟩

theorem VL.one {x : LV} {v : Value} (h : VR w per ι x v) : VL w ι per [x] [v] :=
  ⟨rfl, fun i hi => by
    have : i = 0 := by simpa using hi
    subst this; simpa using h⟩

theorem VL.append {cs ds : List LV} {vs us : List Value} (h : VL w ι per cs vs) (k : VL w ι per ds us) : VL w ι per (cs ++ ds) (vs ++ us) := by
  refine ⟨by simp [h.1, k.1], fun i hi => ?_⟩
  by_cases hc : i < cs.length
  · have hv : i < vs.length := by rw [← h.1]; exact hc
    have := h.2 i hc
    simp only [List.getElem_append_left hc]
    simpa [List.getD_eq_getElem?_getD, List.getElem?_append_left hv] using this
  · have hc' : cs.length ≤ i := by omega
    have hi2 : i - cs.length < ds.length := by simp at hi; omega
    have := k.2 (i - cs.length) hi2
    rw [List.getElem_append_right hc']
    have hv : vs.length ≤ i := by rw [← h.1]; exact hc'
    rw [List.getD_eq_getElem?_getD, List.getElem?_append_right hv, ← h.1]
    simpa [List.getD_eq_getElem?_getD] using this

theorem VL.drop {cs : List LV} {vs : List Value} (h : VL w ι per cs vs) (n : Nat) : VL w ι per (cs.drop n) (vs.drop n) := by
  refine ⟨by simp [h.1], fun i hi => ?_⟩
  have hi2 : n + i < cs.length := by simp at hi; omega
  have := h.2 (n + i) hi2
  rw [List.getElem_drop]
  simpa [List.getD_eq_getElem?_getD] using this

theorem VL.take {cs : List LV} {vs : List Value} (h : VL w ι per cs vs) (n : Nat) : VL w ι per (cs.take n) (vs.take n) := by
  refine ⟨by simp [h.1], fun i hi => ?_⟩
  have hi2 : i < cs.length := by simp at hi; omega
  have hn : i < n := by simp at hi; omega
  have := h.2 i hi2
  rw [List.getElem_take]
  simpa [List.getD_eq_getElem?_getD, List.getElem?_take, hn] using this

theorem VL.put {cs ds : List LV} {vs us : List Value} (h : VL w ι per cs vs) (k : VL w ι per ds us) (off : Nat) : VL w ι per (putCells cs off ds) (vs.take off ++ us ++ vs.drop (off + us.length)) := by
  unfold putCells
  rw [k.1]
  exact ((h.take off).append k).append (h.drop _)

theorem VR.cells {x : LV} {v : Value} (h : VR w per ι x v) {cs : List LV} (hc : lcells x = some cs) : VL w ι per cs v.cells.toList := by
  cases h with
  | dead => cases hc
  | und => cases hc
  | tup => cases hc
  | agg hn hv => obtain rfl := Option.some.inj hc; exact ⟨hn, hv⟩
  | bool b => obtain rfl := Option.some.inj hc; exact .one (.bool b)
  | int k n => obtain rfl := Option.some.inj hc; exact .one (.int k n)
  | str s => obtain rfl := Option.some.inj hc; exact .one (.str s)
  | nilp => obtain rfl := Option.some.inj hc; exact .one .nilp
  | ptr hi => obtain rfl := Option.some.inj hc; exact .one (.ptr hi)
  | pp vs hp h1 h2 => obtain rfl := Option.some.inj hc; exact .one (.pp vs hp h1 h2)
  | nils => obtain rfl := Option.some.inj hc; exact .one .nils
  | sl h1 h2 h3 => obtain rfl := Option.some.inj hc; exact .one (.sl h1 h2 h3)
  | slz => obtain rfl := Option.some.inj hc; exact .one .slz
  | psz => obtain rfl := Option.some.inj hc; exact .one .psz
  | ps vs hp h0 h00 h1 h2 => obtain rfl := Option.some.inj hc; exact .one (.ps vs hp h0 h00 h1 h2)
  | nilf => obtain rfl := Option.some.inj hc; exact .one .nilf
  | fn h1 h2 => obtain rfl := Option.some.inj hc; exact .one (.fn h1 h2)

theorem VL.scalars (vs : List Value) : VL w ι per (vs.map scalarLV) vs :=
  ⟨by simp, fun i hi => by
    have hi' : i < vs.length := by simpa using hi
    simp [hi']
    exact .scalar _⟩

theorem foldl_put (l : List Value) : ∀ (n off : Nat) (cells : Array Value), off + n + l.length ≤ cells.size →
    ((l.zipIdx n).foldl (fun cs (p : Value × Nat) => cs.setIfInBounds (off + p.2) p.1) cells).toList = cells.toList.take (off + n) ++ l ++ cells.toList.drop (off + n + l.length) := by
  induction l with
  | nil => intro n off cells h; simp
  | cons x r ih =>
    intro n off cells h
    simp only [List.length_cons] at h
    simp only [List.zipIdx_cons, List.foldl_cons]
    rw [ih (n + 1) off _ (by simp; omega)]
    have h1 : off + n < cells.toList.length := by simp; omega
    simp only [Array.toList_setIfInBounds]
    rw [show off + (n + 1) = (off + n) + 1 from by omega, List.take_succ_eq_append_getElem (by simpa using h1)]
    rw [List.take_set_of_le (Nat.le_refl _)]
    simp only [List.getElem_set_self, List.length_cons, List.append_assoc, List.singleton_append]
    congr 2
    rw [show off + n + 1 + r.length = off + n + (r.length + 1) from by omega]
    rw [List.drop_set_of_lt (by omega)]

theorem lfill_sound (place : Nat → Option (Nat × Nat)) (pl : Nat → Option (Nat × Nat)) (hpl : ∀ i, place i = pl i) : ∀ (parts : List (Nat × LV)) (vals : List (Nat × Value)),
    parts.length = vals.length → (∀ (i : Nat) (p : Nat × LV), parts[i]? = some p → ∃ v, vals[i]? = some (p.1, v) ∧ VR w per ι p.2 v) →
    ∀ (cells : List LV) (cvs : Array Value), VL w ι per cells cvs.toList → ∀ r, lfill place cells parts = some r →
    ∃ out, Instr.fill pl cvs vals = some out ∧ VL w ι per r out.toList := by
  intro parts
  induction parts with
  | nil =>
    intro vals hl _ cells cvs hc r h
    cases vals with
    | cons => simp at hl
    | nil => obtain rfl := Option.some.inj h; exact ⟨cvs, rfl, hc⟩
  | cons p ps ih =>
    intro vals hl hp cells cvs hc r h
    cases vals with
    | nil => simp at hl
    | cons q qs =>
      obtain ⟨i, x⟩ := p
      obtain ⟨v, hv, hxv⟩ := hp 0 (i, x) rfl
      simp only [List.getElem?_cons_zero, Option.some.injEq] at hv
      subst hv
      simp only [lfill] at h
      split at h
      · rename_i off size cs hpi hcs
        have hcv := hxv.cells hcs
        split at h
        · cases h
        · rename_i hn
          have hsz : v.cells.size = cs.length := by have := hcv.1; simpa using this.symm
          have hcl : cells.length = cvs.size := by have := hc.1; simpa using this
          have hn' : ¬ (v.cells.size ≠ size ∨ off + v.cells.size > cvs.size) := by
            rw [hsz, ← hcl]; exact hn
          simp only [Instr.fill, ← hpl, hpi]
          rw [if_neg (by simpa using hn')]
          refine ih qs (by simpa using hl) (fun j p hj => by simpa using hp (j + 1) p (by simpa using hj)) _ _ ?_ r h
          have hput := hc.put hcv off
          have hf := foldl_put v.cells.toList 0 off cvs (by simp only [not_or] at hn'; simp; omega)
          simp only [Nat.add_zero] at hf
          have e : (Array.foldl (fun cs (x : Value × Nat) => cs.setIfInBounds (off + x.2) x.1) cvs v.cells.zipIdx) = (v.cells.toList.zipIdx.foldl (fun cs (p : Value × Nat) => cs.setIfInBounds (off + p.2) p.1) cvs) := by
            rw [← Array.foldl_toList]; simp
          have e2 := congrArg Array.toList e
          rw [hf] at e2
          show VL w ι per _ (Array.foldl (fun cs (x : Value × Nat) => cs.setIfInBounds (off + x.2) x.1) cvs v.cells.zipIdx).toList
          rw [e2]
          simpa using hput
      · cases h

end

section
variable {P : Program} {w : World} {ι : Pl} {per : Nat → Prop}

theorem lpart_sound {t : TypeId} {j : TypeInfo} {d : TypeDesc} (hj : P.info? t = some j) (hd : P.underlying t = some d) {cs : List LV} {vs : List Value} (h : VL w ι per cs vs) {off : Nat} {x : LV}
    (hx : lpart (aggOf P t) j.size cs off = some x) : ∃ u, (∀ w', (part t vs.toArray off).run P w' = .ok u w') ∧ VR w per ι x u := by
  unfold lpart at hx
  unfold part
  simp only [Sem.run_bind, run_isAgg hd, Result.andThen_ok]
  split at hx
  · rename_i hagg
    split at hx
    · rename_i hl
      obtain rfl := Option.some.inj hx
      simp only [hagg, if_true]
      refine ⟨.agg (((vs.drop off).take j.size).toArray), ?_, ?_⟩
      · intro w'; simp [run_sizeOf hj, List.extract_eq_take_drop]
      · exact .agg (((h.drop off).take j.size).1) (((h.drop off).take j.size).2)
    · cases hx
  · rename_i hagg
    obtain ⟨v, hv, hr⟩ := h.get hx
    simp only [hagg]
    refine ⟨v, ?_, hr⟩
    intro w'; simp [hv]

theorem fieldsOf_spec (l : List Field) : ∀ fs, fieldsOf P l = some fs → fs.length = l.length ∧ ∀ (i : Nat) (o s : Nat) (g : Bool), fs[i]? = some (o, s, g) →
    ∃ f j d, l[i]? = some f ∧ P.info? f.type = some j ∧ P.underlying f.type = some d ∧ o = f.offset ∧ s = j.size ∧ g = aggOf P f.type := by
  induction l with
  | nil => intro fs h; obtain rfl := Option.some.inj h; exact ⟨rfl, fun i o s g hi => by simp at hi⟩
  | cons f r ih =>
    intro fs h
    simp only [fieldsOf] at h
    split at h
    · rename_i j d l hj hd hl
      obtain rfl := Option.some.inj h
      obtain ⟨h1, h2⟩ := ih l hl
      refine ⟨by simp [h1], fun i o s g hi => ?_⟩
      cases i with
      | zero =>
        simp only [List.getElem?_cons_zero, Option.some.injEq, Prod.mk.injEq] at hi
        exact ⟨f, j, d, rfl, hj, hd, hi.1.symm, hi.2.1.symm, hi.2.2.symm⟩
      | succ i => exact h2 i o s g (by simpa using hi)
    · cases h

/-- A struct's type, taken apart. -/
theorem struct_spec {t : TypeId} {fs : List (Nat × Nat × Bool)} {size : Nat} {agg : Bool} {z : List LV} (h : tiOf P t = some ⟨.struct fs, size, agg, z⟩) :
    ∃ fl, P.underlying t = some (.struct fl) ∧ fieldsOf P fl.toList = some fs := by
  obtain ⟨i, d, z', hi, hd, hz, _, _, _, _, htd⟩ := ti_spec h
  cases d <;> simp only [tdOf] at htd <;> try (first | cases htd | (split at htd <;> try cases htd) | skip)
  case struct fl =>
    cases hf : fieldsOf P fl.toList with
    | none => rw [hf] at htd; cases htd
    | some l =>
      rw [hf] at htd
      simp only [Option.map_some, Option.some.injEq, TD.struct.injEq] at htd
      subst htd
      exact ⟨fl, hd, hf⟩
  all_goals (repeat' split at htd) <;> first | cases htd | (simp at htd)

theorem slice_spec {t : TypeId} {esz eb : Nat} {ez : List LV} {size : Nat} {agg : Bool} {z : List LV} (h : tiOf P t = some ⟨.slice esz eb ez, size, agg, z⟩) :
    ∃ e j ze, P.underlying t = some (.slice e) ∧ P.info? e = some j ∧ j.size = esz ∧ j.bytes = eb ∧ j.zero = some ze ∧ ez = ze.cells.toList.map scalarLV ∧ ze.cells.size = esz ∧ 0 < esz := by
  obtain ⟨i, d, z', hi, hd, hz, _, _, _, _, htd⟩ := ti_spec h
  cases d
  case slice e =>
    simp only [tdOf] at htd
    split at htd
    · rename_i j hj
      split at htd
      · rename_i zz hzz
        split at htd
        · cases htd
        · rename_i hne
          simp only [Option.some.injEq, TD.slice.injEq] at htd
          obtain ⟨rfl, rfl, rfl⟩ := htd
          unfold zeroOf at hzz
          split at hzz
          · rename_i ze hze
            obtain rfl := Option.some.inj hzz
            simp only [not_or, ne_eq, Decidable.not_not] at hne
            refine ⟨e, j, ze, hd, hj, rfl, rfl, hze, rfl, by simpa using hne.2, by omega⟩
          · cases hzz
      · cases htd
    · cases htd
  all_goals (exfalso; simp only [tdOf] at htd; (repeat' split at htd) <;> first | cases htd | (simp at htd))

theorem arr_spec {t : TypeId} {n esz : Nat} {eagg : Bool} {size : Nat} {agg : Bool} {z : List LV} (h : tiOf P t = some ⟨.arr n esz eagg, size, agg, z⟩) :
    ∃ e j d, P.underlying t = some (.array n e) ∧ P.info? e = some j ∧ P.underlying e = some d ∧ j.size = esz ∧ eagg = aggOf P e ∧ 0 < esz := by
  obtain ⟨i, d, z', hi, hd, hz, _, _, _, _, htd⟩ := ti_spec h
  cases d
  case array m e =>
    simp only [tdOf] at htd
    split at htd
    · rename_i j dd hj hdd
      split at htd
      · cases htd
      · rename_i hne
        simp only [Option.some.injEq, TD.arr.injEq] at htd
        obtain ⟨rfl, rfl, rfl⟩ := htd
        exact ⟨e, j, dd, hd, hj, hdd, rfl, rfl, by omega⟩
    · cases htd
  all_goals (exfalso; simp only [tdOf] at htd; (repeat' split at htd) <;> first | cases htd | (simp at htd))

theorem str_spec {t : TypeId} {size : Nat} {agg : Bool} {z : List LV} (h : tiOf P t = some ⟨.str, size, agg, z⟩) : P.underlying t = some .string := by
  obtain ⟨i, d, z', hi, hd, hz, _, _, _, _, htd⟩ := ti_spec h
  cases d
  case string => exact hd
  all_goals (exfalso; simp only [tdOf] at htd; (repeat' split at htd) <;> first | cases htd | (simp at htd))

theorem int_spec {t : TypeId} {k : IntKind} {size : Nat} {agg : Bool} {z : List LV} (h : tiOf P t = some ⟨.int k, size, agg, z⟩) : P.underlying t = some (.int k) := by
  obtain ⟨i, d, z', hi, hd, hz, _, _, _, _, htd⟩ := ti_spec h
  cases d
  case int k' =>
    simp only [tdOf, Option.some.injEq, TD.int.injEq] at htd
    subst htd; exact hd
  all_goals (exfalso; simp only [tdOf] at htd; (repeat' split at htd) <;> first | cases htd | (simp at htd))

theorem bool_spec {t : TypeId} {size : Nat} {agg : Bool} {z : List LV} (h : tiOf P t = some ⟨.bool, size, agg, z⟩) : P.underlying t = some .bool := by
  obtain ⟨i, d, z', hi, hd, hz, _, _, _, _, htd⟩ := ti_spec h
  cases d
  case bool => exact hd
  all_goals (exfalso; simp only [tdOf] at htd; (repeat' split at htd) <;> first | cases htd | (simp at htd))

end
end Go.Lite

/- Lite, part D: the operations that only compute do what pureOp says, all of them. -/
namespace Go.Lite
open Go Go.RowKit

section
variable {P : Program} {w : World} {ι : Pl} {per : Nat → Prop} {F : Fr} {a : Act}

theorem run_equal_bool {t : TypeId} (h : P.underlying t = some .bool) (x y : Bool) (w : World) : (Op.equal t (.bool x) (.bool y)).run P w = .ok (x == y) w := by
  unfold Op.equal
  rw [show Op.maxDepth = 9999 + 1 from rfl, Op.equalIn]
  simp only [Sem.run_bind, run_underlying h, Result.andThen_ok, Sem.run_pure]

theorem lbinT_sound {op : BinOp} {t : TypeId} {x y : LV} {u v : Value} {ox oy : Operand} (hx : VR w per ι x u) (hy : VR w per ι y v) {r : LV}
    (h : lbinT P t op x y = some r) : ∃ z, (∀ w', (do eqGuard op t ox oy u v; binOp op t u v : Sem Value).run P w' = .ok z w') ∧ VR w per ι r z := by
  unfold lbinT at h
  split at h
  · cases hx; cases hy
    simp only [Sem.run_bind, eqGuard_bool, Result.andThen_ok]
    split at h
    · rename_i ht
      obtain rfl := Option.some.inj h
      refine ⟨_, ?_, .bool _⟩
      intro w'
      simp only [binOp, Sem.run_bind, run_equal_bool (bool_spec ht), Result.andThen_ok, Sem.run_pure]
    · rename_i ht
      obtain rfl := Option.some.inj h
      refine ⟨_, ?_, .bool _⟩
      intro w'
      simp only [binOp, Sem.run_bind, run_equal_bool (bool_spec ht), Result.andThen_ok, Sem.run_pure]
    · cases h
  · exact lbin_sound hx hy h

theorem VR.asI {x : LV} {v : Value} (h : VR w per ι x v) {n : Int} (hn : asI x = some n) : ∃ k, v = .int k n := by
  cases h <;> simp only [Lite.asI, Option.some.injEq, reduceCtorEq] at hn
  subst hn; exact ⟨_, rfl⟩

theorem run_sliceBound {v : Value} {n : Int} {k : IntKind} {y : Nat} {code : BoundsCode} (hv : v = .int k n) (h0 : 0 ≤ n) (h1 : n ≤ y) : (Instr.sliceBound v y code).run P w = .ok n.toNat w := by
  subst hv
  simp [Instr.sliceBound, asIntOf, h0, h1]

def VO (w : World) (ι : Pl) (per : Nat → Prop) : Option LV → Option Value → Prop
  | none, none => True
  | some x, some v => VR w per ι x v
  | _, _ => False

theorem VO.map (hF : FR w ι per F a) (x : Option Operand) : VO w ι per (x.map (evalO F)) (x.map a.eval) := by
  cases x with
  | none => trivial
  | some x => exact hF.eval x

theorem bnds_sound {isSl : Bool} {len cap : Nat} (hlc : len ≤ cap) {lo hi : Option LV} {vlo vhi : Option Value}
    (hlo : VO w ι per lo vlo) (hhi : VO w ι per hi vhi) {l r : Nat} (h : sliceBnds len lo hi = some (l, r)) :
    (∀ w', (Instr.sliceBounds isSl len cap vlo vhi none).run P w' = .ok (l, r, cap) w') ∧ l ≤ r ∧ r ≤ len := by
  unfold sliceBnds at h
  split at h
  · rename_i hh ll ehi elo
    split at h
    · rename_i hc
      simp only [Option.some.injEq, Prod.mk.injEq] at h
      obtain ⟨rfl, rfl⟩ := h
      refine ⟨?_, by omega, by omega⟩
      intro w'
      unfold Instr.sliceBounds
      cases hi with
      | none =>
        cases vhi with
        | some v => exact hhi.elim
        | none =>
          simp only [hiOf, Option.some.injEq] at ehi
          subst ehi
          cases lo with
          | none =>
            cases vlo with
            | some v => exact hlo.elim
            | none =>
              simp only [loOf, Option.some.injEq] at elo
              subst elo
              simp
          | some x =>
            cases vlo with
            | none => exact hlo.elim
            | some u =>
              obtain ⟨k, rfl⟩ := VR.asI hlo elo
              simp [run_sliceBound (P := P) (w := w') (v := .int k ll) (y := len) rfl (by omega) (by omega)]
      | some y =>
        cases vhi with
        | none => exact hhi.elim
        | some v =>
          obtain ⟨kh, rfl⟩ := VR.asI hhi ehi
          have hb := fun code => run_sliceBound (P := P) (w := w') (v := .int kh hh) (y := cap) (code := code) rfl (by omega) (by omega)
          cases lo with
          | none =>
            cases vlo with
            | some v => exact hlo.elim
            | none =>
              simp only [loOf, Option.some.injEq] at elo
              subst elo
              simp [hb]
          | some x =>
            cases vlo with
            | none => exact hlo.elim
            | some u =>
              obtain ⟨k, rfl⟩ := VR.asI hlo elo
              have hl := fun code => run_sliceBound (P := P) (w := w') (v := .int k ll) (y := hh.toNat) (code := code) rfl (by omega) (by omega)
              simp [hb, hl]
    · cases h
  · cases h

theorem Room.le {b n m : Nat} (h : Room w b n) (hm : m ≤ n) : Room w b m := by
  obtain ⟨c, e, fz, h1, h2⟩ := h
  exact ⟨c, e, fz, h1, by omega⟩

theorem lmin_sound : ∀ (l : List LV) (vs : List Value) (x : LV) (v : Value) (r : LV), VL w ι per l vs → VR w per ι x v → lmin l x = some r →
    ∃ u, (∀ w', (vs.foldlM Builtin.min2 v).run P w' = .ok u w') ∧ VR w per ι r u := by
  intro l
  induction l with
  | nil =>
    intro vs x v r hl hx h
    have : vs = [] := by have := hl.1; simpa using this.symm
    subst this
    obtain rfl := Option.some.inj h
    exact ⟨v, by simp, hx⟩
  | cons y l ih =>
    intro vs x v r hl hx h
    cases vs with
    | nil => have := hl.1; simp at this
    | cons z vs =>
      cases y <;> try simp only [lmin, reduceCtorEq] at h
      rename_i k n
      cases x <;> try simp only [lmin, reduceCtorEq] at h
      rename_i k' m
      have hz := hl.2 0 (by simp)
      simp only [List.getElem_cons_zero, List.getD_cons_zero] at hz
      cases hz
      cases hx
      have hl' : VL w ι per l vs := by
        refine ⟨by simpa using hl.1, fun i hi => ?_⟩
        have := hl.2 (i + 1) (by simpa using hi)
        simpa using this
      obtain ⟨u, hu, hr⟩ := ih vs _ (.int k' (if n < m then n else m)) r hl' (.int _ _) h
      refine ⟨u, ?_, hr⟩
      intro w'
      simp only [List.foldlM_cons, Builtin.min2, pure_bind]
      exact hu w'

theorem lmax_sound : ∀ (l : List LV) (vs : List Value) (x : LV) (v : Value) (r : LV), VL w ι per l vs → VR w per ι x v → lmax l x = some r →
    ∃ u, (∀ w', (vs.foldlM Builtin.max2 v).run P w' = .ok u w') ∧ VR w per ι r u := by
  intro l
  induction l with
  | nil =>
    intro vs x v r hl hx h
    have : vs = [] := by have := hl.1; simpa using this.symm
    subst this
    obtain rfl := Option.some.inj h
    exact ⟨v, by simp, hx⟩
  | cons y l ih =>
    intro vs x v r hl hx h
    cases vs with
    | nil => have := hl.1; simp at this
    | cons z vs =>
      cases y <;> try simp only [lmax, reduceCtorEq] at h
      rename_i k n
      cases x <;> try simp only [lmax, reduceCtorEq] at h
      rename_i k' m
      have hz := hl.2 0 (by simp)
      simp only [List.getElem_cons_zero, List.getD_cons_zero] at hz
      cases hz
      cases hx
      have hl' : VL w ι per l vs := by
        refine ⟨by simpa using hl.1, fun i hi => ?_⟩
        have := hl.2 (i + 1) (by simpa using hi)
        simpa using this
      obtain ⟨u, hu, hr⟩ := ih vs _ (.int k' (if m < n then n else m)) r hl' (.int _ _) h
      refine ⟨u, ?_, hr⟩
      intro w'
      simp only [List.foldlM_cons, Builtin.max2, pure_bind]
      exact hu w'

/-- Persistent cells seen from a later cell on. -/
theorem VR.pp_drop {cs : List LV} {b o : Nat} (vs : Nat → Value) (hp : per b) (hc : ∀ i, i < cs.length → w.cell? ⟨b, o + i, none⟩ = some (vs i)) (hv : ∀ i (h : i < cs.length), VR w per [] cs[i] (vs i)) (n m : Nat) :
    VR w per ι (.pp ((cs.drop n).take m)) (.pointer (some ⟨b, o + n, none⟩)) := by
  refine .pp (fun i => vs (n + i)) hp (fun i hi => ?_) fun i hi => ?_
  · have : n + i < cs.length := by simp at hi; omega
    rw [← hc (n + i) this, Nat.add_assoc]
  · have : n + i < cs.length := by simp at hi; omega
    rw [List.getElem_take, List.getElem_drop]
    exact hv (n + i) this

theorem VR.pp_drop' {cs : List LV} {b o : Nat} (vs : Nat → Value) (hp : per b) (hc : ∀ i, i < cs.length → w.cell? ⟨b, o + i, none⟩ = some (vs i)) (hv : ∀ i (h : i < cs.length), VR w per [] cs[i] (vs i)) (n : Nat) :
    VR w per ι (.pp (cs.drop n)) (.pointer (some ⟨b, o + n, none⟩)) := by
  have := VR.pp_drop (ι := ι) vs hp hc hv n (cs.drop n).length
  rwa [List.take_length] at this

theorem evalL (hF : FR w ι per F a) (xs : List Operand) : VL w ι per (xs.map (evalO F)) (xs.map a.eval) :=
  ⟨by simp, fun i hi => by
    have hi' : i < xs.length := by simpa using hi
    simp [hi']
    exact hF.eval _⟩

theorem mul_mono_l {a b c : Nat} (h : a ≤ b) : a * c ≤ b * c := Nat.mul_le_mul_right c h

theorem pure_sound (hF : FR w ι per F a) {o : Oper} {x : LV} (h : pureOp P F o.op = some x) : Yields P w ι per x (execOp a.eval o) := by
  obtain ⟨dst, op, ty, pos, after, guard⟩ := o
  cases op with
  | move y =>
    obtain rfl := Option.some.inj h
    exact ⟨a.eval y, by intro w'; simp [execOp], hF.eval y⟩
  | assign y =>
    obtain rfl := Option.some.inj h
    exact ⟨a.eval y, by intro w'; simp [execOp], hF.eval y⟩
  | pick c y z =>
    simp only [pureOp] at h
    split at h
    · rename_i t ht
      have hc := hF.eval c
      rw [ht] at hc
      generalize hcv : a.eval c = v at hc
      cases hc
      obtain rfl := Option.some.inj h
      refine ⟨if t then a.eval y else a.eval z, ?_, ?_⟩
      · intro w'; simp [execOp, hcv, asBool]
      · cases t
        · exact hF.eval z
        · exact hF.eval y
    · cases h
  | nilCheck y =>
    simp only [pureOp] at h
    have hc := hF.eval y
    generalize hcv : a.eval y = v at hc
    split at h
    · rename_i e
      rw [e] at hc
      obtain rfl := Option.some.inj h
      refine ⟨v, ?_, hc⟩
      cases hc
      intro w'; simp [execOp, hcv]
    · rename_i e
      rw [e] at hc
      obtain rfl := Option.some.inj h
      refine ⟨v, ?_, hc⟩
      cases hc
      intro w'; simp [execOp, hcv]
    · rename_i e
      rw [e] at hc
      obtain rfl := Option.some.inj h
      refine ⟨v, ?_, hc⟩
      cases hc
      intro w'; simp [execOp, hcv]
    · cases h
  | binOp op t y z yt =>
    obtain ⟨v, hv, hr⟩ := lbinT_sound (P := P) (t := t) (ox := y) (oy := z) (hF.eval y) (hF.eval z) h
    refine ⟨v, ?_, hr⟩
    intro w'
    have hv := hv w'
    simp only [execOp, Sem.run_bind] at hv ⊢
    rw [hv]; simp
  | unOp op t y =>
    obtain ⟨v, hv, hr⟩ := lun_sound (P := P) (hF.eval y) h
    exact ⟨v, by intro w'; simp [execOp, hv], hr⟩
  | convert s d y =>
    simp only [pureOp] at h
    have hc := hF.eval y
    generalize hcv : a.eval y = v at hc
    split at h
    · rename_i ts k _ _ _ k' n hs hd e
      rw [e] at hc
      obtain rfl := Option.some.inj h
      obtain ⟨_, sd, _, _, hs2, _⟩ := ti_spec hs
      cases hc
      refine ⟨_, ?_, .int _ _⟩
      intro w'; simp only [execOp, hcv, convert, Sem.run_bind, run_underlying hs2, run_underlying (int_spec hd), Result.andThen_ok, Conv.intToInt, Sem.run_pure]
    · rename_i ts _ _ _ b hs hd e
      rw [e] at hc
      obtain rfl := Option.some.inj h
      obtain ⟨_, sd, _, _, hs2, _⟩ := ti_spec hs
      cases hc
      refine ⟨_, ?_, .str _⟩
      intro w'; simp only [execOp, hcv, convert, Sem.run_bind, run_underlying hs2, run_underlying (str_spec hd), Result.andThen_ok, Sem.run_pure]
    · cases h
  | extract y i =>
    simp only [pureOp] at h
    have hc := hF.eval y
    generalize hcv : a.eval y = v at hc
    split at h
    · rename_i vs e
      rw [e] at hc
      obtain ⟨us, rfl, hl⟩ := hc.tup_inv
      obtain ⟨u, hu, hr⟩ := hl.get h
      exact ⟨u, by intro w'; simp [execOp, hcv, Instr.extract, hu], hr⟩
    · cases h
  | makeFunc f first captured =>
    cases f with
    | func f =>
      simp only [pureOp] at h
      split at h
      · rename_i h0
        obtain rfl := Option.some.inj h
        have h1 : first = #[] := Array.eq_empty_of_size_eq_zero h0
        subst h1
        have hl := evalL hF captured.toList
        refine ⟨.func (.func f) #[] (captured.toList.map a.eval).toArray, ?_, .fn hl.1 hl.2⟩
        intro w'; simp [execOp, Instr.makeFunc]
        apply Array.ext'
        simp
      · cases h
    | _ => cases h
  | fieldAddr s y f =>
    simp only [pureOp] at h
    have hc := hF.eval y
    generalize hcv : a.eval y = v at hc
    split at h
    · rename_i fs _ _ _ hh oo hs e
      rw [e] at hc
      split at h
      · rename_i off size g hf
        split at h
        · cases h
        · rename_i hz
          obtain rfl := Option.some.inj h
          obtain ⟨fl, hu, hfl⟩ := struct_spec hs
          obtain ⟨fd, j, d, hfd, hj, hd, rfl, rfl, rfl⟩ := (fieldsOf_spec _ _ hfl).2 f _ _ _ hf
          obtain ⟨b, o, hi, rfl⟩ := hc.ptr_inv
          refine ⟨.pointer (some ⟨b, o + (oo + fd.offset), none⟩), ?_, .ptr hi⟩
          have hfd' : fl[f]? = some fd := by simpa using hfd
          intro w'; simp [execOp, hcv, Instr.fieldAt, run_underlying hu, hfd', Instr.sureAddr, fieldPlace, run_sizeOf hj, hz, add_plain, Nat.add_assoc]
      · cases h
    · rename_i fs _ _ _ cs hs e
      rw [e] at hc
      split at h
      · rename_i off size g hf
        split at h
        · cases h
        · rename_i hz
          obtain rfl := Option.some.inj h
          obtain ⟨fl, hu, hfl⟩ := struct_spec hs
          obtain ⟨fd, j, d, hfd, hj, hd, rfl, rfl, rfl⟩ := (fieldsOf_spec _ _ hfl).2 f _ _ _ hf
          obtain ⟨b, o, vs, hp, hcc, hvv, rfl⟩ := hc.pp_inv
          refine ⟨.pointer (some ⟨b, o + fd.offset, none⟩), ?_, VR.pp_drop' vs hp hcc hvv fd.offset⟩
          have hfd' : fl[f]? = some fd := by simpa using hfd
          intro w'; simp [execOp, hcv, Instr.fieldAt, run_underlying hu, hfd', Instr.sureAddr, fieldPlace, run_sizeOf hj, hz, add_plain]
      · cases h
    · cases h
  | field s y f =>
    simp only [pureOp] at h
    have hc := hF.eval y
    generalize hcv : a.eval y = v at hc
    split at h
    · rename_i fs _ _ _ cs hs e
      rw [e] at hc
      split at h
      · rename_i off size g hf
        obtain ⟨fl, hu, hfl⟩ := struct_spec hs
        obtain ⟨fd, j, d, hfd, hj, hd, rfl, rfl, rfl⟩ := (fieldsOf_spec _ _ hfl).2 f _ _ _ hf
        obtain ⟨vs, rfl, hl⟩ := hc.agg_inv
        obtain ⟨u, hu2, hr⟩ := lpart_sound hj hd hl h
        have hfd' : fl[f]? = some fd := by simpa using hfd
        refine ⟨u, ?_, hr⟩
        intro w'; simp [execOp, hcv, Instr.field, run_underlying hu, hfd', asAgg, hu2]
      · cases h
    · cases h
  | indexAddr t y i =>
    simp only [pureOp] at h
    have hc := hF.eval y
    have hn := hF.eval i
    generalize hcv : a.eval y = v at hc
    generalize hnv : a.eval i = vi at hn
    split at h
    · rename_i esz eb ez _ _ _ sz hh oo len k n ht e ei
      rw [e] at hc
      rw [ei] at hn
      split at h
      · rename_i hb
        obtain rfl := Option.some.inj h
        obtain ⟨et, j, ze, hu, hj, hsz, _⟩ := slice_spec ht
        cases hn
        rcases hc.sl_inv with ⟨b, o, cap, hi, hl, hr, rfl⟩ | ⟨h0, aa, rfl⟩
        · refine ⟨.pointer (some ⟨b, o + (oo + n.toNat * sz), none⟩), ?_, .ptr hi⟩
          intro w'; simp [execOp, hcv, hnv, Instr.indexAt, asIntOf, run_underlying hu, hb.2.1, hb.2.2, run_sizeOf hj, add_plain, hsz, hb.1, Nat.add_assoc]
        · omega
      · cases h
    · rename_i esz eb ez _ _ _ sz len cs k n ht e ei
      rw [e] at hc
      rw [ei] at hn
      split at h
      · rename_i hb
        obtain rfl := Option.some.inj h
        obtain ⟨et, j, ze, hu, hj, hsz, _⟩ := slice_spec ht
        cases hn
        rcases hc.ps_inv with ⟨b, o, cap, vs, hp, hnn, hl, hcc, hvv, rfl⟩ | ⟨h0, _, aa, cap, rfl⟩
        · refine ⟨.pointer (some ⟨b, o + n.toNat * sz, none⟩), ?_, VR.pp_drop vs hp hcc hvv _ _⟩
          intro w'; simp [execOp, hcv, hnv, Instr.indexAt, asIntOf, run_underlying hu, hb.2.1, hb.2.2, run_sizeOf hj, add_plain, hsz, hb.1]
        · omega
      · cases h
    · rename_i m esz eg _ _ _ hh oo k n ht e ei
      rw [e] at hc
      rw [ei] at hn
      split at h
      · rename_i hb
        obtain rfl := Option.some.inj h
        obtain ⟨et, j, d, hu, hj, hd, hsz, _⟩ := arr_spec ht
        cases hn
        obtain ⟨b, o, hi, rfl⟩ := hc.ptr_inv
        refine ⟨.pointer (some ⟨b, o + (oo + n.toNat * esz), none⟩), ?_, .ptr hi⟩
        intro w'; simp [execOp, hcv, hnv, Instr.indexAt, asIntOf, run_underlying hu, hb.1, hb.2, run_sizeOf hj, add_plain, hsz, Instr.sureAddr, Nat.add_assoc]
      · cases h
    · rename_i m esz eg _ _ _ cs k n ht e ei
      rw [e] at hc
      rw [ei] at hn
      split at h
      · rename_i hb
        obtain rfl := Option.some.inj h
        obtain ⟨et, j, d, hu, hj, hd, hsz, _⟩ := arr_spec ht
        cases hn
        obtain ⟨b, o, vs, hp, hcc, hvv, rfl⟩ := hc.pp_inv
        refine ⟨.pointer (some ⟨b, o + n.toNat * esz, none⟩), ?_, VR.pp_drop' vs hp hcc hvv _⟩
        intro w'; simp [execOp, hcv, hnv, Instr.indexAt, asIntOf, run_underlying hu, hb.1, hb.2, run_sizeOf hj, add_plain, hsz, Instr.sureAddr]
      · cases h
    · cases h
  | index t y i =>
    simp only [pureOp] at h
    have hc := hF.eval y
    have hn := hF.eval i
    generalize hcv : a.eval y = v at hc
    generalize hnv : a.eval i = vi at hn
    split at h
    · rename_i m esz eg _ _ _ cs k n ht e ei
      rw [e] at hc
      rw [ei] at hn
      split at h
      · rename_i hb
        obtain ⟨et, j, d, hu, hj, hd, hsz, heg, _⟩ := arr_spec ht
        subst hsz heg
        cases hn
        obtain ⟨vs, rfl, hl⟩ := hc.agg_inv
        obtain ⟨u, hu2, hr⟩ := lpart_sound hj hd hl h
        refine ⟨u, ?_, hr⟩
        intro w'; simp [execOp, hcv, hnv, Instr.index, asIntOf, run_underlying hu, hb.1, hb.2, run_sizeOf hj, hu2]
      · cases h
    · rename_i _ _ _ s k n ht e ei
      rw [e] at hc
      rw [ei] at hn
      split at h
      · rename_i hb
        split at h
        · rename_i bb hbb
          obtain rfl := Option.some.inj h
          cases hn
          cases hc
          refine ⟨.int .u8 bb.toNat, ?_, .int _ _⟩
          intro w'; simp [execOp, hcv, hnv, Instr.index, asIntOf, run_underlying (str_spec ht), hb, hbb]
        · cases h
      · cases h
    · cases h
  | build t parts =>
    simp only [pureOp] at h
    have hparts : ∀ (i : Nat) (p : Nat × LV), (parts.toList.map fun p => (p.1, evalO F p.2))[i]? = some p → ∃ v, (parts.toList.map fun p => (p.1, a.eval p.2))[i]? = some (p.1, v) ∧ VR w per ι p.2 v := by
      intro i p hp
      simp only [List.getElem?_map, Option.map_eq_some_iff] at hp ⊢
      obtain ⟨q, hq, rfl⟩ := hp
      exact ⟨a.eval q.2, ⟨q, hq, rfl⟩, hF.eval q.2⟩
    split at h
    · rename_i fs sz ag z ht
      obtain ⟨i, d, zv, hi, hd, hzv, hz, _, _, _, _⟩ := ti_spec ht
      obtain ⟨fl, hu, hfl⟩ := struct_spec ht
      have hspec := fieldsOf_spec _ _ hfl
      simp only [Option.map_eq_some_iff] at h
      obtain ⟨cs, hcs, rfl⟩ := h
      simp only at hz
      subst hz
      have hmap : ∀ (l : List Field) (lf : List (Nat × Nat × Bool)), fieldsOf P l = some lf → ∀ (acc : Array (Nat × Nat)) (w' : World),
          (l.foldlM (fun (bs : Array (Nat × Nat)) f => bs.push <$> (do pure (f.offset, ← sizeOf f.type) : Sem (Nat × Nat))) acc).run P w' = .ok (acc ++ (lf.map fun f => (f.1, f.2.1)).toArray) w' := by
        intro l
        induction l with
        | nil => intro lf hlf acc w'; obtain rfl := Option.some.inj hlf; simp
        | cons f r ih =>
          intro lf hlf acc w'
          simp only [fieldsOf] at hlf
          split at hlf
          · rename_i j dd l' hj hdd hl'
            obtain rfl := Option.some.inj hlf
            simp only [List.foldlM_cons, Sem.run_bind, Sem.run_map, run_sizeOf hj, Result.andThen_ok, Sem.run_pure]
            rw [ih l' hl']
            simp
          · cases hlf
      have hm : ∀ w', (fl.mapM fun f => (do pure (f.offset, ← sizeOf f.type) : Sem (Nat × Nat))).run P w' = .ok (fs.map fun f => (f.1, f.2.1)).toArray w' := by
        intro w'
        rw [Array.mapM_eq_foldlM, ← Array.foldlM_toList]
        have := hmap fl.toList fs hfl #[] w'
        simpa using this
      obtain ⟨out, ho, hl⟩ := lfill_sound (w := w) (ι := ι) (per := per) (fun i => (fs[i]?).map fun f => (f.1, f.2.1)) ((fs.map fun f => (f.1, f.2.1)).toArray[·]?) (by intro i; simp) _ _ (by simp) hparts _ zv.cells (VL.scalars _) cs hcs
      refine ⟨.agg out.toList.toArray, ?_, .agg hl.1 hl.2⟩
      have hpm : (parts.map fun (x : Nat × Operand) => (x.1, a.eval x.2)).toList = parts.toList.map fun p => (p.1, a.eval p.2) := by simp
      intro w'; simp only [execOp, Instr.build, Sem.run_bind, run_zeroValue hi hzv, Result.andThen_ok, run_underlying hu, hm]
      rw [hpm, ho]
      simp
    · rename_i n esz eg sz ag z ht
      obtain ⟨i, d, zv, hi, hd, hzv, hz, _, _, _, _⟩ := ti_spec ht
      obtain ⟨et, j, dd, hu, hj, hdd, hsz, _⟩ := arr_spec ht
      simp only [Option.map_eq_some_iff] at h
      obtain ⟨cs, hcs, rfl⟩ := h
      simp only at hz
      subst hz
      obtain ⟨out, ho, hl⟩ := lfill_sound (w := w) (ι := ι) (per := per) (fun i => some (i * esz, esz)) (fun i => some (i * esz, esz)) (by intro i; rfl) _ _ (by simp) hparts _ zv.cells (VL.scalars _) cs hcs
      refine ⟨.agg out.toList.toArray, ?_, .agg hl.1 hl.2⟩
      have hpm : (parts.map fun (x : Nat × Operand) => (x.1, a.eval x.2)).toList = parts.toList.map fun p => (p.1, a.eval p.2) := by simp
      intro w'; simp only [execOp, Instr.build, Sem.run_bind, run_zeroValue hi hzv, Result.andThen_ok, run_underlying hu, run_sizeOf hj, hsz]
      rw [hpm, ho]
      simp
    · cases h
  | slice t y lo hi mx =>
    cases mx with
    | some m => cases h
    | none =>
      simp only [pureOp] at h
      have hc := hF.eval y
      generalize hcv : a.eval y = v at hc
      have hlo := VO.map hF lo
      have hhi := VO.map hF hi
      split at h
      · rename_i _ _ _ s ht e
        rw [e] at hc
        split at h
        · rename_i l r hb
          obtain rfl := Option.some.inj h
          obtain ⟨hrun, _, _⟩ := bnds_sound (P := P) (w := w) (isSl := false) (Nat.le_refl s.size) hlo hhi hb
          cases hc
          refine ⟨.string (s.extract l r), ?_, .str _⟩
          intro w'; simp [execOp, hcv, Instr.sliceAt, Instr.slice, run_underlying (str_spec ht), hrun]
        · cases h
      · rename_i esz eb ez _ _ _ sz hh oo len ht e
        rw [e] at hc
        split at h
        · cases h
        · rename_i hse
          simp only [ne_eq, Decidable.not_not] at hse
          split at h
          · rename_i l r hb
            obtain rfl := Option.some.inj h
            obtain ⟨et, j, ze, hu, hj, hsz, _⟩ := slice_spec ht
            rcases hc.sl_inv with ⟨b, o, cap, hi', hl, hr, rfl⟩ | ⟨h0, aa, rfl⟩
            · obtain ⟨hrun, h1, h2⟩ := bnds_sound (P := P) (w := w) (isSl := true) hl hlo hhi hb
              by_cases hcl : cap = l
              · subst hcl
                have hrl : r - cap = 0 := by omega
                refine ⟨.slice (some ⟨b, o + oo, none⟩) 0 0, ?_, by rw [hrl]; exact .slz⟩
                intro w'; simp [execOp, hcv, Instr.sliceAt, Instr.slice, run_underlying hu, hrun, run_sizeOf hj, hrl]
              · refine ⟨.slice (some ⟨b, o + (oo + l * sz), none⟩) (r - l) (cap - l), ?_, .sl hi' (by omega) (hr.le ?_)⟩
                · intro w'; simp [execOp, hcv, Instr.sliceAt, Instr.slice, run_underlying hu, hrun, run_sizeOf hj, hcl, hsz, hse, add_plain, Nat.add_assoc]
                · have : l * sz + (cap - l) * sz = cap * sz := by rw [← Nat.add_mul]; congr 1; omega
                  omega
            · subst h0
              obtain ⟨hrun, h1, h2⟩ := bnds_sound (P := P) (w := w) (isSl := true) (Nat.le_refl 0) hlo hhi hb
              have hr0 : r - l = 0 := by omega
              have hl0 : l = 0 := by omega
              refine ⟨.slice aa 0 0, ?_, by rw [hr0]; exact .slz⟩
              intro w'; simp [execOp, hcv, Instr.sliceAt, Instr.slice, run_underlying hu, hrun, run_sizeOf hj, hl0]
              omega
          · cases h
      · rename_i esz eb ez _ _ _ sz len cs ht e
        rw [e] at hc
        split at h
        · cases h
        · rename_i hse
          simp only [ne_eq, Decidable.not_not] at hse
          split at h
          · rename_i l r hb
            obtain rfl := Option.some.inj h
            obtain ⟨et, j, ze, hu, hj, hsz, _⟩ := slice_spec ht
            replace hc := hc.ps_inv
            rcases hc with hc | hc
            · obtain ⟨b, o, cap, vs, hp, hnn, hl, hcc, hvv, rfl⟩ := hc
              obtain ⟨hrun, h1, h2⟩ := bnds_sound (P := P) (w := w) (isSl := true) hl hlo hhi hb
              by_cases hcl : cap = l
              · subst hcl
                have hrl : r - cap = 0 := by omega
                refine ⟨.slice (some ⟨b, o, none⟩) 0 0, ?_, by rw [hrl]; simp; exact .psz⟩
                intro w'; simp [execOp, hcv, Instr.sliceAt, Instr.slice, run_underlying hu, hrun, run_sizeOf hj, hrl]
              · have hlen : ((cs.drop (l * sz)).take ((r - l) * sz)).length = (r - l) * sz := by
                  have : l * sz + (r - l) * sz = r * sz := by rw [← Nat.add_mul]; congr 1; omega
                  have h3 : r * sz ≤ len * sz := Nat.mul_le_mul_right _ h2
                  simp; omega
                refine ⟨.slice (some ⟨b, o + l * sz, none⟩) (r - l) (cap - l), ?_, .ps (fun i => vs (l * sz + i)) hp hlen (by omega) (fun i hi => ?_) fun i hi => ?_⟩
                · intro w'; simp [execOp, hcv, Instr.sliceAt, Instr.slice, run_underlying hu, hrun, run_sizeOf hj, hcl, hsz, hse, add_plain]
                · have : l * sz + i < cs.length := by simp at hi; omega
                  rw [← hcc _ this, Nat.add_assoc]
                · have : l * sz + i < cs.length := by simp at hi; omega
                  rw [List.getElem_take, List.getElem_drop]
                  exact hvv _ this
            · obtain ⟨rfl, rfl, aa, cap, rfl⟩ := hc
              obtain ⟨hrun, h1, h2⟩ := bnds_sound (P := P) (w := w) (isSl := true) (Nat.zero_le cap) hlo hhi hb
              have hr0 : r - l = 0 := by omega
              refine ⟨_, ?_, by rw [hr0]; simp; exact .psz (a := if cap = l then aa else aa.map (·.add (l * j.size))) (cap := cap - l)⟩
              intro w'; simp [execOp, hcv, Instr.sliceAt, Instr.slice, run_underlying hu, hrun, run_sizeOf hj, hr0]
          · cases h
      · rename_i _ _ _ _ _ _ ht e
        rw [e] at hc
        split at h
        · rename_i lr hb
          obtain rfl := Option.some.inj h
          obtain ⟨et, j, ze, hu, hj, hsz, _⟩ := slice_spec ht
          cases hc
          obtain ⟨l, r⟩ := lr
          obtain ⟨hrun, h1, h2⟩ := bnds_sound (P := P) (w := w) (isSl := true) (Nat.le_refl 0) hlo hhi hb
          have hr0 : r = 0 := by omega
          have hl0 : l = 0 := by omega
          subst hr0 hl0
          refine ⟨.slice none 0 0, ?_, .nils⟩
          intro w'; simp [execOp, hcv, Instr.sliceAt, Instr.slice, run_underlying hu, hrun, run_sizeOf hj]
        · cases h
      · cases h
  | call c =>
    obtain ⟨callee, args, argTypes⟩ := c
    cases callee with
    | builtin b =>
      cases b with
      | len =>
        simp only [pureOp] at h
        split at h
        · rename_i _ _ _ sv e1 e2
          obtain ⟨t, ht, htt⟩ := Option.bind_eq_some_iff.1 e1
          obtain ⟨y, hy, e⟩ := Option.map_eq_some_iff.1 e2
          have hc := hF.eval y
          rw [e] at hc
          generalize hcv : a.eval y = v at hc
          cases hc
          obtain rfl := Option.some.inj h
          refine ⟨.int .i64 sv.size, ?_, .int _ _⟩
          intro w'; simp [execOp, resolve, invoke, builtin, Builtin.len_, ht, hy, hcv, run_underlying (str_spec htt), goInt]
        · rename_i _ _ _ _ _ _ _ _ _ n e1 e2
          obtain ⟨t, ht, htt⟩ := Option.bind_eq_some_iff.1 e1
          obtain ⟨y, hy, e⟩ := Option.map_eq_some_iff.1 e2
          have hc := hF.eval y
          rw [e] at hc
          generalize hcv : a.eval y = v at hc
          obtain rfl := Option.some.inj h
          obtain ⟨et, j, ze, hu, hj, hsz, _⟩ := slice_spec htt
          refine ⟨.int .i64 n, ?_, .int _ _⟩
          rcases hc.sl_inv with ⟨b, o, cap, hi, hl, hr, rfl⟩ | ⟨rfl, aa, rfl⟩ <;>
          (intro w'; simp [execOp, resolve, invoke, builtin, Builtin.len_, ht, hy, hcv, run_underlying hu, goInt])
        · rename_i _ _ _ _ _ _ _ n _ e1 e2
          obtain ⟨t, ht, htt⟩ := Option.bind_eq_some_iff.1 e1
          obtain ⟨y, hy, e⟩ := Option.map_eq_some_iff.1 e2
          have hc := hF.eval y
          rw [e] at hc
          generalize hcv : a.eval y = v at hc
          obtain rfl := Option.some.inj h
          obtain ⟨et, j, ze, hu, hj, hsz, _⟩ := slice_spec htt
          refine ⟨.int .i64 n, ?_, .int _ _⟩
          rcases hc.ps_inv with ⟨b, o, cap, vs, hp, hnn, hl, hcc, hvv, rfl⟩ | ⟨rfl, _, aa, cap, rfl⟩ <;>
          (intro w'; simp [execOp, resolve, invoke, builtin, Builtin.len_, ht, hy, hcv, run_underlying hu, goInt])
        · rename_i e1 e2
          obtain ⟨t, ht, htt⟩ := Option.bind_eq_some_iff.1 e1
          obtain ⟨y, hy, e⟩ := Option.map_eq_some_iff.1 e2
          have hc := hF.eval y
          rw [e] at hc
          generalize hcv : a.eval y = v at hc
          obtain rfl := Option.some.inj h
          obtain ⟨et, j, ze, hu, hj, hsz, _⟩ := slice_spec htt
          refine ⟨.int .i64 0, ?_, .int _ _⟩
          cases hc
          intro w'; simp [execOp, resolve, invoke, builtin, Builtin.len_, ht, hy, hcv, run_underlying hu, goInt]
        · rename_i n _ _ _ _ _ _ e1 e2
          obtain ⟨t, ht, htt⟩ := Option.bind_eq_some_iff.1 e1
          obtain ⟨y, hy, e⟩ := Option.map_eq_some_iff.1 e2
          obtain rfl := Option.some.inj h
          obtain ⟨et, j, d, hu, _⟩ := arr_spec htt
          refine ⟨.int .i64 n, ?_, .int _ _⟩
          intro w'; simp [execOp, resolve, invoke, builtin, Builtin.len_, ht, hy, run_underlying hu, goInt]
        · cases h
      | min =>
        simp only [pureOp] at h
        have hl := evalL hF args.toList
        split at h
        · rename_i x r e
          rw [e] at hl
          cases hv : args.toList.map a.eval with
          | nil => rw [hv] at hl; have := hl.1; simp at this
          | cons v vs =>
            rw [hv] at hl
            have hx := hl.2 0 (by simp)
            have hr : VL w ι per r vs := ⟨by simpa using hl.1, fun i hi => by have := hl.2 (i + 1) (by simpa using hi); simpa using this⟩
            obtain ⟨u, hu, hres⟩ := lmin_sound (P := P) r vs x v _ hr (by simpa using hx) h
            refine ⟨u, ?_, hres⟩
            have he : (args.map a.eval).toList = v :: vs := by simpa using hv
            intro w'; simp only [execOp, resolve, invoke, builtin, Builtin.min_, Sem.run_bind, Sem.run_pure, Result.andThen_ok, he, hu w']
        · cases h
      | max =>
        simp only [pureOp] at h
        have hl := evalL hF args.toList
        split at h
        · rename_i x r e
          rw [e] at hl
          cases hv : args.toList.map a.eval with
          | nil => rw [hv] at hl; have := hl.1; simp at this
          | cons v vs =>
            rw [hv] at hl
            have hx := hl.2 0 (by simp)
            have hr : VL w ι per r vs := ⟨by simpa using hl.1, fun i hi => by have := hl.2 (i + 1) (by simpa using hi); simpa using this⟩
            obtain ⟨u, hu, hres⟩ := lmax_sound (P := P) r vs x v _ hr (by simpa using hx) h
            refine ⟨u, ?_, hres⟩
            have he : (args.map a.eval).toList = v :: vs := by simpa using hv
            intro w'; simp only [execOp, resolve, invoke, builtin, Builtin.max_, Sem.run_bind, Sem.run_pure, Result.andThen_ok, he, hu w']
        · cases h
      | _ => cases h
    | _ => cases h
  | _ => cases h

end
end Go.Lite

/- Lite, part E: memory of the call's own: reading, writing, making rows; append and copy. -/
namespace Go.Lite
open Go Go.RowKit

mutual
def ment (h : Nat) : LV → Bool
  | .ptr h' _ => h' == h
  | .sl _ h' _ _ => h' == h
  | .fn _ cs => ments h cs
  | .agg cs => ments h cs
  | .tup cs => ments h cs
  | _ => false
def ments (h : Nat) : List LV → Bool
  | [] => false
  | c :: r => ment h c || ments h r
end

def sc (h : Nat) (x : LV) : LV := if ment h x then .dead else x
def scF (h : Nat) : Fr → Fr
  | [] => []
  | (t, x) :: r => (t, sc h x) :: scF h r
def scH (h : Nat) : Hp → Hp
  | [] => []
  | none :: r => none :: scH h r
  | some cs :: r => some (cs.map (sc h)) :: scH h r

def solid : LV → Bool
  | .dead | .und | .agg _ | .tup _ => false
  | _ => true

/-- The row behind a handle. -/
def row (H : Hp) (h : Nat) : Option (List LV) :=
  match H[h]? with
  | some (some cs) => some cs
  | _ => none

def putC (cs : List LV) (off : Nat) : List LV → List LV
  | [d] => cs.set off d
  | ds => putCells cs off ds

def zerosL (n : Nat) : List LV → List LV
  | [z] => List.replicate n z
  | zs => (List.replicate n zs).flatten

/-- The operations that read. -/
def loadOp (P : Program) (F : Fr) (H : Hp) : Op → Option LV
  | .load t x => match tiOf P t, evalO F x with
    | some ti, .ptr h o => (match row H h with | some cs => lpart ti.agg ti.size cs o | none => none)
    | some ti, .pp cs => lpart ti.agg ti.size cs 0
    | _, _ => none
  | _ => none

/-- The cells of a source of append or copy, and how many elements they are. -/
def srcCells (H : Hp) (esz : Nat) : LV → Option (Nat × List LV)
  | .nils => some (0, [])
  | .ps sz n cs => if sz = esz then some (n, cs) else none
  | .sl sz h o n => if sz = esz then (match row H h with | some cs => if o + n * sz ≤ cs.length then some (n, (cs.drop o).take (n * sz)) else none | none => none) else none
  | .str s => if esz = 1 then some (s.size, s.data.toList.map fun b => .int .u8 b.toNat) else none
  | _ => none

/-- The operations that make or write memory. -/
def effOp (P : Program) (F : Fr) (H : Hp) : Op → Option (LV × Fr × Hp)
  | .store t x y => match tiOf P t, evalO F x, lcells (evalO F y) with
    | some ti, .ptr h o, some ds => (match row H h with
      | some cs => if ds.length = ti.size ∧ o + ds.length ≤ cs.length ∧ ds.all solid = true then some (.und, F, H.set h (some (putC cs o ds))) else none
      | none => none)
    | _, _, _ => none
  | .alloc t => match tiOf P t with
    | some ti => some (.ptr H.length 0, F, H ++ [some ti.zero])
    | none => none
  | .box t x => match lcells (evalO F x) with
    | some cs => some (.ptr H.length 0, F, H ++ [some cs])
    | none => none
  | .buildSlice t len parts => match tiOf P t with
    | some ⟨.slice esz _ ez, _, _, _⟩ =>
      if len * esz ≤ 16777216 then
        (match lfill (fun i => some (i * esz, esz)) (zerosL len ez) (parts.toList.map fun p => (p.1, evalO F p.2)) with
        | some cs => some (.sl esz H.length 0 len, F, H ++ [some cs])
        | none => none)
      else none
    | _ => none
  | .makeSlice t l c => match tiOf P t, evalO F l, evalO F c with
    | some ⟨.slice esz eb ez, _, _, _⟩, .int _ n, .int _ m =>
      if 0 ≤ n ∧ n ≤ m ∧ m ≤ 281474976710656 ∧ eb * m ≤ 281474976710656 then some (.sl esz H.length 0 n.toNat, F, H ++ [some (zerosL n.toNat ez)]) else none
    | _, _, _ => none
  | .call ⟨.builtin .append, args, argTypes⟩ => match argTypes[0]?, argTypes[1]?, args[0]?, args[1]? with
    | some t, some u, some x, some y => match tiOf P t, tiOf P u with
      | some ⟨.slice esz eb _, _, _, _⟩, some ⟨ud, _, _, _⟩ =>
        (match ud with
        | .int _ => none
        | _ => match srcCells H esz (evalO F y), evalO F x with
          | some (n, xs), .nils => if n = 0 then some (.nils, F, H) else if n * eb ≤ 140737488355328 ∧ n ≤ 140737488355328 then some (.sl esz H.length 0 n, F, H ++ [some xs]) else none
          | some (n, xs), .sl sz h o m => (match row H h with
            | some cs => if sz = esz ∧ o + m * sz ≤ cs.length ∧ (m + n) * eb ≤ 140737488355328 ∧ m + n ≤ 140737488355328 ∧ xs.all solid = true then
                some (.sl sz h 0 (m + n), scF h F, (scH h H).set h (some ((((cs.drop o).take (m * sz)) ++ xs).map (sc h)))) else none
            | none => none)
          | _, _ => none)
      | _, _ => none
    | _, _, _, _ => none
  | .call ⟨.builtin .copy, args, argTypes⟩ => match argTypes[0]?, args[0]?, args[1]? with
    | some t, some x, some y => match tiOf P t with
      | some ⟨.slice esz eb _, _, _, _⟩ => (match evalO F x, srcCells H esz (evalO F y) with
        | .sl sz h o m, some (n, xs) => (match row H h with
          | some cs => if sz = esz ∧ o + m * sz ≤ cs.length ∧ xs.all solid = true then some (.int .i64 (Nat.min n m), F, H.set h (some (putCells cs o (xs.take (Nat.min n m * sz))))) else none
          | none => none)
        | _, _ => none)
      | _ => none
    | _, _, _ => none
  | _ => none

theorem fget_scF (h : Nat) (F : Fr) (t : Nat) : fget (scF h F) t = sc h (fget F t) := by
  induction F with
  | nil => simp [scF, fget, sc, ment]
  | cons p r ih =>
    obtain ⟨s, x⟩ := p
    simp only [scF, fget_cons]
    split
    · rfl
    · exact ih

theorem scH_get (h : Nat) (H : Hp) (k : Nat) : (scH h H)[k]? = (H[k]?).map fun r => r.map fun cs => cs.map (sc h) := by
  induction H generalizing k with
  | nil => simp [scH]
  | cons p r ih =>
    cases p with
    | none => cases k <;> simp [scH, ih]
    | some cs => cases k <;> simp [scH, ih]

theorem scH_length (h : Nat) (H : Hp) : (scH h H).length = H.length := by
  induction H with
  | nil => rfl
  | cons p r ih => cases p <;> simp [scH, ih]

theorem ments_get {h : Nat} {cs : List LV} (hm : ments h cs = false) : ∀ i (hi : i < cs.length), ment h cs[i] = false := by
  induction cs with
  | nil => intro i hi; simp at hi
  | cons c r ih =>
    simp only [ments, Bool.or_eq_false_iff] at hm
    intro i hi
    cases i with
    | zero => exact hm.1
    | succ i => exact ih hm.2 i (by simpa using hi)

section
variable {w : World} {ι ι' : Pl} {per : Nat → Prop}

theorem VR.reloc {h : Nat} {x : LV} {v : Value} (hv : VR w per ι x v) : ment h x = false → (∀ (k : Nat) (b : Nat × Nat), k ≠ h → ι[k]? = some (some b) → ι'[k]? = some (some b)) → VR w per ι' x v := by
  induction hv with
  | dead v => intro _ _; exact .dead v
  | und => intro _ _; exact .und
  | bool b => intro _ _; exact .bool b
  | int k n => intro _ _; exact .int k n
  | str s => intro _ _; exact .str s
  | nilp => intro _ _; exact .nilp
  | ptr hi =>
    intro hm hr
    simp only [ment, beq_eq_false_iff_ne] at hm
    exact .ptr (hr _ _ hm hi)
  | pp vs h1 h2 h3 _ => intro _ _; exact .pp vs h1 h2 h3
  | nils => intro _ _; exact .nils
  | sl h1 h2 h3 =>
    intro hm hr
    simp only [ment, beq_eq_false_iff_ne] at hm
    exact .sl (hr _ _ hm h1) h2 h3
  | slz => intro _ _; exact .slz
  | psz => intro _ _; exact .psz
  | ps vs h1 h2 h3 h4 h5 _ => intro _ _; exact .ps vs h1 h2 h3 h4 h5
  | nilf => intro _ _; exact .nilf
  | fn hn hv ih => intro hm hr; exact .fn hn fun i hi => ih i hi (ments_get (by simpa [ment] using hm) i hi) hr
  | agg hn hv ih => intro hm hr; exact .agg hn fun i hi => ih i hi (ments_get (by simpa [ment] using hm) i hi) hr
  | tup hn hv ih => intro hm hr; exact .tup hn fun i hi => ih i hi (ments_get (by simpa [ment] using hm) i hi) hr

theorem VR.sc {h : Nat} {x : LV} {v : Value} (hv : VR w per ι x v) (hr : ∀ (k : Nat) (b : Nat × Nat), k ≠ h → ι[k]? = some (some b) → ι'[k]? = some (some b)) : VR w per ι' (sc h x) v := by
  unfold Lite.sc
  split
  · exact .dead v
  · rename_i hm
    exact hv.reloc (by simpa using hm) hr

theorem VR.one {x : LV} {v : Value} (hv : VR w per ι x v) (hs : solid x = true) : v.oneCell' = true := by
  cases hv <;> first | rfl | (simp [solid] at hs)

end

/-- A block laid anew. -/
def setBlk (w : World) (b : Nat) (o : Obj) : World := { w with heap := w.heap.setIfInBounds b o }

theorem lt_of_get {w : World} {b : Nat} {o : Obj} (h : w.heap[b]? = some o) : b < w.heap.size := by
  rcases Nat.lt_or_ge b w.heap.size with h' | h'
  · exact h'
  · simp [Array.getElem?_eq_none h'] at h

theorem setCell_blk {w : World} {b o : Nat} {c : Array Value} {e : TypeId} {v : Value} (h : w.heap[b]? = some (.cells c e (0, 0))) :
    w.setCell ⟨b, o, none⟩ v = setBlk w b (.cells (c.setIfInBounds o v) e (0, 0)) := by
  have hb := lt_of_get h
  unfold World.setCell setBlk
  congr 1
  apply Array.ext_getElem?
  intro i
  simp only [Array.getElem?_modify, Array.getElem?_setIfInBounds]
  by_cases hi : b = i
  · subst hi
    rw [if_pos rfl, if_pos rfl, if_pos hb, h]
    rfl
  · simp [hi]

theorem cell_of_blk {w : World} {b o : Nat} {c : Array Value} {e : TypeId} {fz : Nat × Nat} (h : w.heap[b]? = some (.cells c e fz)) : w.cell? ⟨b, o, none⟩ = c[o]? := by
  simp [World.cell?, h]

theorem setBlk_get {w : World} {b k : Nat} {o : Obj} : (setBlk w b o).heap[k]? = if b = k then (if b < w.heap.size then some o else none) else w.heap[k]? := by
  unfold setBlk
  simp only [Array.getElem?_setIfInBounds]

theorem setBlk_size {w : World} {b : Nat} {o : Obj} : (setBlk w b o).heap.size = w.heap.size := by simp [setBlk]

theorem setBlk_setBlk {w : World} {b : Nat} {o o' : Obj} : setBlk (setBlk w b o) b o' = setBlk w b o' := by
  unfold setBlk
  simp

theorem setBlk_same {w : World} {b : Nat} {o : Obj} (h : w.heap[b]? = some o) : setBlk w b o = w := by
  have hb := lt_of_get h
  unfold setBlk
  have : w.heap.setIfInBounds b o = w.heap := by
    apply Array.ext_getElem?
    intro i
    simp only [Array.getElem?_setIfInBounds]
    by_cases hi : b = i
    · subst hi
      rw [if_pos rfl, if_pos hb, h]
    · simp [hi]
  rw [this]

/-- Cells stored one behind the other. -/
theorem run_storeCells {P : Program} {b o : Nat} {e : TypeId} (vs : List Value) : ∀ (i : Nat) (w : World) (c : Array Value), w.heap[b]? = some (.cells c e (0, 0)) → o + i + vs.length ≤ c.size →
    (∀ v ∈ vs, v.oneCell' = true) → ∃ c' : Array Value, (storeCells ⟨b, o, none⟩ vs i).run P w = .ok () (setBlk w b (.cells c' e (0, 0))) ∧ c'.size = c.size ∧
      ∀ k, c'.getD k undef = if o + i ≤ k ∧ k < o + i + vs.length then vs.getD (k - (o + i)) undef else c.getD k undef := by
  induction vs with
  | nil =>
    intro i w c h _ _
    refine ⟨c, ?_, rfl, fun k => ?_⟩
    · rw [setBlk_same h]; simp [storeCells]
    · rw [if_neg (by simp only [List.length_nil]; omega)]
  | cons v r ih =>
    intro i w c h hl hv
    simp only [List.length_cons] at hl
    have hcell : w.cell? ⟨b, o + i, none⟩ = some (c[o + i]'(by omega)) := by
      have : o + i < c.size := by omega
      rw [cell_of_blk h]; simp [this]
    have hb := lt_of_get h
    have hfz : w.frozen? ⟨b, o + i, none⟩ = false := by simp [World.frozen?, h]
    have h2 : (setBlk w b (.cells (c.setIfInBounds (o + i) v) e (0, 0))).heap[b]? = some (.cells (c.setIfInBounds (o + i) v) e (0, 0)) := by
      rw [setBlk_get]; simp [hb]
    obtain ⟨c', hrun, hs, hg⟩ := ih (i + 1) _ _ h2 (by simp; omega) (fun u hu => hv u (List.mem_cons_of_mem _ hu))
    refine ⟨c', ?_, by rw [hs]; simp, fun k => ?_⟩
    · simp only [storeCells, Sem.run_bind, add_plain, run_store P w _ v .plain (hv v (List.mem_cons_self ..)), hcell, hfz, Bool.false_eq_true, if_false, Result.andThen_ok]
      rw [setCell_blk h, hrun, setBlk_setBlk]
    · rw [hg k]
      simp only [List.length_cons]
      by_cases h1 : k = o + i
      · subst h1
        rw [if_neg (by omega), if_pos (by omega)]
        have hlt : o + i < c.size := by omega
        simp [hlt]
      · by_cases h3 : o + (i + 1) ≤ k ∧ k < o + (i + 1) + r.length
        · rw [if_pos h3, if_pos (by omega)]
          have : k - (o + i) = (k - (o + (i + 1))) + 1 := by omega
          rw [this, List.getD_cons_succ]
        · rw [if_neg h3, if_neg (by omega)]
          have : (c.setIfInBounds (o + i) v).getD k undef = c.getD k undef := by
            simp only [Array.getD_eq_getD_getElem?, Array.getElem?_setIfInBounds]
            rw [if_neg (by omega)]
          exact this

theorem run_loadCells {P : Program} {w : World} {b o : Nat} (vs : Nat → Value) (n : Nat) : ∀ (i : Nat) (acc : Array Value), (∀ j, i ≤ j → j < i + n → w.cell? ⟨b, o + j, none⟩ = some (vs j)) →
    (loadCellsFrom ⟨b, o, none⟩ i n acc).run P w = .ok (acc ++ ((List.range' i n).map vs).toArray) w := by
  induction n with
  | zero => intro i acc _; simp [loadCellsFrom]
  | succ n ih =>
    intro i acc h
    simp only [loadCellsFrom, Sem.run_bind, add_plain, run_load, h i (Nat.le_refl _) (by omega), Result.andThen_ok]
    rw [ih (i + 1) _ (fun j h1 h2 => h j (by omega) (by omega))]
    simp [List.range'_succ]

end Go.Lite

/- Lite, part F: the state while memory is made and written. -/
namespace Go.Lite
open Go Go.RowKit

structure ST (base : Nat) (per0 : Nat → Prop) (w0 : World) (N : Nat) (ι : Pl) (per : Nat → Prop) (F : Fr) (H : Hp) (a : Act) (w : World) : Prop where
  rep : Rep base w ι per H
  p1 : ∀ b, per b → per0 b ∨ base ≤ b
  p2 : ∀ b, per0 b → per b
  fr : FR w ι per F a
  size : a.tmps.size = N
  defers : a.defers = []
  below : Below base w0 w
  bs : base ≤ w.heap.size

theorem SR.of {base : Nat} {per0 : Nat → Prop} {w0 : World} {N : Nat} {ι : Pl} {per : Nat → Prop} {F : Fr} {H : Hp} {a : Act} {w : World} (h : ST base per0 w0 N ι per F H a w) : SR base per0 w0 N F H a w :=
  ⟨ι, per, h.rep, h.p1, h.p2, h.fr, h.size, h.defers, h.below, h.bs⟩

theorem SR.st {base : Nat} {per0 : Nat → Prop} {w0 : World} {N : Nat} {F : Fr} {H : Hp} {a : Act} {w : World} (h : SR base per0 w0 N F H a w) : ∃ ι per, ST base per0 w0 N ι per F H a w := by
  obtain ⟨ι, per, h1, h2, h3, h4, h5, h6, h7, h8⟩ := h
  exact ⟨ι, per, h1, h2, h3, h4, h5, h6, h7, h8⟩

section
variable {base : Nat} {per0 : Nat → Prop} {w0 : World} {N : Nat} {ι : Pl} {per : Nat → Prop} {F : Fr} {H : Hp} {a : Act} {w : World}

theorem Step.alloc (hp : ∀ b, per b → b < w.heap.size) (o : Obj) : Step per w (w.alloc o) := by
  refine ⟨fun b hb => Below.heap_alloc _ _ _ (hp b hb), fun b n hr => ?_⟩
  obtain ⟨c, e, fz, h1, h2⟩ := hr
  exact ⟨c, e, fz, by rw [Below.heap_alloc _ _ _ (lt_of_get h1)]; exact h1, h2⟩

theorem Step.blk {b : Nat} {c c' : Array Value} {e : TypeId} {fz : Nat × Nat} (h : w.heap[b]? = some (.cells c e fz)) (hb : ¬ per b) (hs : c'.size = c.size) :
    Step per w (setBlk w b (.cells c' e fz)) := by
  have hlt := lt_of_get h
  refine ⟨fun k hk => ?_, fun k n hr => ?_⟩
  · rw [setBlk_get, if_neg]
    intro e; subst e; exact hb hk
  · obtain ⟨d, e2, fz2, h1, h2⟩ := hr
    by_cases hk : b = k
    · subst hk
      rw [h] at h1
      simp only [Option.some.injEq, Obj.cells.injEq] at h1
      obtain ⟨rfl, rfl, rfl⟩ := h1
      exact ⟨c', e, fz, by rw [setBlk_get]; simp [hlt], by omega⟩
    · exact ⟨d, e2, fz2, by rw [setBlk_get, if_neg hk]; exact h1, h2⟩

theorem Step.heap {w' : World} (h : w'.heap = w.heap) : Step per w w' :=
  ⟨fun b _ => by rw [h], fun b n hr => by unfold Room at *; rw [h]; exact hr⟩

theorem FR.step {w' : World} {ι' : Pl} (hs : Step per w w') (hi : ∀ (h : Nat) (b : Nat × Nat), ι[h]? = some (some b) → ι'[h]? = some (some b)) (h : FR w ι per F a) : FR w' ι' per F a :=
  fun t => (h t).step hs (fun _ h => h) hi

theorem pl_push (x : Option (Nat × Nat)) : ∀ (h : Nat) (b : Nat × Nat), ι[h]? = some (some b) → (ι ++ [x])[h]? = some (some b) := by
  intro h b hb
  have : h < ι.length := by
    rcases Nat.lt_or_ge h ι.length with h' | h'
    · exact h'
    · simp [List.getElem?_eq_none h'] at hb
  rw [List.getElem?_append_left this]; exact hb

theorem row_some {h : Nat} {cs : List LV} (hr : row H h = some cs) : H[h]? = some (some cs) := by
  unfold row at hr
  split at hr
  · rename_i x hx; obtain rfl := Option.some.inj hr; exact hx
  · cases hr

theorem get_push {H : Hp} {r : Option (List LV)} {h : Nat} {cs : List LV} (hh : (H ++ [r])[h]? = some (some cs)) : H[h]? = some (some cs) ∨ (h = H.length ∧ r = some cs) := by
  rcases Nat.lt_trichotomy h H.length with h1 | h1 | h1
  · rw [List.getElem?_append_left h1] at hh; exact .inl hh
  · subst h1; simp at hh; exact .inr ⟨rfl, hh⟩
  · rw [List.getElem?_append_right (by omega)] at hh
    obtain ⟨m, hm⟩ : ∃ m, h - H.length = m + 1 := ⟨h - H.length - 1, by omega⟩
    rw [hm] at hh
    simp at hh

/-- A new row. -/
theorem ST.alloc (hst : ST base per0 w0 N ι per F H a w) {c : Array Value} {e : TypeId} {cs : List LV} (hl : cs.length ≤ c.size) (hv : ∀ i (hi : i < cs.length), VR w per ι cs[i] (c.getD i undef)) :
    ST base per0 w0 N (ι ++ [some (w.heap.size, 0)]) per F (H ++ [some cs]) a (w.alloc (.cells c e)) := by
  have hs := Step.alloc (w := w) hst.rep.perlt (.cells c e)
  have hnew : (w.alloc (.cells c e)).heap[w.heap.size]? = some (.cells c e (0, 0)) := by
    show (w.heap.push _)[w.heap.size]? = _
    rw [Array.getElem?_push_size]
  refine ⟨⟨by simp [hst.rep.len], fun b hb => by have := hst.rep.perlt b hb; simp; omega, fun h ds hh => ?_, fun h h' ds ds' b o b' o' hh hh' hi hi' hbb => ?_⟩, hst.p1, hst.p2,
    hst.fr.step hs (pl_push _), hst.size, hst.defers, hst.below.alloc hst.bs _, by have := hst.bs; simp; omega⟩
  · rcases get_push hh with h1 | ⟨rfl, h1⟩
    · rcases hst.rep.live h ds h1 with ⟨h2, h3⟩ | ⟨b, o, c', e', h2, h3, h4, h5, h6, h7⟩
      · refine .inl ⟨?_, h3⟩
        have : h < ι.length := by
          rcases Nat.lt_or_ge h ι.length with h' | h'
          · exact h'
          · simp [List.getElem?_eq_none h'] at h2
        rw [List.getElem?_append_left this]; exact h2
      · refine .inr ⟨b, o, c', e', pl_push _ _ _ h2, h3, h4, ?_, h6, fun i hi => (h7 i hi).step hs (fun _ h => h) (pl_push _)⟩
        rw [Below.heap_alloc _ _ _ (lt_of_get h5)]; exact h5
    · simp only [Option.some.injEq] at h1
      subst h1
      refine .inr ⟨w.heap.size, 0, c, e, ?_, hst.bs, fun hp => absurd (hst.rep.perlt _ hp) (by omega), hnew, by omega, fun i hi => ?_⟩
      · rw [← hst.rep.len]; simp
      · rw [Nat.zero_add]; exact (hv i hi).step hs (fun _ h => h) (pl_push _)
  · have key : ∀ (k : Nat) (d : List LV) (x y : Nat), H[k]? = some (some d) → (ι ++ [some (w.heap.size, 0)])[k]? = some (some (x, y)) → x < w.heap.size := by
      intro k d x y hk hx
      have hkl : k < ι.length := by
        rw [hst.rep.len]
        rcases Nat.lt_or_ge k H.length with h' | h'
        · exact h'
        · simp [List.getElem?_eq_none h'] at hk
      rw [List.getElem?_append_left hkl] at hx
      rcases hst.rep.live k d hk with ⟨h2, h3⟩ | ⟨b, o, c', e', h2, h3, h4, h5, h6, h7⟩
      · rw [h2] at hx; cases hx
      · rw [h2] at hx
        simp only [Option.some.injEq, Prod.mk.injEq] at hx
        have := lt_of_get h5
        omega
    have newi : ∀ (x y : Nat), (ι ++ [some (w.heap.size, 0)])[H.length]? = some (some (x, y)) → x = w.heap.size := by
      intro x y hx
      rw [← hst.rep.len] at hx
      simp at hx
      exact hx.1.symm
    have old : ∀ (k : Nat) (d : List LV) (x y : Nat), H[k]? = some (some d) → (ι ++ [some (w.heap.size, 0)])[k]? = some (some (x, y)) → ι[k]? = some (some (x, y)) := by
      intro k d x y hk hx
      have hkl : k < ι.length := by
        rw [hst.rep.len]
        rcases Nat.lt_or_ge k H.length with h' | h'
        · exact h'
        · simp [List.getElem?_eq_none h'] at hk
      rw [List.getElem?_append_left hkl] at hx
      exact hx
    rcases get_push hh with h1 | ⟨rfl, h1⟩ <;> rcases get_push hh' with h2 | ⟨rfl, h2⟩
    · exact hst.rep.inj h h' ds ds' b o b' o' h1 h2 (old _ _ _ _ h1 hi) (old _ _ _ _ h2 hi') hbb
    · have := key _ _ _ _ h1 hi
      have := newi _ _ hi'
      omega
    · have := key _ _ _ _ h2 hi'
      have := newi _ _ hi
      omega
    · rfl

theorem get_set {H : Hp} {r : Option (List LV)} {k h : Nat} {cs : List LV} (hk : k < H.length) (hh : (H.set k r)[h]? = some (some cs)) : (h = k ∧ r = some cs) ∨ (h ≠ k ∧ H[h]? = some (some cs)) := by
  by_cases e : h = k
  · subst e; simp [hk] at hh; exact .inl ⟨rfl, hh⟩
  · rw [List.getElem?_set_ne (fun x => e x.symm)] at hh; exact .inr ⟨e, hh⟩

theorem lt_row {h : Nat} {cs : List LV} (hh : H[h]? = some (some cs)) : h < H.length := by
  rcases Nat.lt_or_ge h H.length with h' | h'
  · exact h'
  · simp [List.getElem?_eq_none h'] at hh

/-- A row written in place. -/
theorem ST.row (hst : ST base per0 w0 N ι per F H a w) {h : Nat} {cs cs' : List LV} {b o : Nat} {c c' : Array Value} {e : TypeId} (hh : H[h]? = some (some cs)) (hi : ι[h]? = some (some (b, o)))
    (hc : w.heap[b]? = some (.cells c e (0, 0))) (hbb : base ≤ b) (hb : ¬ per b) (hs : c'.size = c.size) (hl : o + cs'.length ≤ c.size) (hv : ∀ i (hi : i < cs'.length), VR w per ι cs'[i] (c'.getD (o + i) undef)) :
    ST base per0 w0 N ι per F (H.set h (some cs')) a (setBlk w b (.cells c' e (0, 0))) := by
  have hstep := Step.blk (per := per) hc hb hs
  have hlt := lt_row hh
  have hblt := lt_of_get hc
  have hBelow : Below base w (setBlk w b (.cells c' e (0, 0))) := ⟨rfl, rfl, rfl, by rw [setBlk_size]; exact Nat.le_refl _, fun k hk => by rw [setBlk_get, if_neg (by omega)]⟩
  refine ⟨⟨by simp [hst.rep.len], fun k hk => by rw [setBlk_size]; exact hst.rep.perlt k hk, fun k ds hk => ?_, fun k k' ds ds' x y x' y' hk hk' hx hx' hxx => ?_⟩, hst.p1, hst.p2,
    hst.fr.step hstep (fun _ _ h => h), hst.size, hst.defers, hst.below.trans hBelow, by rw [setBlk_size]; exact hst.bs⟩
  · rcases get_set hlt hk with ⟨rfl, h1⟩ | ⟨hne, h1⟩
    · simp only [Option.some.injEq] at h1
      subst h1
      refine .inr ⟨b, o, c', e, hi, hbb, hb, ?_, by omega, fun i hi => (hv i hi).step hstep (fun _ h => h) (fun _ _ h => h)⟩
      rw [setBlk_get]; simp [hblt]
    · rcases hst.rep.live k ds h1 with ⟨h2, h3⟩ | ⟨b2, o2, c2, e2, h2, h3, h4, h5, h6, h7⟩
      · exact .inl ⟨h2, h3⟩
      · refine .inr ⟨b2, o2, c2, e2, h2, h3, h4, ?_, h6, fun i hi => (h7 i hi).step hstep (fun _ h => h) (fun _ _ h => h)⟩
        rw [setBlk_get, if_neg]
        · exact h5
        · intro e3
          exact hne (hst.rep.inj k h ds cs b2 o2 b o h1 hh h2 hi e3.symm)
  · have old : ∀ (k : Nat) (d : List LV), (H.set h (some cs'))[k]? = some (some d) → ∃ d', H[k]? = some (some d') := by
      intro k d hk
      rcases get_set hlt hk with ⟨rfl, _⟩ | ⟨_, h1⟩
      · exact ⟨cs, hh⟩
      · exact ⟨d, h1⟩
    obtain ⟨d1, h1⟩ := old k ds hk
    obtain ⟨d2, h2⟩ := old k' ds' hk'
    exact hst.rep.inj k k' d1 d2 x y x' y' h1 h2 hx hx' hxx

/-- A row that has moved: what spoke of it before is forgotten. -/
theorem ST.move (hst : ST base per0 w0 N ι per F H a w) {w' : World} {h : Nat} {cs' : List LV} {b o : Nat} {c' : Array Value} {e : TypeId} (hlt : h < H.length)
    (hstep : Step per w w') (hBelow : Below base w w') (hbb : base ≤ b) (hb : ¬ per b) (hc : w'.heap[b]? = some (.cells c' e (0, 0))) (hl : o + cs'.length ≤ c'.size)
    (hv : ∀ i (hi : i < cs'.length), VR w' per (ι.set h (some (b, o))) cs'[i] (c'.getD (o + i) undef))
    (hoth : ∀ (k : Nat) (ds : List LV) (x y : Nat), k ≠ h → H[k]? = some (some ds) → ι[k]? = some (some (x, y)) → x ≠ b ∧ w'.heap[x]? = w.heap[x]?) :
    ST base per0 w0 N (ι.set h (some (b, o))) per (scF h F) ((scH h H).set h (some cs')) a w' := by
  have hιl : h < ι.length := by rw [hst.rep.len]; exact hlt
  have hscl : h < (scH h H).length := by rw [scH_length]; exact hlt
  have hι : ∀ (k : Nat) (x : Nat × Nat), k ≠ h → ι[k]? = some (some x) → (ι.set h (some (b, o)))[k]? = some (some x) := by
    intro k x hk hx
    rw [List.getElem?_set_ne (fun e => hk e.symm)]; exact hx
  have hι2 : ∀ (k : Nat) (x : Option (Nat × Nat)), k ≠ h → (ι.set h (some (b, o)))[k]? = some x → ι[k]? = some x := by
    intro k x hk hx
    rw [List.getElem?_set_ne (fun e => hk e.symm)] at hx; exact hx
  have hself : (ι.set h (some (b, o)))[h]? = some (some (b, o)) := by simp [hιl]
  have oldrow : ∀ (k : Nat) (ds : List LV), k ≠ h → ((scH h H).set h (some cs'))[k]? = some (some ds) → ∃ d, H[k]? = some (some d) ∧ ds = d.map (sc h) := by
    intro k ds hk hh
    rcases get_set hscl hh with ⟨e, _⟩ | ⟨_, h1⟩
    · exact absurd e hk
    · rw [scH_get] at h1
      cases hg : H[k]? with
      | none => rw [hg] at h1; cases h1
      | some r =>
        rw [hg] at h1
        cases r with
        | none => cases h1
        | some d =>
          simp only [Option.map_some, Option.some.injEq] at h1
          exact ⟨d, rfl, h1.symm⟩
  refine ⟨⟨by simp [hst.rep.len, scH_length], fun k hk => Nat.lt_of_lt_of_le (hst.rep.perlt k hk) hBelow.size, fun k ds hk => ?_, fun k k' ds ds' x y x' y' hk hk' hx hx' hxx => ?_⟩, hst.p1, hst.p2,
    fun t => ?_, hst.size, hst.defers, hst.below.trans hBelow, Nat.le_trans hst.bs hBelow.size⟩
  · by_cases hkh : k = h
    · subst hkh
      simp [hscl] at hk
      subst hk
      exact .inr ⟨b, o, c', e, hself, hbb, hb, hc, hl, hv⟩
    · obtain ⟨d, h1, rfl⟩ := oldrow k ds hkh hk
      rcases hst.rep.live k d h1 with ⟨h2, h3⟩ | ⟨b2, o2, c2, e2, h2, h3, h4, h5, h6, h7⟩
      · subst h3
        refine .inl ⟨?_, rfl⟩
        rw [List.getElem?_set_ne (fun e => hkh e.symm)]; exact h2
      · obtain ⟨_, hsame⟩ := hoth k d b2 o2 hkh h1 h2
        refine .inr ⟨b2, o2, c2, e2, hι _ _ hkh h2, h3, h4, by rw [hsame]; exact h5, by simpa using h6, fun i hi => ?_⟩
        have hi' : i < d.length := by simpa using hi
        rw [List.getElem_map]
        exact ((h7 i hi').step hstep (fun _ h => h) (fun _ _ h => h)).sc hι
  · by_cases hkh : k = h <;> by_cases hkh' : k' = h
    · rw [hkh, hkh']
    · subst hkh
      obtain ⟨d, h1, _⟩ := oldrow k' ds' hkh' hk'
      rw [hself] at hx
      simp only [Option.some.injEq, Prod.mk.injEq] at hx
      have := (hoth k' d x' y' hkh' h1 (hι2 _ _ hkh' hx')).1
      omega
    · subst hkh'
      obtain ⟨d, h1, _⟩ := oldrow k ds hkh hk
      rw [hself] at hx'
      simp only [Option.some.injEq, Prod.mk.injEq] at hx'
      have := (hoth k d x y hkh h1 (hι2 _ _ hkh hx)).1
      omega
    · obtain ⟨d1, h1, _⟩ := oldrow k ds hkh hk
      obtain ⟨d2, h2, _⟩ := oldrow k' ds' hkh' hk'
      exact hst.rep.inj k k' d1 d2 x y x' y' h1 h2 (hι2 _ _ hkh hx) (hι2 _ _ hkh' hx') hxx
  · rw [fget_scF]
    exact ((hst.fr t).step hstep (fun _ h => h) (fun _ _ h => h)).sc hι

/-- A row that holds nothing any more, wherever it lay. -/
theorem ST.empty (hst : ST base per0 w0 N ι per F H a w) {h : Nat} (hlt : h < H.length) :
    ST base per0 w0 N (ι.set h none) per (scF h F) ((scH h H).set h (some [])) a w := by
  have hιl : h < ι.length := by rw [hst.rep.len]; exact hlt
  have hscl : h < (scH h H).length := by rw [scH_length]; exact hlt
  have hι : ∀ (k : Nat) (x : Nat × Nat), k ≠ h → ι[k]? = some (some x) → (ι.set h none)[k]? = some (some x) := by
    intro k x hk hx
    rw [List.getElem?_set_ne (fun e => hk e.symm)]; exact hx
  have hι2 : ∀ (k : Nat) (x : Option (Nat × Nat)), k ≠ h → (ι.set h none)[k]? = some x → ι[k]? = some x := by
    intro k x hk hx
    rw [List.getElem?_set_ne (fun e => hk e.symm)] at hx; exact hx
  have hself : (ι.set h none)[h]? = some none := by simp [hιl]
  have oldrow : ∀ (k : Nat) (ds : List LV), k ≠ h → ((scH h H).set h (some []))[k]? = some (some ds) → ∃ d, H[k]? = some (some d) ∧ ds = d.map (sc h) := by
    intro k ds hk hh
    rcases get_set hscl hh with ⟨e, _⟩ | ⟨_, h1⟩
    · exact absurd e hk
    · rw [scH_get] at h1
      cases hg : H[k]? with
      | none => rw [hg] at h1; cases h1
      | some r =>
        rw [hg] at h1
        cases r with
        | none => cases h1
        | some d =>
          simp only [Option.map_some, Option.some.injEq] at h1
          exact ⟨d, rfl, h1.symm⟩
  refine ⟨⟨by simp [hst.rep.len, scH_length], hst.rep.perlt, fun k ds hk => ?_, fun k k' ds ds' x y x' y' hk hk' hx hx' hxx => ?_⟩, hst.p1, hst.p2,
    fun t => ?_, hst.size, hst.defers, hst.below, hst.bs⟩
  · by_cases hkh : k = h
    · subst hkh
      simp [hscl] at hk
      subst hk
      exact .inl ⟨hself, rfl⟩
    · obtain ⟨d, h1, rfl⟩ := oldrow k ds hkh hk
      rcases hst.rep.live k d h1 with ⟨h2, h3⟩ | ⟨b2, o2, c2, e2, h2, h3, h4, h5, h6, h7⟩
      · subst h3
        refine .inl ⟨?_, rfl⟩
        rw [List.getElem?_set_ne (fun e => hkh e.symm)]; exact h2
      · refine .inr ⟨b2, o2, c2, e2, hι _ _ hkh h2, h3, h4, h5, by simpa using h6, fun i hi => ?_⟩
        have hi' : i < d.length := by simpa using hi
        rw [List.getElem_map]
        exact (h7 i hi').sc hι
  · by_cases hkh : k = h
    · subst hkh; rw [hself] at hx; cases hx
    · by_cases hkh' : k' = h
      · subst hkh'; rw [hself] at hx'; cases hx'
      · obtain ⟨d1, h1, _⟩ := oldrow k ds hkh hk
        obtain ⟨d2, h2, _⟩ := oldrow k' ds' hkh' hk'
        exact hst.rep.inj k k' d1 d2 x y x' y' h1 h2 (hι2 _ _ hkh hx) (hι2 _ _ hkh' hx') hxx
  · rw [fget_scF]
    exact (hst.fr t).sc hι

theorem ST.same {w' : World} (hst : ST base per0 w0 N ι per F H a w) (h : w'.heap = w.heap) (ho : w'.os = w.os) (ht : w'.tape = w.tape) (hp : w'.output = w.output) : ST base per0 w0 N ι per F H a w' := by
  have hs : Step per w w' := Step.heap h
  refine ⟨⟨hst.rep.len, fun b hb => by rw [h]; exact hst.rep.perlt b hb, fun k ds hk => ?_, hst.rep.inj⟩, hst.p1, hst.p2, hst.fr.step hs (fun _ _ h => h), hst.size, hst.defers,
    hst.below.trans ⟨ho, ht, hp, by rw [h]; exact Nat.le_refl _, fun k _ => by rw [h]⟩, by rw [h]; exact hst.bs⟩
  rcases hst.rep.live k ds hk with h1 | ⟨b, o, c, e, h1, h2, h3, h4, h5, h6⟩
  · exact .inl h1
  · exact .inr ⟨b, o, c, e, h1, h2, h3, by rw [h]; exact h4, h5, fun i hi => (h6 i hi).step hs (fun _ h => h) (fun _ _ h => h)⟩

end
end Go.Lite
