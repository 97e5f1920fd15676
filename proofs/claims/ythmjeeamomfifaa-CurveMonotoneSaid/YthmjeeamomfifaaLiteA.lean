/- Lite, part A: plain values, the relation to the model's values, the state, and the rules of control. -/
import Derived.Calls
import Derived.Tactics
import Derived.Tactics2
import Derived.Below
import Derived.Deep.Quiet
import Derived.Laws.World
namespace Go.Lite
open Go Go.RowKit
set_option linter.unusedVariables false

/-- A value as a reader sees it: what a slice holds stands in it (ps), or lies in a numbered row of the call's own (sl, ptr). -/
inductive LV where
  | dead
  | und
  | bool (b : Bool)
  | int (k : IntKind) (n : Int)
  | str (s : ByteArray)
  | nilp
  | ptr (h off : Nat)
  | pp (cs : List LV)
  | nils
  | sl (sz h off len : Nat)
  | ps (sz len : Nat) (cs : List LV)
  | nilf
  | fn (f : Nat) (cap : List LV)
  | agg (cs : List LV)
  | tup (cs : List LV)

instance : Inhabited LV := ⟨.dead⟩

abbrev Hp := List (Option (List LV))
abbrev Fr := List (Nat × LV)
abbrev Pl := List (Option (Nat × Nat))

def fget : Fr → Nat → LV
  | [], _ => .dead
  | (s, v) :: r, t => cond (Nat.beq s t) v (fget r t)

/-- The newest comes first. -/
def fset (F : Fr) (t : Nat) (v : LV) : Fr := (t, v) :: F

theorem fget_cons (s : Nat) (v : LV) (r : Fr) (t : Nat) : fget ((s, v) :: r) t = if s = t then v else fget r t := by
  simp only [fget]
  by_cases h : s = t
  · subst h; simp
  · have : Nat.beq s t = false := by
      rw [← Bool.not_eq_true]; intro h2; exact h (Nat.eq_of_beq_eq_true h2)
    rw [this, if_neg h]; rfl

theorem fget_fset (F : Fr) (t u : Nat) (v : LV) : fget (fset F t v) u = if t = u then v else fget F u := fget_cons t v F u

/-- There is room in block b up to cell n. -/
def Room (w : World) (b n : Nat) : Prop := ∃ c e fz, w.heap[b]? = some (.cells c e fz) ∧ n ≤ c.size

inductive VR (w : World) (per : Nat → Prop) : Pl → LV → Value → Prop where
  | dead {ι : Pl} (v : Value) : VR w per ι .dead v
  | und {ι : Pl} : VR w per ι .und undef
  | bool {ι : Pl} (b : Bool) : VR w per ι (.bool b) (.bool b)
  | int {ι : Pl} (k : IntKind) (n : Int) : VR w per ι (.int k n) (.int k n)
  | str {ι : Pl} (s : ByteArray) : VR w per ι (.str s) (.string s)
  | nilp {ι : Pl} : VR w per ι .nilp (.pointer none)
  | ptr {ι : Pl} {h off b o : Nat} (hi : ι[h]? = some (some (b, o))) : VR w per ι (.ptr h off) (.pointer (some ⟨b, o + off, none⟩))
  | pp {ι : Pl} {cs : List LV} {b o : Nat} (vs : Nat → Value) (hp : per b)
      (hc : ∀ i, i < cs.length → w.cell? ⟨b, o + i, none⟩ = some (vs i)) (hv : ∀ i (h : i < cs.length), VR w per [] cs[i] (vs i)) :
      VR w per ι (.pp cs) (.pointer (some ⟨b, o, none⟩))
  | nils {ι : Pl} : VR w per ι .nils (.slice none 0 0)
  | sl {ι : Pl} {sz h off len b o cap : Nat} (hi : ι[h]? = some (some (b, o))) (hl : len ≤ cap) (hr : Room w b (o + off + cap * sz)) :
      VR w per ι (.sl sz h off len) (.slice (some ⟨b, o + off, none⟩) len cap)
  | slz {ι : Pl} {sz h off : Nat} {a : Option Addr} : VR w per ι (.sl sz h off 0) (.slice a 0 0)
  | psz {ι : Pl} {sz cap : Nat} {a : Option Addr} : VR w per ι (.ps sz 0 []) (.slice a 0 cap)
  | ps {ι : Pl} {sz len : Nat} {cs : List LV} {b o cap : Nat} (vs : Nat → Value) (hp : per b) (hn : cs.length = len * sz) (hl : len ≤ cap)
      (hc : ∀ i, i < cs.length → w.cell? ⟨b, o + i, none⟩ = some (vs i)) (hv : ∀ i (h : i < cs.length), VR w per [] cs[i] (vs i)) :
      VR w per ι (.ps sz len cs) (.slice (some ⟨b, o, none⟩) len cap)
  | nilf {ι : Pl} : VR w per ι .nilf .nilFunc
  | fn {ι : Pl} {f : Nat} {cap : List LV} {vs : List Value} (hn : cap.length = vs.length) (hv : ∀ i (h : i < cap.length), VR w per ι cap[i] (vs.getD i undef)) :
      VR w per ι (.fn f cap) (.func (.func f) #[] vs.toArray)
  | agg {ι : Pl} {cs : List LV} {vs : List Value} (hn : cs.length = vs.length) (hv : ∀ i (h : i < cs.length), VR w per ι cs[i] (vs.getD i undef)) :
      VR w per ι (.agg cs) (.agg vs.toArray)
  | tup {ι : Pl} {cs : List LV} {vs : List Value} (hn : cs.length = vs.length) (hv : ∀ i (h : i < cs.length), VR w per ι cs[i] (vs.getD i undef)) :
      VR w per ι (.tup cs) (.tuple vs.toArray)

/-- From w to w' only blocks outside per have turned, and no block has changed its size. -/
structure Step (per : Nat → Prop) (w w' : World) : Prop where
  same : ∀ b, per b → w'.heap[b]? = w.heap[b]?
  room : ∀ b n, Room w b n → Room w' b n

theorem Step.refl (per : Nat → Prop) (w : World) : Step per w w := ⟨fun _ _ => rfl, fun _ _ h => h⟩
theorem Step.trans {per : Nat → Prop} {a b c : World} (h : Step per a b) (k : Step per b c) : Step per a c :=
  ⟨fun x hx => (k.same x hx).trans (h.same x hx), fun x n r => k.room x n (h.room x n r)⟩

theorem VR.step {w w' : World} {per per' : Nat → Prop} (hs : Step per w w') (hp : ∀ b, per b → per' b) {ι : Pl} {x : LV} {v : Value} (h : VR w per ι x v) :
    ∀ {ι' : Pl}, (∀ (h : Nat) (b : Nat × Nat), ι[h]? = some (some b) → ι'[h]? = some (some b)) → VR w' per' ι' x v := by
  induction h with
  | dead v => intro ι' _; exact .dead v
  | und => intro ι' _; exact .und
  | bool b => intro ι' _; exact .bool b
  | int k n => intro ι' _; exact .int k n
  | str s => intro ι' _; exact .str s
  | nilp => intro ι' _; exact .nilp
  | ptr h => intro ι' hi; exact .ptr (hi _ _ h)
  | @pp _ cs b o vs hpb hc hv ih =>
    intro ι' _
    refine .pp vs (hp _ hpb) (fun i h => ?_) fun i h => ih i h (fun _ _ h => h)
    rw [← hc i h]; exact World.cell?_of_block (hs.same b hpb)
  | nils => intro ι' _; exact .nils
  | sl h1 h2 h3 => intro ι' hi; exact .sl (hi _ _ h1) h2 (hs.room _ _ h3)
  | slz => intro ι' _; exact .slz
  | psz => intro ι' _; exact .psz
  | @ps _ sz len cs b o cap vs hpb hn hl hc hv ih =>
    intro ι' _
    refine .ps vs (hp _ hpb) hn hl (fun i h => ?_) fun i h => ih i h (fun _ _ h => h)
    rw [← hc i h]; exact World.cell?_of_block (hs.same b hpb)
  | nilf => intro ι' _; exact .nilf
  | fn hn hv ih => intro ι' hi; exact .fn hn fun i h => ih i h hi
  | agg hn hv ih => intro ι' hi; exact .agg hn fun i h => ih i h hi
  | tup hn hv ih => intro ι' hi; exact .tup hn fun i h => ih i h hi

/-- From w to w' the blocks of kp are as they were, no block has changed its size, no stream has turned. -/
structure Kept (kp : Nat → Prop) (w w' : World) : Prop where
  os : w'.os = w.os
  tape : w'.tape = w.tape
  output : w'.output = w.output
  size : w.heap.size ≤ w'.heap.size
  step : Step kp w w'

theorem Kept.refl (kp : Nat → Prop) (w : World) : Kept kp w w := ⟨rfl, rfl, rfl, Nat.le_refl _, .refl _ _⟩
theorem Kept.trans {kp : Nat → Prop} {a b c : World} (h : Kept kp a b) (k : Kept kp b c) : Kept kp a c :=
  ⟨k.os.trans h.os, k.tape.trans h.tape, k.output.trans h.output, Nat.le_trans h.size k.size, h.step.trans k.step⟩
theorem Kept.mono {kp kp' : Nat → Prop} {a b : World} (h : Kept kp a b) (hk : ∀ b, kp' b → kp b) : Kept kp' a b :=
  ⟨h.os, h.tape, h.output, h.size, fun b hb => h.step.same b (hk b hb), h.step.room⟩

/-- The rows of the call's own, and where they lie: outside kp and per. -/
structure Rep (kp : Nat → Prop) (w : World) (ι : Pl) (per : Nat → Prop) (H : Hp) : Prop where
  len : ι.length = H.length
  perlt : ∀ b, per b → b < w.heap.size
  live : ∀ (h : Nat) (cs : List LV), H[h]? = some (some cs) → (ι[h]? = some none ∧ cs = []) ∨
    ∃ b o c e, ι[h]? = some (some (b, o)) ∧ ¬ kp b ∧ ¬ per b ∧ w.heap[b]? = some (.cells c e (0, 0)) ∧ o + cs.length ≤ c.size ∧
      ∀ i (hi : i < cs.length), VR w per ι cs[i] (c.getD (o + i) undef)
  inj : ∀ (h h' : Nat) (cs cs' : List LV) (b o b' o' : Nat), H[h]? = some (some cs) → H[h']? = some (some cs') → ι[h]? = some (some (b, o)) → ι[h']? = some (some (b', o')) → b = b' → h = h'

theorem Rep.nil (kp : Nat → Prop) (w : World) (per : Nat → Prop) (hp : ∀ b, per b → b < w.heap.size) : Rep kp w [] per [] :=
  ⟨rfl, hp, fun h cs hh => by simp at hh, fun h h' cs cs' b o b' o' hh => by simp at hh⟩

/-- A frame's slots; the rows that came in with the call. -/
structure Dim where
  n : Nat
  m : Nat

/-- What a call found: the blocks that it must keep, those that it may read, the world, the rows that came in. -/
structure Ctx where
  kp : Nat → Prop
  per0 : Nat → Prop
  w0 : World
  ι0 : Pl

/-- The state: frame and rows F, H stand for the slots and the world. -/
def SR (cx : Ctx) (N : Dim) (F : Fr) (H : Hp) (a : Act) (w : World) : Prop :=
  ∃ ι per, Rep cx.kp w ι per H ∧ (∀ b, per b → cx.per0 b ∨ ¬ cx.kp b) ∧ (∀ b, cx.per0 b → per b) ∧ (∀ t, VR w per ι (fget F t) (a.tmps.getD t undef)) ∧
    a.tmps.size = N.n ∧ a.defers = [] ∧ Kept cx.kp cx.w0 w ∧ (∀ b, cx.kp b → b < w.heap.size) ∧ (cx.ι0.length = N.m ∧ ∀ h, h < N.m → ι[h]? = cx.ι0[h]?)

abbrev LPost := Exit → Fr → Hp → Prop

def LQ (Q : LPost) (cx : Ctx) (N : Dim) (e : Exit) (a : Act) (w : World) : Prop :=
  ∃ F H, Q e F H ∧ SR cx N F H a w

/-- No way out but these: on, out of a block, back. -/
def Good (Q : LPost) : Prop := ∀ F H, ¬ Q .outgrown F H

def Lwp (P : Program) (N : Dim) (c : Code) (Q : LPost) (F : Fr) (H : Hp) : Prop :=
  ∀ cx a w, SR cx N F H a w → c.wp P (LQ Q cx N) a w

theorem Lwp.mono {P : Program} {N : Dim} {c : Code} {Q Q' : LPost} {F : Fr} {H : Hp} (h : Lwp P N c Q F H) (hq : ∀ e F H, Q e F H → Q' e F H) : Lwp P N c Q' F H :=
  fun cx a w hs => wp_mono (h cx a w hs) fun e a' w' ⟨F', H', q, s⟩ => ⟨F', H', hq _ _ _ q, s⟩

section rules
variable {P : Program} {N : Dim} {Q : LPost} {F : Fr} {H : Hp}

theorem lwp_skip (h : Q .normal F H) : Lwp P N .skip Q F H := fun _ _ _ hs => wp_skip ⟨F, H, h, hs⟩
theorem lwp_label {l : Nat} (h : Q .normal F H) : Lwp P N (.label l) Q F H := fun _ _ _ hs => wp_label ⟨F, H, h, hs⟩
theorem lwp_exit {id : Nat} (h : Q (.exit id) F H) : Lwp P N (.exit id) Q F H := fun _ _ _ hs => wp_exit ⟨F, H, h, hs⟩
theorem lwp_ret (h : Q .ret F H) : Lwp P N .ret Q F H := fun _ _ _ hs => wp_ret ⟨F, H, h, hs⟩

/-- On to the next piece. -/
def seqQ (K : Fr → Hp → Prop) (Q : LPost) : LPost
  | .normal, F, H => K F H
  | e, F, H => Q e F H

theorem lwp_seq {x y : Code} (h : Lwp P N x (seqQ (Lwp P N y Q) Q) F H) : Lwp P N (.seq x y) Q F H := by
  intro cx a w hs
  refine wp_seq (wp_mono (h cx a w hs) fun e a' w' ⟨F', H', q, s⟩ => ?_)
  cases e <;> first | exact q cx a' w' s | exact ⟨F', H', q, s⟩

def blockQ (id : Nat) (Q : LPost) : LPost
  | .exit id', F, H => if id' = id then Q .normal F H else Q (.exit id') F H
  | e, F, H => Q e F H

theorem lwp_block {id : Nat} {c : Code} (h : Lwp P N c (blockQ id Q) F H) : Lwp P N (.block id c) Q F H := by
  intro cx a w hs
  refine wp_block (wp_mono (h cx a w hs) fun e a' w' ⟨F', H', q, s⟩ => ?_)
  cases e with
  | exit id' =>
    simp only [blockQ] at q
    simp only [Exit.inBlock]
    split
    · rename_i h; rw [if_pos h] at q; exact ⟨F', H', q, s⟩
    · rename_i h; rw [if_neg h] at q; exact ⟨F', H', q, s⟩
  | _ => exact ⟨F', H', q, s⟩

theorem exists_min (p : Nat → Prop) (h : ∃ n, p n) : ∃ n, p n ∧ ∀ m, p m → n ≤ m := by
  obtain ⟨n, hn⟩ := h
  induction n using Nat.strongRecOn with
  | _ n ih =>
    by_cases hx : ∃ m, m < n ∧ p m
    · obtain ⟨m, hm, hp⟩ := hx
      exact ih m hm hp
    · refine ⟨n, hn, fun m hm => ?_⟩
      rcases Nat.lt_or_ge m n with h' | h'
      · exact absurd ⟨m, h', hm⟩ hx
      · exact h'

theorem wp_loop_rel {c : Code} {Q : Exit → Act → World → Prop} (R : Nat → Act → World → Prop)
    (round : ∀ n a w, R n a w → c.wp P (Exit.then (fun a' w' => ∃ m, m < n ∧ R m a' w') Q) a w) {n : Nat} {a : Act} {w : World} (h0 : R n a w) : (Code.loop c).wp P Q a w := by
  classical
  let μ : Act → World → Nat := fun a w => if h : ∃ n, R n a w then (exists_min _ h).choose else 0
  have hμ : ∀ a w, (∃ n, R n a w) → R (μ a w) a w := by
    intro a w h
    simp only [μ, dif_pos h]
    exact (exists_min _ h).choose_spec.1
  have hle : ∀ a w n, R n a w → μ a w ≤ n := by
    intro a w n h
    have h' : ∃ n, R n a w := ⟨n, h⟩
    simp only [μ, dif_pos h']
    exact (exists_min _ h').choose_spec.2 n h
  refine wp_loop (I := fun a w => ∃ n, R n a w) μ ⟨n, h0⟩ fun a w hI => ?_
  refine wp_mono (round _ a w (hμ a w hI)) fun e a' w' h => ?_
  cases e with
  | normal =>
    obtain ⟨m, hm, hR⟩ := h
    exact ⟨⟨m, hR⟩, Nat.lt_of_le_of_lt (hle a' w' m hR) hm⟩
  | _ => exact h

/-- A loop: at the head of each round the state is one of a family; each round that goes on lowers the number. -/
theorem lwp_loop {c : Code} (R : Nat → Fr → Hp → Prop) {n : Nat} (h0 : R n F H)
    (round : ∀ n F H, R n F H → Lwp P N c (seqQ (fun F' H' => ∃ m, m < n ∧ R m F' H') Q) F H) : Lwp P N (.loop c) Q F H := by
  intro cx a w hs
  refine wp_loop_rel (fun n a w => ∃ F H, R n F H ∧ SR cx N F H a w) (fun n a w ⟨F, H, hR, hs⟩ => ?_) ⟨F, H, h0, hs⟩
  refine wp_mono (round n F H hR cx a w hs) fun e a' w' ⟨F', H', q, s⟩ => ?_
  cases e with
  | normal =>
    obtain ⟨m, hm, hR'⟩ := q
    exact ⟨m, hm, F', H', hR', s⟩
  | _ => exact ⟨F', H', q, s⟩

/-- Slots may be forgotten. -/
theorem SR.weaken {cx : Ctx} {N : Dim} {F F' : Fr} {H : Hp} {a : Act} {w : World} (hF : ∀ t, fget F' t = fget F t ∨ fget F' t = .dead)
    (h : SR cx N F H a w) : SR cx N F' H a w := by
  obtain ⟨ι, per, h1, h2, h3, h4, h5⟩ := h
  refine ⟨ι, per, h1, h2, h3, fun t => ?_, h5⟩
  rcases hF t with e | e
  · rw [e]; exact h4 t
  · rw [e]; exact .dead _

theorem lwp_weaken {c : Code} {F' : Fr} (hF : ∀ t, fget F' t = fget F t ∨ fget F' t = .dead) (h : Lwp P N c Q F' H) : Lwp P N c Q F H :=
  fun cx a w hs => h cx a w (hs.weaken hF)

end rules
end Go.Lite
