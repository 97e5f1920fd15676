/- Lite, parts D. -/
import Derived.Calls
import Derived.Tactics
import Derived.Tactics2
import Derived.Below
import Derived.Deep.Quiet
import Derived.Laws.World
import Derived.RangeFuncRecord
import Derived.TacticsIn
import Derived.Laws.Sem
import Derived.Laws.StructEq
import Derived.WalkKit
set_option linter.unusedVariables false
set_option linter.unusedSimpArgs false

/- Lite, part A: plain values, the relation to the model's values, the state, and the rules of control. -/
namespace Go.Lite
open Go Go.RowKit
set_option linter.unusedVariables false

/-- A value as a reader sees it: what a slice holds stands in it (ps), or lies in a numbered row of the call's own (sl, ptr). -/
inductive LV where
  | dead
  | und
  | bool (b : Bool)
  | int (k : IntKind) (n : Int)
  | str (s : ByteArray)
  | nilp
  | ptr (h off : Nat)
  | pp (cs : List LV)
  | nils
  | sl (sz h off len : Nat)
  | ps (sz len : Nat) (cs : List LV)
  | nilf
  | fn (f : Nat) (cap : List LV)
  | yld (l : Nat)
  | agg (cs : List LV)
  | tup (cs : List LV)

instance : Inhabited LV := ⟨.dead⟩

abbrev Hp := List (Option (List LV))
abbrev Fr := List (Nat × LV)
abbrev Pl := List (Option (Nat × Nat))

def fget : Fr → Nat → LV
  | [], _ => .dead
  | (s, v) :: r, t => cond (Nat.beq s t) v (fget r t)

/-- The newest comes first. -/
def fset (F : Fr) (t : Nat) (v : LV) : Fr := (t, v) :: F

theorem fget_cons (s : Nat) (v : LV) (r : Fr) (t : Nat) : fget ((s, v) :: r) t = if s = t then v else fget r t := by
  simp only [fget]
  by_cases h : s = t
  · subst h; simp
  · have : Nat.beq s t = false := by
      rw [← Bool.not_eq_true]; intro h2; exact h (Nat.eq_of_beq_eq_true h2)
    rw [this, if_neg h]; rfl

theorem fget_fset (F : Fr) (t u : Nat) (v : LV) : fget (fset F t v) u = if t = u then v else fget F u := fget_cons t v F u

/-- There is room in block b up to cell n. -/
def Room (w : World) (b n : Nat) : Prop := ∃ c e fz, w.heap[b]? = some (.cells c e fz) ∧ n ≤ c.size

/-- A captured list that begins with nothing marks a function value whose first arguments are given (a method of a value). -/
def isUnd : List LV → Bool
  | .und :: _ => true
  | _ => false
/-- The value of a function with what it has captured. -/
def fnV (f : Nat) (cap : List LV) (vs : List Value) : Value := match isUnd cap with
  | true => .func (.func f) (vs.drop 1).toArray #[]
  | false => .func (.func f) #[] vs.toArray
theorem fnV_congr {f : Nat} {cap cap' : List LV} {vs : List Value} (h : isUnd cap' = isUnd cap) : fnV f cap' vs = fnV f cap vs := by unfold fnV; rw [h]
theorem fnV_cells {f : Nat} {cap : List LV} {vs : List Value} : (fnV f cap vs).cells.toList = [fnV f cap vs] := by unfold fnV; cases isUnd cap <;> rfl
theorem fnV_one {f : Nat} {cap : List LV} {vs : List Value} : (fnV f cap vs).oneCell' = true := by unfold fnV; cases isUnd cap <;> rfl
theorem fnV_off {f : Nat} {cap : List LV} {vs : List Value} (h : isUnd cap = false) : fnV f cap vs = .func (.func f) #[] vs.toArray := by unfold fnV; rw [h]
theorem fnV_on {f : Nat} {cap : List LV} {vs : List Value} (h : isUnd cap = true) : fnV f cap vs = .func (.func f) (vs.drop 1).toArray #[] := by unfold fnV; rw [h]

inductive VR (w : World) (per : Nat → Prop) : Pl → LV → Value → Prop where
  | dead {ι : Pl} (v : Value) : VR w per ι .dead v
  | und {ι : Pl} : VR w per ι .und undef
  | bool {ι : Pl} (b : Bool) : VR w per ι (.bool b) (.bool b)
  | int {ι : Pl} (k : IntKind) (n : Int) : VR w per ι (.int k n) (.int k n)
  | str {ι : Pl} (s : ByteArray) : VR w per ι (.str s) (.string s)
  | nilp {ι : Pl} : VR w per ι .nilp (.pointer none)
  | ptr {ι : Pl} {h off b o : Nat} (hi : ι[h]? = some (some (b, o))) : VR w per ι (.ptr h off) (.pointer (some ⟨b, o + off, none⟩))
  | pp {ι : Pl} {cs : List LV} {b o : Nat} (vs : Nat → Value) (hp : per b)
      (hc : ∀ i, i < cs.length → w.cell? ⟨b, o + i, none⟩ = some (vs i)) (hv : ∀ i (h : i < cs.length), VR w per [] cs[i] (vs i)) :
      VR w per ι (.pp cs) (.pointer (some ⟨b, o, none⟩))
  | nils {ι : Pl} : VR w per ι .nils (.slice none 0 0)
  | sl {ι : Pl} {sz h off len b o cap : Nat} (hi : ι[h]? = some (some (b, o))) (hl : len ≤ cap) (hr : Room w b (o + off + cap * sz)) :
      VR w per ι (.sl sz h off len) (.slice (some ⟨b, o + off, none⟩) len cap)
  | slz {ι : Pl} {sz h off : Nat} {a : Option Addr} : VR w per ι (.sl sz h off 0) (.slice a 0 0)
  | psz {ι : Pl} {sz cap : Nat} {a : Option Addr} : VR w per ι (.ps sz 0 []) (.slice a 0 cap)
  | ps {ι : Pl} {sz len : Nat} {cs : List LV} {b o cap : Nat} (vs : Nat → Value) (hp : per b) (hn : cs.length = len * sz) (hl : len ≤ cap)
      (hc : ∀ i, i < cs.length → w.cell? ⟨b, o + i, none⟩ = some (vs i)) (hv : ∀ i (h : i < cs.length), VR w per [] cs[i] (vs i)) :
      VR w per ι (.ps sz len cs) (.slice (some ⟨b, o, none⟩) len cap)
  | nilf {ι : Pl} : VR w per ι .nilf .nilFunc
  | fn {ι : Pl} {f : Nat} {cap : List LV} {vs : List Value} (hn : cap.length = vs.length) (hv : ∀ i (h : i < cap.length), VR w per ι cap[i] (vs.getD i undef)) :
      VR w per ι (.fn f cap) (fnV f cap vs)
  | yld {ι : Pl} (l : Nat) : VR w per ι (.yld l) (.func (.yield l) #[] #[])
  | agg {ι : Pl} {cs : List LV} {vs : List Value} (hn : cs.length = vs.length) (hv : ∀ i (h : i < cs.length), VR w per ι cs[i] (vs.getD i undef)) :
      VR w per ι (.agg cs) (.agg vs.toArray)
  | tup {ι : Pl} {cs : List LV} {vs : List Value} (hn : cs.length = vs.length) (hv : ∀ i (h : i < cs.length), VR w per ι cs[i] (vs.getD i undef)) :
      VR w per ι (.tup cs) (.tuple vs.toArray)

/-- From w to w' only blocks outside per have turned, and no block has changed its size. -/
structure Step (per : Nat → Prop) (w w' : World) : Prop where
  same : ∀ b, per b → w'.heap[b]? = w.heap[b]?
  room : ∀ b n, Room w b n → Room w' b n

theorem Step.refl (per : Nat → Prop) (w : World) : Step per w w := ⟨fun _ _ => rfl, fun _ _ h => h⟩
theorem Step.trans {per : Nat → Prop} {a b c : World} (h : Step per a b) (k : Step per b c) : Step per a c :=
  ⟨fun x hx => (k.same x hx).trans (h.same x hx), fun x n r => k.room x n (h.room x n r)⟩

theorem isUnd_map {g : LV → LV} (h : ∀ x, g x = .und ↔ x = .und) : ∀ l : List LV, isUnd (l.map g) = isUnd l
  | [] => rfl
  | x :: l => by
    have no : ∀ (y : LV) (r : List LV), y ≠ .und → isUnd (y :: r) = false := by intro y r hy; cases y <;> first | rfl | exact absurd rfl hy
    by_cases e : x = .und
    · rw [List.map_cons, (h x).2 e, e]; rfl
    · rw [List.map_cons, no _ _ (fun q => e ((h x).1 q)), no _ _ e]
theorem VR.fnC {w : World} {per : Nat → Prop} {ι : Pl} {f : Nat} {cap cap' : List LV} {vs : List Value} (hn : cap'.length = vs.length) (hv : ∀ i (h : i < cap'.length), VR w per ι cap'[i] (vs.getD i undef)) (hu : isUnd cap' = isUnd cap) : VR w per ι (.fn f cap') (fnV f cap vs) := by
  rw [← fnV_congr hu]; exact .fn hn hv
theorem VR.fn_form {w : World} {per : Nat → Prop} {ι : Pl} {f : Nat} {cap : List LV} {v : Value} (h : VR w per ι (.fn f cap) v) : ∃ a b, v = .func (.func f) a b := by
  cases h with
  | @fn _ _ _ vs hn hv =>
    unfold fnV
    cases isUnd cap
    · exact ⟨_, _, rfl⟩
    · exact ⟨_, _, rfl⟩

theorem VR.step {w w' : World} {per per' : Nat → Prop} (hs : Step per w w') (hp : ∀ b, per b → per' b) {ι : Pl} {x : LV} {v : Value} (h : VR w per ι x v) :
    ∀ {ι' : Pl}, (∀ (h : Nat) (b : Nat × Nat), ι[h]? = some (some b) → ι'[h]? = some (some b)) → VR w' per' ι' x v := by
  induction h with
  | dead v => intro ι' _; exact .dead v
  | und => intro ι' _; exact .und
  | bool b => intro ι' _; exact .bool b
  | int k n => intro ι' _; exact .int k n
  | str s => intro ι' _; exact .str s
  | nilp => intro ι' _; exact .nilp
  | ptr h => intro ι' hi; exact .ptr (hi _ _ h)
  | @pp _ cs b o vs hpb hc hv ih =>
    intro ι' _
    refine .pp vs (hp _ hpb) (fun i h => ?_) fun i h => ih i h (fun _ _ h => h)
    rw [← hc i h]; exact World.cell?_of_block (hs.same b hpb)
  | nils => intro ι' _; exact .nils
  | sl h1 h2 h3 => intro ι' hi; exact .sl (hi _ _ h1) h2 (hs.room _ _ h3)
  | slz => intro ι' _; exact .slz
  | psz => intro ι' _; exact .psz
  | @ps _ sz len cs b o cap vs hpb hn hl hc hv ih =>
    intro ι' _
    refine .ps vs (hp _ hpb) hn hl (fun i h => ?_) fun i h => ih i h (fun _ _ h => h)
    rw [← hc i h]; exact World.cell?_of_block (hs.same b hpb)
  | nilf => intro ι' _; exact .nilf
  | fn hn hv ih => intro ι' hi; exact .fn hn fun i h => ih i h hi
  | yld l => intro ι' _; exact .yld l
  | agg hn hv ih => intro ι' hi; exact .agg hn fun i h => ih i h hi
  | tup hn hv ih => intro ι' hi; exact .tup hn fun i h => ih i h hi

def isCells : Obj → Bool
  | .cells .. => true
  | _ => false

/-- From w to w' the blocks of kp are as they were, no block has changed its size, no stream has turned; whatever is no cells lies as it lay. -/
structure Kept (kp : Nat → Prop) (w w' : World) : Prop where
  os : w'.os = w.os
  tape : w'.tape = w.tape
  output : w'.output = w.output
  size : w.heap.size ≤ w'.heap.size
  step : Step kp w w'
  oth : ∀ (b : Nat) (o : Obj), w.heap[b]? = some o → isCells o = false → w'.heap[b]? = some o
  drawn : w.drawn ≤ w'.drawn

theorem Kept.refl (kp : Nat → Prop) (w : World) : Kept kp w w := ⟨rfl, rfl, rfl, Nat.le_refl _, .refl _ _, fun _ _ h _ => h, Nat.le_refl _⟩
theorem Kept.trans {kp : Nat → Prop} {a b c : World} (h : Kept kp a b) (k : Kept kp b c) : Kept kp a c :=
  ⟨k.os.trans h.os, k.tape.trans h.tape, k.output.trans h.output, Nat.le_trans h.size k.size, h.step.trans k.step, fun b o hb ho => k.oth b o (h.oth b o hb ho) ho, Nat.le_trans h.drawn k.drawn⟩
theorem Kept.mono {kp kp' : Nat → Prop} {a b : World} (h : Kept kp a b) (hk : ∀ b, kp' b → kp b) : Kept kp' a b :=
  ⟨h.os, h.tape, h.output, h.size, ⟨fun b hb => h.step.same b (hk b hb), h.step.room⟩, h.oth, h.drawn⟩

/-- The cells of a block, none of which is frozen. -/
def Live (w : World) (b : Nat) (c : Array Value) (e : TypeId × Nat × Nat) : Prop := w.heap[b]? = some (.cells c e.1 e.2) ∧ ∀ i, i < c.size → ¬ (e.2.1 ≤ i ∧ i < e.2.2)
theorem Live.of {w : World} {b : Nat} {c : Array Value} {e : TypeId} (h : w.heap[b]? = some (.cells c e (0, 0))) : Live w b c (e, 0, 0) := ⟨h, fun i _ hh => by simp at hh⟩
theorem Live.get {w w' : World} {b : Nat} {c : Array Value} {e : TypeId × Nat × Nat} (h : Live w b c e) (k : w'.heap[b]? = w.heap[b]?) : Live w' b c e := ⟨k.trans h.1, h.2⟩

/-- The rows of the call's own, and where they lie: outside kp and per. -/
structure Rep (kp : Nat → Prop) (w : World) (ι : Pl) (per : Nat → Prop) (H : Hp) : Prop where
  len : ι.length = H.length
  perlt : ∀ b, per b → b < w.heap.size
  live : ∀ (h : Nat) (cs : List LV), H[h]? = some (some cs) → (ι[h]? = some none ∧ cs = []) ∨
    ∃ b o c e, ι[h]? = some (some (b, o)) ∧ ¬ kp b ∧ ¬ per b ∧ Live w b c e ∧ o + cs.length ≤ c.size ∧
      ∀ i (hi : i < cs.length), VR w per ι cs[i] (c.getD (o + i) undef)
  inj : ∀ (h h' : Nat) (cs cs' : List LV) (b o b' o' : Nat), H[h]? = some (some cs) → H[h']? = some (some cs') → ι[h]? = some (some (b, o)) → ι[h']? = some (some (b', o')) → b = b' → h = h'

theorem Rep.nil (kp : Nat → Prop) (w : World) (per : Nat → Prop) (hp : ∀ b, per b → b < w.heap.size) : Rep kp w [] per [] :=
  ⟨rfl, hp, fun h cs hh => by simp at hh, fun h h' cs cs' b o b' o' hh => by simp at hh⟩

/-- A loop over a function, whose rounds another party asks for: its record's number, the function whose loop it is, the frame's size, the loop's variables, the codes, the block for what its rounds defer, the slots as they stood when it began. -/
structure YY where
  l : Nat
  fn : Nat
  n : Nat
  ps : List Nat
  assign : Code
  body : Code
  D : Nat
  F : Fr

/-- A frame's slots; the rows that came in with the call; is it a round's frame; the loop whose rounds it may ask for. -/
structure Dim where
  n : Nat
  m : Nat
  rd : Bool
  y : Option YY

/-- What a call found: the blocks that it must keep, those that it may read, the world, the rows that came in; the loop whose round it is. -/
structure Ctx where
  kp : Nat → Prop
  per0 : Nat → Prop
  w0 : World
  ι0 : Pl
  rd : Option Nat

def YY.lp (y : YY) (T : Array Value) : Loop := { state := .ready, pending := none, fn := y.fn, tmps := T, params := y.ps.toArray, assign := y.assign, body := y.body, defers := y.D }

/-- The record of the loop lies in w, ready; its slots are those of F. -/
def YRec (kp per : Nat → Prop) (ι : Pl) (w : World) (y : YY) : Prop :=
  (∀ b, per b → kp b) ∧ ∃ T : Array Value, w.heap[y.l]? = some (.loop (y.lp T)) ∧ T.size = y.n ∧ ∀ t, VR w per ι (fget y.F t) (T.getD t undef)

/-- The marks of loops that have ended, none in a round; what is known of the loops around. -/
def DF (cx : Ctx) (rd : Bool) (y : Option YY) (ds : List Deferred) (w : World) : Prop :=
  (∃ Ds : List Nat, ds = Ds.map (fun D => { target := .collected D, args := #[] }) ∧ Ds.Nodup ∧ ∀ D ∈ Ds, cx.w0.heap.size ≤ D ∧ ¬ cx.kp D ∧ w.heap[D]? = some (.deferred (some []))) ∧
  (rd = true → ds = []) ∧ (rd = false → cx.rd = none) ∧ ∀ z, y = some z → YRec cx.kp cx.per0 cx.ι0 cx.w0 z

theorem DF.keep {cx : Ctx} {rd : Bool} {y : Option YY} {ds : List Deferred} {w w' : World} (h : DF cx rd y ds w) (hk : Kept cx.kp w w') : DF cx rd y ds w' := by
  obtain ⟨⟨Ds, h1, h2, h3⟩, h4⟩ := h
  exact ⟨⟨Ds, h1, h2, fun D hD => ⟨(h3 D hD).1, (h3 D hD).2.1, hk.oth _ _ (h3 D hD).2.2 rfl⟩⟩, h4⟩

theorem DF.none' {cx : Ctx} {rd : Bool} {w : World} (h : rd = false → cx.rd = none) : DF cx rd none [] w :=
  ⟨⟨[], rfl, List.nodup_nil, fun D hD => by simp at hD⟩, fun _ => rfl, h, fun z hz => by cases hz⟩

/-- The fence of the walk: it keeps nothing out. -/
def fen (cx : Ctx) : Fence := { Fence.wide with round := cx.rd }

/-- The state: frame and rows F, H stand for the slots and the world. -/
def SR (cx : Ctx) (N : Dim) (F : Fr) (H : Hp) (a : Act) (w : World) : Prop :=
  ∃ ι per, Rep cx.kp w ι per H ∧ (∀ b, per b → cx.per0 b ∨ ¬ cx.kp b) ∧ (∀ b, cx.per0 b → per b) ∧ (∀ t, VR w per ι (fget F t) (a.tmps.getD t undef)) ∧
    a.tmps.size = N.n ∧ DF cx N.rd N.y a.defers w ∧ Kept cx.kp cx.w0 w ∧ (∀ b, cx.kp b → b < w.heap.size) ∧ (cx.ι0.length = N.m ∧ ∀ h, h < N.m → ι[h]? = cx.ι0[h]?)

abbrev LPost := Exit → Fr → Hp → Prop

def LQ (Q : LPost) (cx : Ctx) (N : Dim) (e : Exit) (a : Act) (w : World) : Prop :=
  ∃ F H, Q e F H ∧ SR cx N F H a w

def Lwp (P : Program) (N : Dim) (c : Code) (Q : LPost) (F : Fr) (H : Hp) : Prop :=
  ∀ cx a w, SR cx N F H a w → c.wpIn (fen cx) 0 P (LQ Q cx N) a w

theorem Lwp.mono {P : Program} {N : Dim} {c : Code} {Q Q' : LPost} {F : Fr} {H : Hp} (h : Lwp P N c Q F H) (hq : ∀ e F H, Q e F H → Q' e F H) : Lwp P N c Q' F H :=
  fun cx a w hs => wpIn_mono (h cx a w hs) fun e a' w' ⟨F', H', q, s⟩ => ⟨F', H', hq _ _ _ q, s⟩

section rules
variable {P : Program} {N : Dim} {Q : LPost} {F : Fr} {H : Hp}

theorem lwp_skip (h : Q .normal F H) : Lwp P N .skip Q F H := fun _ _ _ hs => wpIn_skip ⟨F, H, h, hs⟩
theorem lwp_label {l : Nat} (h : Q .normal F H) : Lwp P N (.label l) Q F H := fun _ _ _ hs => wpIn_label ⟨F, H, h, hs⟩
theorem lwp_exit {id : Nat} (h : Q (.exit id) F H) : Lwp P N (.exit id) Q F H := fun _ _ _ hs => wpIn_exit ⟨F, H, h, hs⟩
theorem lwp_ret (h : Q .ret F H) : Lwp P N .ret Q F H := fun _ _ _ hs => wpIn_ret ⟨F, H, h, hs⟩

/-- On to the next piece. -/
def seqQ (K : Fr → Hp → Prop) (Q : LPost) : LPost
  | .normal, F, H => K F H
  | e, F, H => Q e F H

theorem lwp_seq {x y : Code} (h : Lwp P N x (seqQ (Lwp P N y Q) Q) F H) : Lwp P N (.seq x y) Q F H := by
  intro cx a w hs
  refine wpIn_seq (wpIn_mono (h cx a w hs) fun e a' w' ⟨F', H', q, s⟩ => ?_)
  cases e <;> first | exact q cx a' w' s | exact ⟨F', H', q, s⟩

def blockQ (id : Nat) (Q : LPost) : LPost
  | .exit id', F, H => if id' = id then Q .normal F H else Q (.exit id') F H
  | e, F, H => Q e F H

theorem lwp_block {id : Nat} {c : Code} (h : Lwp P N c (blockQ id Q) F H) : Lwp P N (.block id c) Q F H := by
  intro cx a w hs
  refine wpIn_block (wpIn_mono (h cx a w hs) fun e a' w' ⟨F', H', q, s⟩ => ?_)
  cases e with
  | exit id' =>
    simp only [blockQ] at q
    simp only [Exit.inBlock]
    split
    · rename_i h; rw [if_pos h] at q; exact ⟨F', H', q, s⟩
    · rename_i h; rw [if_neg h] at q; exact ⟨F', H', q, s⟩
  | _ => exact ⟨F', H', q, s⟩

theorem exists_min (p : Nat → Prop) (h : ∃ n, p n) : ∃ n, p n ∧ ∀ m, p m → n ≤ m := by
  obtain ⟨n, hn⟩ := h
  induction n using Nat.strongRecOn with
  | _ n ih =>
    by_cases hx : ∃ m, m < n ∧ p m
    · obtain ⟨m, hm, hp⟩ := hx
      exact ih m hm hp
    · refine ⟨n, hn, fun m hm => ?_⟩
      rcases Nat.lt_or_ge m n with h' | h'
      · exact absurd ⟨m, h', hm⟩ hx
      · exact h'

theorem wp_loop_rel {Fe : Fence} {k : Nat} {c : Code} {Q : Exit → Act → World → Prop} (R : Nat → Act → World → Prop)
    (round : ∀ n a w, R n a w → c.wpIn Fe k P (Exit.then (fun a' w' => ∃ m, m < n ∧ R m a' w') Q) a w) {n : Nat} {a : Act} {w : World} (h0 : R n a w) : (Code.loop c).wpIn Fe k P Q a w := by
  classical
  let μ : Act → World → Nat := fun a w => if h : ∃ n, R n a w then (exists_min _ h).choose else 0
  have hμ : ∀ a w, (∃ n, R n a w) → R (μ a w) a w := by
    intro a w h
    simp only [μ, dif_pos h]
    exact (exists_min _ h).choose_spec.1
  have hle : ∀ a w n, R n a w → μ a w ≤ n := by
    intro a w n h
    have h' : ∃ n, R n a w := ⟨n, h⟩
    simp only [μ, dif_pos h']
    exact (exists_min _ h').choose_spec.2 n h
  refine wpIn_loop (I := fun a w => ∃ n, R n a w) μ ⟨n, h0⟩ fun a w hI => ?_
  refine wpIn_mono (round _ a w (hμ a w hI)) fun e a' w' h => ?_
  cases e with
  | normal =>
    obtain ⟨m, hm, hR⟩ := h
    exact ⟨⟨m, hR⟩, Nat.lt_of_le_of_lt (hle a' w' m hR) hm⟩
  | _ => exact h

/-- A loop: at the head of each round the state is one of a family; each round that goes on lowers the number. -/
theorem lwp_loop {c : Code} (R : Nat → Fr → Hp → Prop) {n : Nat} (h0 : R n F H)
    (round : ∀ n F H, R n F H → Lwp P N c (seqQ (fun F' H' => ∃ m, m < n ∧ R m F' H') Q) F H) : Lwp P N (.loop c) Q F H := by
  intro cx a w hs
  refine wp_loop_rel (fun n a w => ∃ F H, R n F H ∧ SR cx N F H a w) (fun n a w ⟨F, H, hR, hs⟩ => ?_) ⟨F, H, h0, hs⟩
  refine wpIn_mono (round n F H hR cx a w hs) fun e a' w' ⟨F', H', q, s⟩ => ?_
  cases e with
  | normal =>
    obtain ⟨m, hm, hR'⟩ := q
    exact ⟨m, hm, F', H', hR', s⟩
  | _ => exact ⟨F', H', q, s⟩

/-- Slots may be forgotten. -/
theorem SR.weaken {cx : Ctx} {N : Dim} {F F' : Fr} {H : Hp} {a : Act} {w : World} (hF : ∀ t, fget F' t = fget F t ∨ fget F' t = .dead)
    (h : SR cx N F H a w) : SR cx N F' H a w := by
  obtain ⟨ι, per, h1, h2, h3, h4, h5⟩ := h
  refine ⟨ι, per, h1, h2, h3, fun t => ?_, h5⟩
  rcases hF t with e | e
  · rw [e]; exact h4 t
  · rw [e]; exact .dead _

end rules
end Go.Lite

/- Lite, part B: types as a reader sees them; the operations that only compute. -/
namespace Go.Lite
open Go Go.RowKit
set_option linter.unusedVariables false

def scalarLV : Value → LV
  | .bool b => .bool b
  | .int k n => .int k n
  | .string s => .str s
  | .pointer none => .nilp
  | .slice none 0 0 => .nils
  | .nilFunc => .nilf
  | _ => .dead

theorem VR.scalar {w : World} {ι : Pl} {per : Nat → Prop} (v : Value) : VR w per ι (scalarLV v) v := by
  unfold scalarLV
  split <;> constructor

def constLV : Value → LV
  | .agg cs => .agg (cs.toList.map scalarLV)
  | v => scalarLV v

theorem VR.const {w : World} {ι : Pl} {per : Nat → Prop} (v : Value) : VR w per ι (constLV v) v := by
  unfold constLV
  split
  · rename_i cs
    have h : VR w per ι (.agg (cs.toList.map scalarLV)) (.agg cs.toList.toArray) := by
      refine .agg (by simp) fun i hi => ?_
      have hi' : i < cs.size := by simpa using hi
      simp [hi']
      exact .scalar _
    simpa using h
  · exact .scalar v

inductive TD where
  | int (k : IntKind) | bool | str
  | slice (esz ebytes : Nat) (ez : List LV)
  | arr (n esz : Nat) (eagg : Bool)
  | struct (fs : List (Nat × Nat × Bool))
  | other

/-- What the operations ask of a type. -/
structure TI where
  d : TD
  size : Nat
  agg : Bool
  zero : List LV

def aggOf (P : Program) (t : TypeId) : Bool :=
  match P.underlying t with
  | some (.struct _) | some (.array _ _) => true
  | _ => false

def zeroOf (i : TypeInfo) : Option (List LV) :=
  match i.zero with
  | some z => some (z.cells.toList.map scalarLV)
  | none => none

def fieldsOf (P : Program) : List Field → Option (List (Nat × Nat × Bool))
  | [] => some []
  | f :: r =>
    match P.info? f.type, P.underlying f.type, fieldsOf P r with
    | some j, some _, some l => some ((f.offset, j.size, aggOf P f.type) :: l)
    | _, _, _ => none

def tdOf (P : Program) : TypeDesc → Option TD
  | .int k => some (.int k)
  | .bool => some .bool
  | .string => some .str
  | .slice e =>
    match P.info? e with
    | some j => (match zeroOf j with | some z => if j.size = 0 ∨ z.length ≠ j.size then none else some (.slice j.size j.bytes z) | none => none)
    | none => none
  | .array n e =>
    match P.info? e, P.underlying e with
    | some j, some _ => if j.size = 0 then none else some (.arr n j.size (aggOf P e))
    | _, _ => none
  | .struct fs => (fieldsOf P fs.toList).map .struct
  | _ => some .other

def tiOf (P : Program) (t : TypeId) : Option TI :=
  match P.info? t, P.underlying t with
  | some i, some d =>
    match zeroOf i, tdOf P d with
    | some z, some td => if z.length ≠ i.size then none else some ⟨td, i.size, aggOf P t, z⟩
    | _, _ => none
  | _, _ => none

/-- Types whose values are compared cell by cell: 0 an integer, 1 a bool, 2 a string. -/
def flatTy (P : Program) (t : TypeId) : Option Nat :=
  match P.underlying t with
  | some (.int _) => some 0
  | some .bool => some 1
  | some .string => some 2
  | _ => none
def flatFs (P : Program) : Nat → List Field → Option (List Nat)
  | _, [] => some []
  | n, f :: r => if f.name != "_" && Nat.beq f.offset n then (match flatTy P f.type, flatFs P (n + 1) r with
    | some k, some ks => some (k :: ks)
    | _, _ => none) else none
def eqOf (P : Program) (t : TypeId) : Option (List Nat) :=
  match P.underlying t with
  | some (.struct fs) => if !P.eqGuardType P.depth t && !P.stoodInHeld t then flatFs P 0 fs.toList else none
  | some (.array n e) => if !P.eqGuardType P.depth t then (match flatTy P e, P.info? e with
    | some k, some j => if Nat.beq j.size 1 then some (List.replicate n k) else none
    | _, _ => none) else none
  | _ => none
def nilOf (P : Program) (t : TypeId) : Nat :=
  match P.underlying t with
  | some (.func _ _ _) => 1
  | some (.pointer _) => 2
  | some (.slice e) => (match P.underlying e with | some (.int .u8) => 3 | _ => 4)
  | _ => 0

/-- What the operations ask of the types. -/
structure TT where
  ti : TypeId → Option TI
  eq : TypeId → Option (List Nat)
  nilk : TypeId → Nat
instance : CoeFun TT (fun _ => TypeId → Option TI) := ⟨TT.ti⟩
def ttOf (P : Program) : TT := ⟨tiOf P, eqOf P, nilOf P⟩

/-- A type's row, taken apart. -/
theorem ti_spec {P : Program} {t : TypeId} {ti : TI} (h : tiOf P t = some ti) :
    ∃ i d z, P.info? t = some i ∧ P.underlying t = some d ∧ i.zero = some z ∧ ti.zero = z.cells.toList.map scalarLV ∧ ti.size = i.size ∧ z.cells.size = i.size ∧
      ti.agg = aggOf P t ∧ tdOf P d = some ti.d := by
  unfold tiOf at h
  split at h
  · rename_i i d hi hd
    split at h
    · rename_i z td hz htd
      split at h
      · cases h
      · rename_i hl
        obtain rfl := Option.some.inj h
        unfold zeroOf at hz
        split at hz
        · rename_i z' hz'
          obtain rfl := Option.some.inj hz
          refine ⟨i, d, z', hi, hd, hz', rfl, rfl, ?_, rfl, htd⟩
          simpa using hl
        · cases hz
    · cases h
  · cases h

section runs
variable {P : Program} {t : TypeId} {ti : TI} {w : World}

theorem run_typeInfo {i : TypeInfo} (h : P.info? t = some i) : (typeInfo t).run P w = .ok i w := by simp [typeInfo, h]
theorem run_underlying {d : TypeDesc} (h : P.underlying t = some d) : (underlying t).run P w = .ok d w := by simp [underlying, h]
theorem run_sizeOf {i : TypeInfo} (h : P.info? t = some i) : (sizeOf t).run P w = .ok i.size w := by simp [sizeOf, typeInfo, h]
theorem run_zeroValue {i : TypeInfo} {z : Value} (h : P.info? t = some i) (hz : i.zero = some z) : (zeroValue t).run P w = .ok z w := by simp [zeroValue, typeInfo, h, hz]
theorem run_isAgg {d : TypeDesc} (h : P.underlying t = some d) : (isAgg t).run P w = .ok (aggOf P t) w := by
  unfold isAgg aggOf
  rw [h]
  cases d <;> simp [underlying, h]

end runs

def evalO (F : Fr) : Operand → LV
  | .tmp t => fget F t
  | .const v => constLV v
  | .global _ => .dead
  | .func f => .fn f []

/-- The frame stands for the slots. -/
def FR (w : World) (ι : Pl) (per : Nat → Prop) (F : Fr) (a : Act) : Prop := ∀ t, VR w per ι (fget F t) (a.tmps.getD t undef)

theorem FR.eval {w : World} {ι : Pl} {per : Nat → Prop} {F : Fr} {a : Act} (h : FR w ι per F a) (x : Operand) : VR w per ι (evalO F x) (a.eval x) := by
  cases x with
  | tmp t => exact h t
  | const v => exact .const v
  | global g => exact .dead _
  | func f => exact .fn (vs := []) rfl (fun i hi => absurd hi (by simp))

def lbin (op : BinOp) : LV → LV → Option LV
  | .int k a, .int k' b =>
    match op with
    | .shl => if b < 0 then none else some (.int k (k.wrap (a * 2 ^ (min b.toNat k.bits))))
    | .shr => if b < 0 then none else some (.int k (a.fdiv (2 ^ (min b.toNat k.bits))))
    | _ =>
      if k ≠ k' then none else
      match op with
      | .add => some (.int k (k.wrap (a + b)))
      | .sub => some (.int k (k.wrap (a - b)))
      | .mul => some (.int k (k.wrap (a * b)))
      | .quo => if b = 0 then none else some (.int k (k.wrap (a.tdiv b)))
      | .rem => if b = 0 then none else some (.int k (a.tmod b))
      | .and => some (.int k (k.wrap (BitVec.ofInt k.bits a &&& BitVec.ofInt k.bits b).toNat))
      | .or => some (.int k (k.wrap (BitVec.ofInt k.bits a ||| BitVec.ofInt k.bits b).toNat))
      | .xor => some (.int k (k.wrap (BitVec.ofInt k.bits a ^^^ BitVec.ofInt k.bits b).toNat))
      | .andNot => some (.int k (k.wrap (BitVec.ofInt k.bits a &&& ~~~ BitVec.ofInt k.bits b).toNat))
      | .eql => some (.bool (a == b))
      | .neq => some (.bool (a != b))
      | .lss => some (.bool (decide (a < b)))
      | .leq => some (.bool (decide (a ≤ b)))
      | .gtr => some (.bool (decide (a > b)))
      | .geq => some (.bool (decide (a ≥ b)))
      | _ => none
  | .str a, .str b =>
    match op with
    | .add => if ((a.size + b.size : Nat) : Int) > IntKind.i64.max then none else some (.str (a ++ b))
    | .eql => some (.bool (a.toList == b.toList))
    | .neq => some (.bool (!(a.toList == b.toList)))
    | .lss => some (.bool (Op.bytesLess a.toList b.toList))
    | _ => none
  | _, _ => none

def lun (op : UnOp) : LV → Option LV
  | .int k n => (match op with | .neg => some (.int k (k.wrap (0 - n))) | .xor => some (.int k (k.wrap (BitVec.ofInt k.bits (if k.signed then -1 else k.max) ^^^ BitVec.ofInt k.bits n).toNat)) | _ => none)
  | .bool b => (match op with | .not => some (.bool (!b)) | _ => none)
  | _ => none

/-- The cells of a value, where they are known. -/
def lcells : LV → Option (List LV)
  | .agg cs => some cs
  | .dead => none
  | .und => none
  | .tup _ => none
  | v => some [v]

def putCells (cs : List LV) (off : Nat) (vs : List LV) : List LV := cs.take off ++ vs ++ cs.drop (off + vs.length)

def lpart (agg : Bool) (size : Nat) (cs : List LV) (off : Nat) : Option LV :=
  if agg then (if off + size ≤ cs.length then some (.agg ((cs.drop off).take size)) else none) else cs[off]?

def asI : LV → Option Int
  | .int _ n => some n
  | _ => none

def lmin : List LV → LV → Option LV
  | [], x => some x
  | .int k y :: r, .int k' x => lmin r (.int k' (if y < x then y else x))
  | _, _ => none
def lmax : List LV → LV → Option LV
  | [], x => some x
  | .int k y :: r, .int k' x => lmax r (.int k' (if x < y then y else x))
  | _, _ => none

def hiOf (len : Nat) : Option LV → Option Int
  | none => some len
  | some x => asI x
def loOf : Option LV → Option Int
  | none => some 0
  | some x => asI x
def sliceBnds (len : Nat) (lo hi : Option LV) : Option (Nat × Nat) :=
  match hiOf len hi, loOf lo with
  | some h, some l => if 0 ≤ l ∧ l ≤ h ∧ h ≤ len then some (l.toNat, h.toNat) else none
  | _, _ => none

def lfill (place : Nat → Option (Nat × Nat)) (cells : List LV) : List (Nat × LV) → Option (List LV)
  | [] => some cells
  | (i, v) :: rest =>
    match place i, lcells v with
    | some (off, size), some cs => if cs.length ≠ size ∨ off + cs.length > cells.length then none else lfill place (putCells cells off cs) rest
    | _, _ => none

def eqCells : List Nat → List LV → List LV → Option Bool
  | [], [], [] => some true
  | 0 :: ks, .int k x :: r, .int k' y :: r' => if k = k' then (eqCells ks r r').map (decide (x = y) && ·) else none
  | 1 :: ks, .bool x :: r, .bool y :: r' => (eqCells ks r r').map (x == y && ·)
  | 2 :: ks, .str x :: r, .str y :: r' => (eqCells ks r r').map (x.toList == y.toList && ·)
  | _, _, _ => none
def eqB (op : BinOp) (r : Bool) : Option LV :=
  match op with
  | .eql => some (.bool r)
  | .neq => some (.bool (!r))
  | _ => none

/-- Comparisons of bools besides. -/
def lbinT (τ : TT) (t : TypeId) (op : BinOp) : LV → LV → Option LV
  | .bool a, .bool b => match τ t, op with
    | some ⟨.bool, _, _, _⟩, .eql => some (.bool (a == b))
    | some ⟨.bool, _, _, _⟩, .neq => some (.bool (!(a == b)))
    | _, _ => none
  | .agg a, .agg b => (match τ.eq t with
    | some ks => (match eqCells ks a b with | some r => eqB op r | none => none)
    | none => none)
  | .fn _ _, .nilf => if Nat.beq (τ.nilk t) 1 then eqB op false else none
  | .nilf, .nilf => if Nat.beq (τ.nilk t) 1 then eqB op true else none
  | .ptr _ _, .nilp => if Nat.beq (τ.nilk t) 2 then eqB op false else none
  | .pp _, .nilp => if Nat.beq (τ.nilk t) 2 then eqB op false else none
  | .nilp, .nilp => if Nat.beq (τ.nilk t) 2 then eqB op true else none
  | .nils, .nils => if Nat.ble 3 (τ.nilk t) then eqB op true else none
  | .sl _ _ _ (_ + 1), .nils => if Nat.ble 3 (τ.nilk t) then eqB op false else none
  | .ps _ (_ + 1) _, .nils => if Nat.ble 3 (τ.nilk t) then eqB op false else none
  | x, y => lbin op x y

/-- The operations that only compute: neither the world nor the rows are asked. -/
def pureOp (τ : TT) (F : Fr) : Op → Option LV
  | .move x | .assign x => some (evalO F x)
  | .pick c a b => match evalO F c with | .bool t => some (if t then evalO F a else evalO F b) | _ => none
  | .nilCheck x => match evalO F x with
    | .ptr h o => some (.ptr h o)
    | .pp cs => some (.pp cs)
    | .fn f c => some (.fn f c)
    | _ => none
  | .binOp op t x y _ => lbinT τ t op (evalO F x) (evalO F y)
  | .unOp op _ x => lun op (evalO F x)
  | .convert s d x => match τ s, τ d, evalO F x with
    | some _, some ⟨.int k, _, _, _⟩, .int _ n => some (.int k (k.wrap n))
    | some _, some ⟨.str, _, _, _⟩, .str b => some (.str b)
    | _, _, _ => none
  | .makeFunc (.func f) first captured => if first.size = 0 then (if isUnd (captured.toList.map (evalO F)) = false then some (.fn f (captured.toList.map (evalO F))) else none) else if captured.size = 0 then some (.fn f (.und :: first.toList.map (evalO F))) else none
  | .extract x i => match evalO F x with | .tup vs => vs[i]? | _ => none
  | .fieldAddr s x f => match τ s, evalO F x with
    | some ⟨.struct fs, _, _, _⟩, .ptr h o => (match fs[f]? with | some (off, size, _) => if size = 0 then none else some (.ptr h (o + off)) | none => none)
    | some ⟨.struct fs, _, _, _⟩, .pp cs => (match fs[f]? with | some (off, size, _) => if size = 0 then none else some (.pp (cs.drop off)) | none => none)
    | _, _ => none
  | .field s x f => match τ s, evalO F x with
    | some ⟨.struct fs, _, _, _⟩, .agg cs => (match fs[f]? with | some (off, size, agg) => lpart agg size cs off | none => none)
    | _, _ => none
  | .indexAddr t x i => match τ t, evalO F x, evalO F i with
    | some ⟨.slice esz _ _, _, _, _⟩, .sl sz h o len, .int _ n => if sz = esz ∧ 0 ≤ n ∧ n < len then some (.ptr h (o + n.toNat * sz)) else none
    | some ⟨.slice esz _ _, _, _, _⟩, .ps sz len cs, .int _ n => if sz = esz ∧ 0 ≤ n ∧ n < len then some (.pp ((cs.drop (n.toNat * sz)).take sz)) else none
    | some ⟨.arr m esz _, _, _, _⟩, .ptr h o, .int _ n => if 0 ≤ n ∧ n < m then some (.ptr h (o + n.toNat * esz)) else none
    | some ⟨.arr m esz _, _, _, _⟩, .pp cs, .int _ n => if 0 ≤ n ∧ n < m then some (.pp (cs.drop (n.toNat * esz))) else none
    | _, _, _ => none
  | .index t x i => match τ t, evalO F x, evalO F i with
    | some ⟨.arr m esz eagg, _, _, _⟩, .agg cs, .int _ n => if 0 ≤ n ∧ n < m then lpart eagg esz cs (n.toNat * esz) else none
    | some ⟨.str, _, _, _⟩, .str s, .int _ n => if 0 ≤ n then (match s[n.toNat]? with | some b => some (.int .u8 b.toNat) | none => none) else none
    | _, _, _ => none
  | .build t parts => match τ t with
    | some ⟨.struct fs, _, _, z⟩ => (lfill (fun i => (fs[i]?).map fun f => (f.1, f.2.1)) z (parts.toList.map fun p => (p.1, evalO F p.2))).map .agg
    | some ⟨.arr n esz _, _, _, z⟩ => (lfill (fun i => some (i * esz, esz)) z (parts.toList.map fun p => (p.1, evalO F p.2))).map .agg
    | _ => none
  | .slice t x lo hi none => match τ t, evalO F x with
    | some ⟨.str, _, _, _⟩, .str s => (match sliceBnds s.size (lo.map (evalO F)) (hi.map (evalO F)) with | some (l, h) => some (.str (s.extract l h)) | none => none)
    | some ⟨.slice esz _ _, _, _, _⟩, .sl sz h o len => if sz ≠ esz then none else (match sliceBnds len (lo.map (evalO F)) (hi.map (evalO F)) with | some (l, r) => some (.sl sz h (o + l * sz) (r - l)) | none => none)
    | some ⟨.slice esz _ _, _, _, _⟩, .ps sz len cs => if sz ≠ esz then none else (match sliceBnds len (lo.map (evalO F)) (hi.map (evalO F)) with | some (l, r) => some (.ps sz (r - l) ((cs.drop (l * sz)).take ((r - l) * sz))) | none => none)
    | some ⟨.slice _ _ _, _, _, _⟩, .nils => (match sliceBnds 0 (lo.map (evalO F)) (hi.map (evalO F)) with | some _ => some .nils | none => none)
    | _, _ => none
  | .call ⟨.builtin .len, args, argTypes⟩ => match (argTypes[0]?).bind (τ), (args[0]?).map (evalO F) with
    | some ⟨.str, _, _, _⟩, some (.str s) => some (.int .i64 s.size)
    | some ⟨.slice _ _ _, _, _, _⟩, some (.sl _ _ _ n) => some (.int .i64 n)
    | some ⟨.slice _ _ _, _, _, _⟩, some (.ps _ n _) => some (.int .i64 n)
    | some ⟨.slice _ _ _, _, _, _⟩, some .nils => some (.int .i64 0)
    | some ⟨.arr n _ _, _, _, _⟩, some _ => some (.int .i64 n)
    | _, _ => none
  | .call ⟨.builtin .min, args, _⟩ => match args.toList.map (evalO F) with | x :: r => lmin r x | [] => none
  | .call ⟨.builtin .max, args, _⟩ => match args.toList.map (evalO F) with | x :: r => lmax r x | [] => none
  | _ => none

/-- What an operation that only computes comes to. -/
def Yields (P : Program) (w : World) (ι : Pl) (per : Nat → Prop) (x : LV) (s : Sem Next) : Prop := ∃ u, (∀ w', s.run P w' = .ok (.value u) w') ∧ VR w per ι x u

theorem eqGuard_int {P : Program} {w : World} {op : BinOp} {t : TypeId} {ox oy : Operand} {k k' : IntKind} {a b : Int} : (eqGuard op t ox oy (.int k a) (.int k' b)).run P w = .ok () w := by
  cases op <;> rfl
theorem eqGuard_str {P : Program} {w : World} {op : BinOp} {t : TypeId} {ox oy : Operand} {a b : ByteArray} : (eqGuard op t ox oy (.string a) (.string b)).run P w = .ok () w := by
  cases op <;> rfl
theorem eqGuard_bool {P : Program} {w : World} {op : BinOp} {t : TypeId} {ox oy : Operand} {a b : Bool} : (eqGuard op t ox oy (.bool a) (.bool b)).run P w = .ok () w := by
  cases op <;> rfl

theorem lbin_sound {P : Program} {w : World} {ι : Pl} {per : Nat → Prop} {op : BinOp} {t : TypeId} {x y : LV} {u v : Value} {ox oy : Operand} (hx : VR w per ι x u) (hy : VR w per ι y v) {r : LV}
    (h : lbin op x y = some r) : ∃ z, (∀ w', (do eqGuard op t ox oy u v; binOp op t u v : Sem Value).run P w' = .ok z w') ∧ VR w per ι r z := by
  unfold lbin at h
  split at h
  · cases hx; cases hy
    rename_i k a k' b
    simp only [Sem.run_bind, eqGuard_int, Result.andThen_ok]
    split at h
    · split at h
      · cases h
      · rename_i hb
        obtain rfl := Option.some.inj h
        refine ⟨_, ?_, .int _ _⟩; intro w'; simp [binOp, Op.shift, hb]
    · split at h
      · cases h
      · rename_i hb
        obtain rfl := Option.some.inj h
        refine ⟨_, ?_, .int _ _⟩; intro w'; simp [binOp, Op.shift, hb]
    · rename_i hn1 hn2
      split at h
      · cases h
      · rename_i hk
        simp only [ne_eq, Decidable.not_not] at hk
        subst hk
        have hkk : ¬ (k ≠ k) := fun h => h rfl
        cases op with
        | shl => exact absurd rfl hn1
        | shr => exact absurd rfl hn2
        | quo =>
          simp only at h
          split at h
          · cases h
          · rename_i hb
            obtain rfl := Option.some.inj h
            refine ⟨_, ?_, .int _ _⟩
            intro w'; simp [binOp, Op.intDiv, hb]
        | rem =>
          simp only at h
          split at h
          · cases h
          · rename_i hb
            obtain rfl := Option.some.inj h
            refine ⟨_, ?_, .int _ _⟩
            intro w'; simp [binOp, Op.intDiv, hb]
        | add | sub | mul =>
          obtain rfl := Option.some.inj h
          refine ⟨_, ?_, .int _ _⟩
          intro w'; simp [binOp, Op.intArith]
        | and | or | xor | andNot =>
          obtain rfl := Option.some.inj h
          refine ⟨_, ?_, .int _ _⟩
          intro w'; simp only [binOp, if_neg hkk, Op.intBits]; rfl
        | eql | neq | lss | leq | gtr | geq =>
          obtain rfl := Option.some.inj h
          refine ⟨_, ?_, .bool _⟩
          intro w'; simp only [binOp, if_neg hkk, Op.intCmp]; rfl
  · cases hx; cases hy
    rename_i a b
    simp only [Sem.run_bind, eqGuard_str, Result.andThen_ok]
    split at h
    · split at h
      · cases h
      · rename_i hb
        obtain rfl := Option.some.inj h
        refine ⟨_, ?_, .str _⟩
        intro w'
        simp only [binOp, Op.stringOp]
        rw [if_neg hb]
        simp
    · obtain rfl := Option.some.inj h
      refine ⟨_, ?_, .bool _⟩; intro w'; simp [binOp, Op.stringOp]
    · obtain rfl := Option.some.inj h
      refine ⟨_, ?_, .bool _⟩; intro w'; simp [binOp, Op.stringOp]
    · obtain rfl := Option.some.inj h
      refine ⟨_, ?_, .bool _⟩; intro w'; simp [binOp, Op.stringOp]
    · cases h
  · cases h

theorem lun_sound {P : Program} {w : World} {ι : Pl} {per : Nat → Prop} {op : UnOp} {x : LV} {u : Value} (hx : VR w per ι x u) {r : LV}
    (h : lun op x = some r) : ∃ z, (∀ w', (Op.unary op u).run P w' = .ok z w') ∧ VR w per ι r z := by
  unfold lun at h
  split at h
  · cases hx
    split at h
    · obtain rfl := Option.some.inj h
      refine ⟨_, ?_, .int _ _⟩; intro w'; simp [Op.unary, Op.intArith]
    · obtain rfl := Option.some.inj h
      refine ⟨_, ?_, .int _ _⟩; intro w'; simp only [Op.unary, Op.intBits]; rfl
    · cases h
  · cases hx
    split at h
    · obtain rfl := Option.some.inj h
      refine ⟨_, ?_, .bool _⟩; intro w'; simp [Op.unary]
    · cases h
  · cases h

end Go.Lite
set_option linter.unusedVariables false
set_option linter.unusedSimpArgs false

/- Lite, part C: the operations that only compute do what pureOp says. -/
namespace Go.Lite
open Go Go.RowKit
set_option linter.unusedVariables false

theorem add_plain (b o n : Nat) : (⟨b, o, none⟩ : Addr).add n = ⟨b, o + n, none⟩ := by
  unfold Addr.add
  split
  · rename_i h; subst h; rfl
  · rfl

/-- Lists of values. -/
def VL (w : World) (ι : Pl) (per : Nat → Prop) (cs : List LV) (vs : List Value) : Prop :=
  cs.length = vs.length ∧ ∀ i (h : i < cs.length), VR w per ι cs[i] (vs.getD i undef)

section
variable {w : World} {ι : Pl} {per : Nat → Prop}

theorem VR.agg_inv {cs : List LV} {v : Value} (h : VR w per ι (.agg cs) v) : ∃ vs : List Value, v = .agg vs.toArray ∧ VL w ι per cs vs := by
  cases h with
  | agg hn hv => exact ⟨_, rfl, hn, hv⟩

theorem VR.tup_inv {cs : List LV} {v : Value} (h : VR w per ι (.tup cs) v) : ∃ vs : List Value, v = .tuple vs.toArray ∧ VL w ι per cs vs := by
  cases h with
  | tup hn hv => exact ⟨_, rfl, hn, hv⟩

theorem VR.sl_inv {sz h off len : Nat} {v : Value} (hv : VR w per ι (.sl sz h off len) v) :
    (∃ b o cap, ι[h]? = some (some (b, o)) ∧ len ≤ cap ∧ Room w b (o + off + cap * sz) ∧ v = .slice (some ⟨b, o + off, none⟩) len cap) ∨ (len = 0 ∧ ∃ a, v = .slice a 0 0) := by
  cases hv with
  | sl h1 h2 h3 => exact .inl ⟨_, _, _, h1, h2, h3, rfl⟩
  | slz => exact .inr ⟨rfl, _, rfl⟩

theorem VR.ps_inv {sz len : Nat} {cs : List LV} {v : Value} (hv : VR w per ι (.ps sz len cs) v) :
    (∃ (b o cap : Nat) (vs : Nat → Value), per b ∧ cs.length = len * sz ∧ len ≤ cap ∧ (∀ i, i < cs.length → w.cell? ⟨b, o + i, none⟩ = some (vs i)) ∧ (∀ i (h : i < cs.length), VR w per [] cs[i] (vs i)) ∧
      v = .slice (some ⟨b, o, none⟩) len cap) ∨ (len = 0 ∧ cs = [] ∧ ∃ a cap, v = .slice a 0 cap) := by
  cases hv with
  | ps vs h1 h2 h3 h4 h5 => exact .inl ⟨_, _, _, vs, h1, h2, h3, h4, h5, rfl⟩
  | psz => exact .inr ⟨rfl, rfl, _, _, rfl⟩

theorem VR.pp_inv {cs : List LV} {v : Value} (hv : VR w per ι (.pp cs) v) :
    ∃ (b o : Nat) (vs : Nat → Value), per b ∧ (∀ i, i < cs.length → w.cell? ⟨b, o + i, none⟩ = some (vs i)) ∧ (∀ i (h : i < cs.length), VR w per [] cs[i] (vs i)) ∧ v = .pointer (some ⟨b, o, none⟩) := by
  cases hv with
  | pp vs h1 h2 h3 => exact ⟨_, _, vs, h1, h2, h3, rfl⟩

theorem VR.ptr_inv {h off : Nat} {v : Value} (hv : VR w per ι (.ptr h off) v) : ∃ b o, ι[h]? = some (some (b, o)) ∧ v = .pointer (some ⟨b, o + off, none⟩) := by
  cases hv with
  | ptr hi => exact ⟨_, _, hi, rfl⟩

theorem VL.get {cs : List LV} {vs : List Value} (h : VL w ι per cs vs) {i : Nat} {x : LV} (hx : cs[i]? = some x) : ∃ v, vs[i]? = some v ∧ VR w per ι x v := by
  obtain ⟨hi, rfl⟩ := List.getElem?_eq_some_iff.1 hx
  have hi' : i < vs.length := by rw [← h.1]; exact hi
  refine ⟨vs[i], by simp [hi'], ?_⟩
  have := h.2 i hi
  simpa [hi'] using this

theorem VL.nil : VL w ι per [] [] := ⟨rfl, fun i h => absurd h (by simp)⟩

theorem VL.one {x : LV} {v : Value} (h : VR w per ι x v) : VL w ι per [x] [v] :=
  ⟨rfl, fun i hi => by
    have : i = 0 := by simpa using hi
    subst this; simpa using h⟩

theorem VL.append {cs ds : List LV} {vs us : List Value} (h : VL w ι per cs vs) (k : VL w ι per ds us) : VL w ι per (cs ++ ds) (vs ++ us) := by
  refine ⟨by simp [h.1, k.1], fun i hi => ?_⟩
  by_cases hc : i < cs.length
  · have hv : i < vs.length := by rw [← h.1]; exact hc
    have := h.2 i hc
    simp only [List.getElem_append_left hc]
    simpa [List.getD_eq_getElem?_getD, List.getElem?_append_left hv] using this
  · have hc' : cs.length ≤ i := by omega
    have hi2 : i - cs.length < ds.length := by simp at hi; omega
    have := k.2 (i - cs.length) hi2
    rw [List.getElem_append_right hc']
    have hv : vs.length ≤ i := by rw [← h.1]; exact hc'
    rw [List.getD_eq_getElem?_getD, List.getElem?_append_right hv, ← h.1]
    simpa [List.getD_eq_getElem?_getD] using this

theorem VL.drop {cs : List LV} {vs : List Value} (h : VL w ι per cs vs) (n : Nat) : VL w ι per (cs.drop n) (vs.drop n) := by
  refine ⟨by simp [h.1], fun i hi => ?_⟩
  have hi2 : n + i < cs.length := by simp at hi; omega
  have := h.2 (n + i) hi2
  rw [List.getElem_drop]
  simpa [List.getD_eq_getElem?_getD] using this

theorem VL.take {cs : List LV} {vs : List Value} (h : VL w ι per cs vs) (n : Nat) : VL w ι per (cs.take n) (vs.take n) := by
  refine ⟨by simp [h.1], fun i hi => ?_⟩
  have hi2 : i < cs.length := by simp at hi; omega
  have hn : i < n := by simp at hi; omega
  have := h.2 i hi2
  rw [List.getElem_take]
  simpa [List.getD_eq_getElem?_getD, List.getElem?_take, hn] using this

theorem VL.put {cs ds : List LV} {vs us : List Value} (h : VL w ι per cs vs) (k : VL w ι per ds us) (off : Nat) : VL w ι per (putCells cs off ds) (vs.take off ++ us ++ vs.drop (off + us.length)) := by
  unfold putCells
  rw [k.1]
  exact ((h.take off).append k).append (h.drop _)

theorem VR.cells {x : LV} {v : Value} (h : VR w per ι x v) {cs : List LV} (hc : lcells x = some cs) : VL w ι per cs v.cells.toList := by
  cases h with
  | dead => cases hc
  | und => cases hc
  | tup => cases hc
  | agg hn hv => obtain rfl := Option.some.inj hc; exact ⟨hn, hv⟩
  | bool b => obtain rfl := Option.some.inj hc; exact .one (.bool b)
  | int k n => obtain rfl := Option.some.inj hc; exact .one (.int k n)
  | str s => obtain rfl := Option.some.inj hc; exact .one (.str s)
  | nilp => obtain rfl := Option.some.inj hc; exact .one .nilp
  | ptr hi => obtain rfl := Option.some.inj hc; exact .one (.ptr hi)
  | pp vs hp h1 h2 => obtain rfl := Option.some.inj hc; exact .one (.pp vs hp h1 h2)
  | nils => obtain rfl := Option.some.inj hc; exact .one .nils
  | sl h1 h2 h3 => obtain rfl := Option.some.inj hc; exact .one (.sl h1 h2 h3)
  | slz => obtain rfl := Option.some.inj hc; exact .one .slz
  | psz => obtain rfl := Option.some.inj hc; exact .one .psz
  | ps vs hp h0 h00 h1 h2 => obtain rfl := Option.some.inj hc; exact .one (.ps vs hp h0 h00 h1 h2)
  | nilf => obtain rfl := Option.some.inj hc; exact .one .nilf
  | fn h1 h2 => obtain rfl := Option.some.inj hc; rw [fnV_cells]; exact .one (.fn h1 h2)
  | yld l => obtain rfl := Option.some.inj hc; exact .one (.yld l)

theorem VL.scalars (vs : List Value) : VL w ι per (vs.map scalarLV) vs :=
  ⟨by simp, fun i hi => by
    have hi' : i < vs.length := by simpa using hi
    simp [hi']
    exact .scalar _⟩

theorem foldl_put (l : List Value) : ∀ (n off : Nat) (cells : Array Value), off + n + l.length ≤ cells.size →
    ((l.zipIdx n).foldl (fun cs (p : Value × Nat) => cs.setIfInBounds (off + p.2) p.1) cells).toList = cells.toList.take (off + n) ++ l ++ cells.toList.drop (off + n + l.length) := by
  induction l with
  | nil => intro n off cells h; simp
  | cons x r ih =>
    intro n off cells h
    simp only [List.length_cons] at h
    simp only [List.zipIdx_cons, List.foldl_cons]
    rw [ih (n + 1) off _ (by simp; omega)]
    have h1 : off + n < cells.toList.length := by simp; omega
    simp only [Array.toList_setIfInBounds]
    rw [show off + (n + 1) = (off + n) + 1 from by omega, List.take_succ_eq_append_getElem (by simpa using h1)]
    rw [List.take_set_of_le (Nat.le_refl _)]
    simp only [List.getElem_set_self, List.length_cons, List.append_assoc, List.singleton_append]
    congr 2
    rw [show off + n + 1 + r.length = off + n + (r.length + 1) from by omega]
    rw [List.drop_set_of_lt (by omega)]

theorem lfill_sound (place : Nat → Option (Nat × Nat)) (pl : Nat → Option (Nat × Nat)) (hpl : ∀ i, place i = pl i) : ∀ (parts : List (Nat × LV)) (vals : List (Nat × Value)),
    parts.length = vals.length → (∀ (i : Nat) (p : Nat × LV), parts[i]? = some p → ∃ v, vals[i]? = some (p.1, v) ∧ VR w per ι p.2 v) →
    ∀ (cells : List LV) (cvs : Array Value), VL w ι per cells cvs.toList → ∀ r, lfill place cells parts = some r →
    ∃ out, Instr.fill pl cvs vals = some out ∧ VL w ι per r out.toList := by
  intro parts
  induction parts with
  | nil =>
    intro vals hl _ cells cvs hc r h
    cases vals with
    | cons => simp at hl
    | nil => obtain rfl := Option.some.inj h; exact ⟨cvs, rfl, hc⟩
  | cons p ps ih =>
    intro vals hl hp cells cvs hc r h
    cases vals with
    | nil => simp at hl
    | cons q qs =>
      obtain ⟨i, x⟩ := p
      obtain ⟨v, hv, hxv⟩ := hp 0 (i, x) rfl
      simp only [List.getElem?_cons_zero, Option.some.injEq] at hv
      subst hv
      simp only [lfill] at h
      split at h
      · rename_i off size cs hpi hcs
        have hcv := hxv.cells hcs
        split at h
        · cases h
        · rename_i hn
          have hsz : v.cells.size = cs.length := by have := hcv.1; simpa using this.symm
          have hcl : cells.length = cvs.size := by have := hc.1; simpa using this
          have hn' : ¬ (v.cells.size ≠ size ∨ off + v.cells.size > cvs.size) := by
            rw [hsz, ← hcl]; exact hn
          simp only [Instr.fill, ← hpl, hpi]
          rw [if_neg (by simpa using hn')]
          refine ih qs (by simpa using hl) (fun j p hj => by simpa using hp (j + 1) p (by simpa using hj)) _ _ ?_ r h
          have hput := hc.put hcv off
          have hf := foldl_put v.cells.toList 0 off cvs (by simp only [not_or] at hn'; simp; omega)
          simp only [Nat.add_zero] at hf
          have e : (Array.foldl (fun cs (x : Value × Nat) => cs.setIfInBounds (off + x.2) x.1) cvs v.cells.zipIdx) = (v.cells.toList.zipIdx.foldl (fun cs (p : Value × Nat) => cs.setIfInBounds (off + p.2) p.1) cvs) := by
            rw [← Array.foldl_toList]; simp
          have e2 := congrArg Array.toList e
          rw [hf] at e2
          show VL w ι per _ (Array.foldl (fun cs (x : Value × Nat) => cs.setIfInBounds (off + x.2) x.1) cvs v.cells.zipIdx).toList
          rw [e2]
          simpa using hput
      · cases h

end

section
variable {P : Program} {w : World} {ι : Pl} {per : Nat → Prop}

theorem lpart_sound {t : TypeId} {j : TypeInfo} {d : TypeDesc} (hj : P.info? t = some j) (hd : P.underlying t = some d) {cs : List LV} {vs : List Value} (h : VL w ι per cs vs) {off : Nat} {x : LV}
    (hx : lpart (aggOf P t) j.size cs off = some x) : ∃ u, (∀ w', (part t vs.toArray off).run P w' = .ok u w') ∧ VR w per ι x u := by
  unfold lpart at hx
  unfold part
  simp only [Sem.run_bind, run_isAgg hd, Result.andThen_ok]
  split at hx
  · rename_i hagg
    split at hx
    · rename_i hl
      obtain rfl := Option.some.inj hx
      simp only [hagg, if_true]
      refine ⟨.agg (((vs.drop off).take j.size).toArray), ?_, ?_⟩
      · intro w'; simp [run_sizeOf hj, List.extract_eq_take_drop]
      · exact .agg (((h.drop off).take j.size).1) (((h.drop off).take j.size).2)
    · cases hx
  · rename_i hagg
    obtain ⟨v, hv, hr⟩ := h.get hx
    simp only [hagg]
    refine ⟨v, ?_, hr⟩
    intro w'; simp [hv]

theorem fieldsOf_spec (l : List Field) : ∀ fs, fieldsOf P l = some fs → fs.length = l.length ∧ ∀ (i : Nat) (o s : Nat) (g : Bool), fs[i]? = some (o, s, g) →
    ∃ f j d, l[i]? = some f ∧ P.info? f.type = some j ∧ P.underlying f.type = some d ∧ o = f.offset ∧ s = j.size ∧ g = aggOf P f.type := by
  induction l with
  | nil => intro fs h; obtain rfl := Option.some.inj h; exact ⟨rfl, fun i o s g hi => by simp at hi⟩
  | cons f r ih =>
    intro fs h
    simp only [fieldsOf] at h
    split at h
    · rename_i j d l hj hd hl
      obtain rfl := Option.some.inj h
      obtain ⟨h1, h2⟩ := ih l hl
      refine ⟨by simp [h1], fun i o s g hi => ?_⟩
      cases i with
      | zero =>
        simp only [List.getElem?_cons_zero, Option.some.injEq, Prod.mk.injEq] at hi
        exact ⟨f, j, d, rfl, hj, hd, hi.1.symm, hi.2.1.symm, hi.2.2.symm⟩
      | succ i => exact h2 i o s g (by simpa using hi)
    · cases h

/-- A struct's type, taken apart. -/
theorem struct_spec {t : TypeId} {fs : List (Nat × Nat × Bool)} {size : Nat} {agg : Bool} {z : List LV} (h : tiOf P t = some ⟨.struct fs, size, agg, z⟩) :
    ∃ fl, P.underlying t = some (.struct fl) ∧ fieldsOf P fl.toList = some fs := by
  obtain ⟨i, d, z', hi, hd, hz, _, _, _, _, htd⟩ := ti_spec h
  cases d <;> simp only [tdOf] at htd <;> try (first | cases htd | (split at htd <;> try cases htd) | skip)
  case struct fl =>
    cases hf : fieldsOf P fl.toList with
    | none => rw [hf] at htd; cases htd
    | some l =>
      rw [hf] at htd
      simp only [Option.map_some, Option.some.injEq, TD.struct.injEq] at htd
      subst htd
      exact ⟨fl, hd, hf⟩
  all_goals (repeat' split at htd) <;> first | cases htd | (simp at htd)

theorem slice_spec {t : TypeId} {esz eb : Nat} {ez : List LV} {size : Nat} {agg : Bool} {z : List LV} (h : tiOf P t = some ⟨.slice esz eb ez, size, agg, z⟩) :
    ∃ e j ze, P.underlying t = some (.slice e) ∧ P.info? e = some j ∧ j.size = esz ∧ j.bytes = eb ∧ j.zero = some ze ∧ ez = ze.cells.toList.map scalarLV ∧ ze.cells.size = esz ∧ 0 < esz := by
  obtain ⟨i, d, z', hi, hd, hz, _, _, _, _, htd⟩ := ti_spec h
  cases d
  case slice e =>
    simp only [tdOf] at htd
    split at htd
    · rename_i j hj
      split at htd
      · rename_i zz hzz
        split at htd
        · cases htd
        · rename_i hne
          simp only [Option.some.injEq, TD.slice.injEq] at htd
          obtain ⟨rfl, rfl, rfl⟩ := htd
          unfold zeroOf at hzz
          split at hzz
          · rename_i ze hze
            obtain rfl := Option.some.inj hzz
            simp only [not_or, ne_eq, Decidable.not_not] at hne
            refine ⟨e, j, ze, hd, hj, rfl, rfl, hze, rfl, by simpa using hne.2, by omega⟩
          · cases hzz
      · cases htd
    · cases htd
  all_goals (exfalso; simp only [tdOf] at htd; (repeat' split at htd) <;> first | cases htd | (simp at htd))

theorem arr_spec {t : TypeId} {n esz : Nat} {eagg : Bool} {size : Nat} {agg : Bool} {z : List LV} (h : tiOf P t = some ⟨.arr n esz eagg, size, agg, z⟩) :
    ∃ e j d, P.underlying t = some (.array n e) ∧ P.info? e = some j ∧ P.underlying e = some d ∧ j.size = esz ∧ eagg = aggOf P e ∧ 0 < esz := by
  obtain ⟨i, d, z', hi, hd, hz, _, _, _, _, htd⟩ := ti_spec h
  cases d
  case array m e =>
    simp only [tdOf] at htd
    split at htd
    · rename_i j dd hj hdd
      split at htd
      · cases htd
      · rename_i hne
        simp only [Option.some.injEq, TD.arr.injEq] at htd
        obtain ⟨rfl, rfl, rfl⟩ := htd
        exact ⟨e, j, dd, hd, hj, hdd, rfl, rfl, by omega⟩
    · cases htd
  all_goals (exfalso; simp only [tdOf] at htd; (repeat' split at htd) <;> first | cases htd | (simp at htd))

theorem str_spec {t : TypeId} {size : Nat} {agg : Bool} {z : List LV} (h : tiOf P t = some ⟨.str, size, agg, z⟩) : P.underlying t = some .string := by
  obtain ⟨i, d, z', hi, hd, hz, _, _, _, _, htd⟩ := ti_spec h
  cases d
  case string => exact hd
  all_goals (exfalso; simp only [tdOf] at htd; (repeat' split at htd) <;> first | cases htd | (simp at htd))

theorem int_spec {t : TypeId} {k : IntKind} {size : Nat} {agg : Bool} {z : List LV} (h : tiOf P t = some ⟨.int k, size, agg, z⟩) : P.underlying t = some (.int k) := by
  obtain ⟨i, d, z', hi, hd, hz, _, _, _, _, htd⟩ := ti_spec h
  cases d
  case int k' =>
    simp only [tdOf, Option.some.injEq, TD.int.injEq] at htd
    subst htd; exact hd
  all_goals (exfalso; simp only [tdOf] at htd; (repeat' split at htd) <;> first | cases htd | (simp at htd))

theorem bool_spec {t : TypeId} {size : Nat} {agg : Bool} {z : List LV} (h : tiOf P t = some ⟨.bool, size, agg, z⟩) : P.underlying t = some .bool := by
  obtain ⟨i, d, z', hi, hd, hz, _, _, _, _, htd⟩ := ti_spec h
  cases d
  case bool => exact hd
  all_goals (exfalso; simp only [tdOf] at htd; (repeat' split at htd) <;> first | cases htd | (simp at htd))

end
end Go.Lite
set_option linter.unusedVariables false
set_option linter.unusedSimpArgs false

/- Lite, part D: the operations that only compute do what pureOp says, all of them. -/
namespace Go.Lite
open Go Go.RowKit
set_option linter.unusedVariables false

section
variable {P : Program} {w : World} {ι : Pl} {per : Nat → Prop} {F : Fr} {a : Act}

theorem run_equal_bool {t : TypeId} (h : P.underlying t = some .bool) (x y : Bool) (w : World) : (Op.equal t (.bool x) (.bool y)).run P w = .ok (x == y) w := by
  unfold Op.equal
  rw [show Op.maxDepth = 9999 + 1 from rfl, Op.equalIn]
  simp only [Sem.run_bind, run_underlying h, Result.andThen_ok, Sem.run_pure]

/-- The first cells of two rows of a plain type, compared. -/
theorem flat_eq {t : TypeId} {kd : Nat} (h : flatTy P t = some kd) {ks : List Nat} {x y : LV} {u v : Value} (hx : VR w per ι x u) (hy : VR w per ι y v) {r r' : List LV} {b : Bool} (he : eqCells (kd :: ks) (x :: r) (y :: r') = some b) :
    ∃ c b', (∀ d w', (Op.equalIn (d + 1) t u v).run P w' = .ok c w') ∧ eqCells ks r r' = some b' ∧ b = (c && b') := by
  have hi : ∀ (a b : Int), decide (a = b) = (a == b) := fun a b => by by_cases e : a = b <;> simp [e]
  unfold flatTy at h
  split at h
  · rename_i k' hu
    obtain rfl := Option.some.inj h
    cases x <;> cases y <;> simp only [eqCells, reduceCtorEq] at he
    split at he
    · rename_i e
      subst e
      obtain ⟨b', h1, rfl⟩ := Option.map_eq_some_iff.1 he
      cases hx; cases hy
      exact ⟨_, b', fun d w' => run_equalIn_int w' d t _ _ _ _ hu, h1, by rw [hi]⟩
    · cases he
  · rename_i hu
    obtain rfl := Option.some.inj h
    cases x <;> cases y <;> simp only [eqCells, reduceCtorEq] at he
    obtain ⟨b', h1, rfl⟩ := Option.map_eq_some_iff.1 he
    cases hx; cases hy
    exact ⟨_, b', fun d w' => run_equalIn_bool' w' d t _ _ hu, h1, rfl⟩
  · rename_i hu
    obtain rfl := Option.some.inj h
    cases x <;> cases y <;> simp only [eqCells, reduceCtorEq] at he
    obtain ⟨b', h1, rfl⟩ := Option.map_eq_some_iff.1 he
    cases hx; cases hy
    exact ⟨_, b', fun d w' => run_equalIn_string w' d t _ _ hu, h1, rfl⟩
  · cases h

theorem flat_part {t : TypeId} {kd : Nat} (h : flatTy P t = some kd) {xs : Array Value} {n : Nat} {v : Value} (hv : xs[n]? = some v) (w' : World) : (part t xs n).run P w' = .ok v w' := by
  have : ∃ d, P.underlying t = some d ∧ aggOf P t = false := by
    unfold flatTy at h
    unfold aggOf
    split at h <;> first | (rename_i hu; rw [hu]; exact ⟨_, rfl, rfl⟩) | (rename_i _ hu; rw [hu]; exact ⟨_, rfl, rfl⟩) | cases h
  obtain ⟨d, hd, ha⟩ := this
  unfold part
  simp [run_isAgg hd, ha, hv]

theorem eqCells_len : ∀ (ks : List Nat) (a b : List LV) (r : Bool), eqCells ks a b = some r → a.length = ks.length ∧ b.length = ks.length := by
  intro ks
  induction ks with
  | nil => intro a b r h; cases a <;> cases b <;> simp [eqCells] at h; exact ⟨rfl, rfl⟩
  | cons k ks ih =>
    intro a b r h
    have fin : ∀ {a b : List LV} {f : Bool → Bool}, (eqCells ks a b).map f = some r → a.length = ks.length ∧ b.length = ks.length := fun h => by
      obtain ⟨b', h1, _⟩ := Option.map_eq_some_iff.1 h
      exact ih _ _ _ h1
    rcases a with _ | ⟨x, a⟩
    · rcases k with _ | _ | _ | k <;> cases b <;> simp [eqCells] at h
    · rcases b with _ | ⟨y, b⟩
      · rcases k with _ | _ | _ | k <;> cases x <;> simp [eqCells] at h
      · simp only [List.length_cons, Nat.add_right_cancel_iff]
        rcases k with _ | _ | _ | k
        · cases x <;> cases y <;> simp only [eqCells, reduceCtorEq] at h
          split at h
          · exact fin h
          · cases h
        · cases x <;> cases y <;> simp only [eqCells, reduceCtorEq, Nat.zero_add] at h
          exact fin h
        · cases x <;> cases y <;> simp only [eqCells, reduceCtorEq, Nat.zero_add, Nat.reduceAdd] at h
          exact fin h
        · cases x <;> cases y <;> simp [eqCells] at h

theorem fields_eq {us vs : List Value} : ∀ (l : List Field) (n : Nat) (ks : List Nat) (xs ys : List LV) (b : Bool), flatFs P n l = some ks → VL w ι per xs (us.drop n) → VL w ι per ys (vs.drop n) → eqCells ks xs ys = some b →
    ∀ d w', (Op.eqFields (d + 1) us.toArray vs.toArray l).run P w' = .ok b w' := by
  intro l
  induction l with
  | nil =>
    intro n ks xs ys b h _ _ he d w'
    obtain rfl := Option.some.inj h
    have := eqCells_len _ _ _ _ he
    cases xs with
    | cons => simp at this
    | nil =>
      cases ys with
      | cons => simp at this
      | nil =>
        obtain rfl := Option.some.inj he
        simp [Op.eqFields]
  | cons f l ih =>
    intro n ks xs ys b h hx hy he d w'
    simp only [flatFs] at h
    split at h
    · rename_i hc
      simp only [Bool.and_eq_true] at hc
      have hoff : f.offset = n := Nat.eq_of_beq_eq_true hc.2
      split at h
      · rename_i k ks' hk hks
        obtain rfl := Option.some.inj h
        have hl := eqCells_len _ _ _ _ he
        cases xs with
        | nil => simp at hl
        | cons x xs =>
          cases ys with
          | nil => simp at hl
          | cons y ys =>
            have hun : n < us.length := by have := hx.1; simp at this; omega
            have hvn : n < vs.length := by have := hy.1; simp at this; omega
            have h0 := hx.2 0 (by simp)
            have h0' := hy.2 0 (by simp)
            simp only [List.getElem_cons_zero] at h0 h0'
            have du : us.drop n = us[n] :: us.drop (n + 1) := List.drop_eq_getElem_cons hun
            have dv : vs.drop n = vs[n] :: vs.drop (n + 1) := List.drop_eq_getElem_cons hvn
            rw [du, List.getD_cons_zero] at h0
            rw [dv, List.getD_cons_zero] at h0'
            obtain ⟨c, b', h1, h2, rfl⟩ := flat_eq hk h0 h0' he
            have tl : ∀ {zs : List LV} {z : LV} {ws : List Value} {wv : Value}, VL w ι per (z :: zs) (wv :: ws) → VL w ι per zs ws := fun h => ⟨by simpa using h.1, fun i hi => by have := h.2 (i + 1) (by simpa using hi); rwa [List.getElem_cons_succ, List.getD_cons_succ] at this⟩
            rw [du] at hx
            rw [dv] at hy
            have := ih (n + 1) ks' xs ys b' hks (tl hx) (tl hy) h2 d w'
            have hne : f.name ≠ "_" := by simpa using hc.1
            simp only [Op.eqFields, hne, ne_eq, not_false_eq_true, if_true, Sem.run_bind, hoff, flat_part hk (show us.toArray[n]? = some us[n] by simp [hun]), flat_part hk (show vs.toArray[n]? = some vs[n] by simp [hvn]), Result.andThen_ok, h1]
            cases c
            · simp
            · simpa using this
      · cases h
    · cases h

theorem array_eq {e : TypeId} {kd : Nat} (hk : flatTy P e = some kd) {us vs : List Value} (d : Nat) : ∀ (m n : Nat) (xs ys : List LV) (b : Bool), VL w ι per xs (us.drop n) → VL w ι per ys (vs.drop n) → eqCells (List.replicate m kd) xs ys = some b →
    ∀ w', (do for i in List.range' n m do
                if !(← Op.equalIn (d + 1) e (← part e us.toArray (i * 1)) (← part e vs.toArray (i * 1))) then return false
              pure true : Sem Bool).run P w' = .ok b w' := by
  intro m
  induction m with
  | zero =>
    intro n xs ys b _ _ he w'
    have := eqCells_len _ _ _ _ he
    cases xs with
    | cons => simp at this
    | nil =>
      cases ys with
      | cons => simp at this
      | nil => obtain rfl := Option.some.inj he; simp
  | succ m ih =>
    intro n xs ys b hx hy he w'
    have hl := eqCells_len _ _ _ _ he
    cases xs with
    | nil => simp at hl
    | cons x xs =>
      cases ys with
      | nil => simp at hl
      | cons y ys =>
        have hun : n < us.length := by have := hx.1; simp at this; omega
        have hvn : n < vs.length := by have := hy.1; simp at this; omega
        have h0 := hx.2 0 (by simp)
        have h0' := hy.2 0 (by simp)
        simp only [List.getElem_cons_zero] at h0 h0'
        have du : us.drop n = us[n] :: us.drop (n + 1) := List.drop_eq_getElem_cons hun
        have dv : vs.drop n = vs[n] :: vs.drop (n + 1) := List.drop_eq_getElem_cons hvn
        rw [du, List.getD_cons_zero] at h0
        rw [dv, List.getD_cons_zero] at h0'
        rw [List.replicate_succ] at he
        obtain ⟨c, b', h1, h2, rfl⟩ := flat_eq hk h0 h0' he
        have tl : ∀ {zs : List LV} {z : LV} {ws : List Value} {wv : Value}, VL w ι per (z :: zs) (wv :: ws) → VL w ι per zs ws := fun h => ⟨by simpa using h.1, fun i hi => by have := h.2 (i + 1) (by simpa using hi); rwa [List.getElem_cons_succ, List.getD_cons_succ] at this⟩
        rw [du] at hx
        rw [dv] at hy
        have := ih (n + 1) xs ys b' (tl hx) (tl hy) h2 w'
        simp only [List.range'_succ, List.forIn_cons, Sem.run_bind, Nat.mul_one, flat_part hk (show us.toArray[n]? = some us[n] by simp [hun]), flat_part hk (show vs.toArray[n]? = some vs[n] by simp [hvn]), Result.andThen_ok, h1]
        cases c
        · simp
        · simpa [Nat.mul_one] using this

theorem agg_eq {t : TypeId} {ks : List Nat} (ht : eqOf P t = some ks) {a b : List LV} {us vs : List Value} (hx : VL w ι per a us) (hy : VL w ι per b vs) {r : Bool} (he : eqCells ks a b = some r) :
    P.eqGuardType P.depth t = false ∧ ∀ w', (Op.equalIn 10000 t (.agg us.toArray) (.agg vs.toArray)).run P w' = .ok r w' := by
  unfold eqOf at ht
  split at ht
  · rename_i fs hu
    split at ht
    · rename_i hc
      simp only [Bool.and_eq_true, Bool.not_eq_true'] at hc
      refine ⟨hc.1, fun w' => ?_⟩
      have hf : P.fieldsOf t = fs := by unfold Program.fieldsOf; rw [hu]
      rw [run_equalIn_struct w' 9999 t us.toArray vs.toArray (by rw [hf]; exact hu) hc.2, hf]
      exact fields_eq (us := us) (vs := vs) fs.toList 0 ks a b r ht (by simpa using hx) (by simpa using hy) he 9998 w'
    · cases ht
  · rename_i n e hu
    split at ht
    · rename_i hc
      split at ht
      · rename_i k j hk hj
        split at ht
        · rename_i hs
          obtain rfl := Option.some.inj ht
          refine ⟨by simpa using hc, fun w' => ?_⟩
          have hs' : j.size = 1 := Nat.eq_of_beq_eq_true hs
          have := array_eq (P := P) hk (us := us) (vs := vs) 9998 n 0 a b r (by simpa using hx) (by simpa using hy) he w'
          rw [show (10000 : Nat) = 9999 + 1 from rfl, Op.equalIn]
          simp only [Sem.run_bind, run_underlying hu, Result.andThen_ok, run_sizeOf hj, hs']
          simpa [Std.Legacy.Range.forIn_eq_forIn_range', Std.Legacy.Range.size] using this
        · cases ht
      · cases ht
    · cases ht
  · cases ht

theorem lbinT_sound {op : BinOp} {t : TypeId} {x y : LV} {u v : Value} {ox oy : Operand} (hx : VR w per ι x u) (hy : VR w per ι y v) {r : LV}
    (h : lbinT (ttOf P) t op x y = some r) : ∃ z, (∀ w', (do eqGuard op t ox oy u v; binOp op t u v : Sem Value).run P w' = .ok z w') ∧ VR w per ι r z := by
  have fin : ∀ {c : Bool}, (∀ w', (eqGuard op t ox oy u v).run P w' = .ok () w') → (∀ w', (Op.equalIn 10000 t u v).run P w' = .ok c w') → (∀ op w', op = BinOp.eql ∨ op = BinOp.neq → (binOp op t u v).run P w' = ((Op.equalIn 10000 t u v).run P w').andThen fun b w' => .ok (.bool (if op = .eql then b else !b)) w') →
      eqB op c = some r → ∃ z, (∀ w', (do eqGuard op t ox oy u v; binOp op t u v : Sem Value).run P w' = .ok z w') ∧ VR w per ι r z := by
    intro c h1 h2 h3 h4
    unfold eqB at h4
    split at h4
    · obtain rfl := Option.some.inj h4
      exact ⟨_, fun w' => by simp only [Sem.run_bind, h1, Result.andThen_ok, h3 .eql w' (.inl rfl), h2]; rfl, .bool _⟩
    · obtain rfl := Option.some.inj h4
      exact ⟨_, fun w' => by simp only [Sem.run_bind, h1, Result.andThen_ok, h3 .neq w' (.inr rfl), h2]; rfl, .bool _⟩
    · cases h4
  unfold lbinT at h
  split at h
  · cases hx; cases hy
    simp only [Sem.run_bind, eqGuard_bool, Result.andThen_ok]
    split at h
    · rename_i ht
      obtain rfl := Option.some.inj h
      refine ⟨_, ?_, .bool _⟩
      intro w'
      simp only [binOp, Sem.run_bind, run_equal_bool (bool_spec ht), Result.andThen_ok, Sem.run_pure]
    · rename_i ht
      obtain rfl := Option.some.inj h
      refine ⟨_, ?_, .bool _⟩
      intro w'
      simp only [binOp, Sem.run_bind, run_equal_bool (bool_spec ht), Result.andThen_ok, Sem.run_pure]
    · cases h
  · obtain ⟨us, rfl, hu⟩ := hx.agg_inv
    obtain ⟨vs, rfl, hv⟩ := hy.agg_inv
    split at h
    · rename_i ks hks
      split at h
      · rename_i c hc
        obtain ⟨g1, g2⟩ := agg_eq (show eqOf P t = some ks from hks) hu hv hc
        refine fin (fun w' => run_eqGuard_agg w' op t ox oy _ _ g1) g2 (fun o w' ho => ?_) h
        rcases ho with rfl | rfl
        · rw [run_eql_struct]; rfl
        · rw [run_neq_struct]; rfl
      · cases h
    · cases h
  all_goals first
    | exact lbin_sound hx hy h
    | ((first | (obtain ⟨_, _, rfl⟩ := hx.fn_form) | cases hx); cases hy
       split at h
       · rename_i ht
         have ht' : nilOf P t = _ := Nat.eq_of_beq_eq_true ht
         unfold nilOf at ht'
         split at ht' <;> first | cases ht' | (split at ht' <;> cases ht'; done) | skip
         rename_i hu
         refine fin (fun w' => by cases op <;> rfl) (fun w' => ?_) (fun o w' ho => ?_) h
         · rw [show (10000 : Nat) = 9999 + 1 from rfl, Op.equalIn]
           simp [run_underlying hu]
         · rcases ho with rfl | rfl <;> simp [binOp, Op.equal, Op.maxDepth]
       · cases h)
    | (cases hx; cases hy
       split at h
       · rename_i ht
         have hs : ∃ e, P.underlying t = some (.slice e) := by
           have ht' : Nat.ble 3 (nilOf P t) = true := ht
           unfold nilOf at ht'
           split at ht' <;> first | (cases ht'; done) | exact ⟨_, by assumption⟩
         obtain ⟨e, hu⟩ := hs
         refine fin (fun w' => by cases op <;> rfl) (fun w' => ?_) (fun o w' ho => ?_) h
         · rw [show (10000 : Nat) = 9999 + 1 from rfl, Op.equalIn]
           simp [run_underlying hu]
         · rcases ho with rfl | rfl <;> simp [binOp, Op.equal, Op.maxDepth]
       · cases h)

theorem VR.asI {x : LV} {v : Value} (h : VR w per ι x v) {n : Int} (hn : asI x = some n) : ∃ k, v = .int k n := by
  cases h <;> simp only [Lite.asI, Option.some.injEq, reduceCtorEq] at hn
  subst hn; exact ⟨_, rfl⟩

theorem run_sliceBound {v : Value} {n : Int} {k : IntKind} {y : Nat} {code : BoundsCode} (hv : v = .int k n) (h0 : 0 ≤ n) (h1 : n ≤ y) : (Instr.sliceBound v y code).run P w = .ok n.toNat w := by
  subst hv
  simp [Instr.sliceBound, asIntOf, h0, h1]

def VO (w : World) (ι : Pl) (per : Nat → Prop) : Option LV → Option Value → Prop
  | none, none => True
  | some x, some v => VR w per ι x v
  | _, _ => False

theorem VO.map (hF : FR w ι per F a) (x : Option Operand) : VO w ι per (x.map (evalO F)) (x.map a.eval) := by
  cases x with
  | none => trivial
  | some x => exact hF.eval x

theorem bnds_sound {isSl : Bool} {len cap : Nat} (hlc : len ≤ cap) {lo hi : Option LV} {vlo vhi : Option Value}
    (hlo : VO w ι per lo vlo) (hhi : VO w ι per hi vhi) {l r : Nat} (h : sliceBnds len lo hi = some (l, r)) :
    (∀ w', (Instr.sliceBounds isSl len cap vlo vhi none).run P w' = .ok (l, r, cap) w') ∧ l ≤ r ∧ r ≤ len := by
  unfold sliceBnds at h
  split at h
  · rename_i hh ll ehi elo
    split at h
    · rename_i hc
      simp only [Option.some.injEq, Prod.mk.injEq] at h
      obtain ⟨rfl, rfl⟩ := h
      refine ⟨?_, by omega, by omega⟩
      intro w'
      unfold Instr.sliceBounds
      cases hi with
      | none =>
        cases vhi with
        | some v => exact hhi.elim
        | none =>
          simp only [hiOf, Option.some.injEq] at ehi
          subst ehi
          cases lo with
          | none =>
            cases vlo with
            | some v => exact hlo.elim
            | none =>
              simp only [loOf, Option.some.injEq] at elo
              subst elo
              simp
          | some x =>
            cases vlo with
            | none => exact hlo.elim
            | some u =>
              obtain ⟨k, rfl⟩ := VR.asI hlo elo
              simp [run_sliceBound (P := P) (w := w') (v := .int k ll) (y := len) rfl (by omega) (by omega)]
      | some y =>
        cases vhi with
        | none => exact hhi.elim
        | some v =>
          obtain ⟨kh, rfl⟩ := VR.asI hhi ehi
          have hb := fun code => run_sliceBound (P := P) (w := w') (v := .int kh hh) (y := cap) (code := code) rfl (by omega) (by omega)
          cases lo with
          | none =>
            cases vlo with
            | some v => exact hlo.elim
            | none =>
              simp only [loOf, Option.some.injEq] at elo
              subst elo
              simp [hb]
          | some x =>
            cases vlo with
            | none => exact hlo.elim
            | some u =>
              obtain ⟨k, rfl⟩ := VR.asI hlo elo
              have hl := fun code => run_sliceBound (P := P) (w := w') (v := .int k ll) (y := hh.toNat) (code := code) rfl (by omega) (by omega)
              simp [hb, hl]
    · cases h
  · cases h

theorem Room.le {b n m : Nat} (h : Room w b n) (hm : m ≤ n) : Room w b m := by
  obtain ⟨c, e, fz, h1, h2⟩ := h
  exact ⟨c, e, fz, h1, by omega⟩

theorem lmin_sound : ∀ (l : List LV) (vs : List Value) (x : LV) (v : Value) (r : LV), VL w ι per l vs → VR w per ι x v → lmin l x = some r →
    ∃ u, (∀ w', (vs.foldlM Builtin.min2 v).run P w' = .ok u w') ∧ VR w per ι r u := by
  intro l
  induction l with
  | nil =>
    intro vs x v r hl hx h
    have : vs = [] := by have := hl.1; simpa using this.symm
    subst this
    obtain rfl := Option.some.inj h
    exact ⟨v, by simp, hx⟩
  | cons y l ih =>
    intro vs x v r hl hx h
    cases vs with
    | nil => have := hl.1; simp at this
    | cons z vs =>
      cases y <;> try simp only [lmin, reduceCtorEq] at h
      rename_i k n
      cases x <;> try simp only [lmin, reduceCtorEq] at h
      rename_i k' m
      have hz := hl.2 0 (by simp)
      simp only [List.getElem_cons_zero, List.getD_cons_zero] at hz
      cases hz
      cases hx
      have hl' : VL w ι per l vs := by
        refine ⟨by simpa using hl.1, fun i hi => ?_⟩
        have := hl.2 (i + 1) (by simpa using hi)
        simpa using this
      obtain ⟨u, hu, hr⟩ := ih vs _ (.int k' (if n < m then n else m)) r hl' (.int _ _) h
      refine ⟨u, ?_, hr⟩
      intro w'
      simp only [List.foldlM_cons, Builtin.min2, pure_bind]
      exact hu w'

theorem lmax_sound : ∀ (l : List LV) (vs : List Value) (x : LV) (v : Value) (r : LV), VL w ι per l vs → VR w per ι x v → lmax l x = some r →
    ∃ u, (∀ w', (vs.foldlM Builtin.max2 v).run P w' = .ok u w') ∧ VR w per ι r u := by
  intro l
  induction l with
  | nil =>
    intro vs x v r hl hx h
    have : vs = [] := by have := hl.1; simpa using this.symm
    subst this
    obtain rfl := Option.some.inj h
    exact ⟨v, by simp, hx⟩
  | cons y l ih =>
    intro vs x v r hl hx h
    cases vs with
    | nil => have := hl.1; simp at this
    | cons z vs =>
      cases y <;> try simp only [lmax, reduceCtorEq] at h
      rename_i k n
      cases x <;> try simp only [lmax, reduceCtorEq] at h
      rename_i k' m
      have hz := hl.2 0 (by simp)
      simp only [List.getElem_cons_zero, List.getD_cons_zero] at hz
      cases hz
      cases hx
      have hl' : VL w ι per l vs := by
        refine ⟨by simpa using hl.1, fun i hi => ?_⟩
        have := hl.2 (i + 1) (by simpa using hi)
        simpa using this
      obtain ⟨u, hu, hr⟩ := ih vs _ (.int k' (if m < n then n else m)) r hl' (.int _ _) h
      refine ⟨u, ?_, hr⟩
      intro w'
      simp only [List.foldlM_cons, Builtin.max2, pure_bind]
      exact hu w'

/-- Persistent cells seen from a later cell on. -/
theorem VR.pp_drop {cs : List LV} {b o : Nat} (vs : Nat → Value) (hp : per b) (hc : ∀ i, i < cs.length → w.cell? ⟨b, o + i, none⟩ = some (vs i)) (hv : ∀ i (h : i < cs.length), VR w per [] cs[i] (vs i)) (n m : Nat) :
    VR w per ι (.pp ((cs.drop n).take m)) (.pointer (some ⟨b, o + n, none⟩)) := by
  refine .pp (fun i => vs (n + i)) hp (fun i hi => ?_) fun i hi => ?_
  · have : n + i < cs.length := by simp at hi; omega
    rw [← hc (n + i) this, Nat.add_assoc]
  · have : n + i < cs.length := by simp at hi; omega
    rw [List.getElem_take, List.getElem_drop]
    exact hv (n + i) this

theorem VR.pp_drop' {cs : List LV} {b o : Nat} (vs : Nat → Value) (hp : per b) (hc : ∀ i, i < cs.length → w.cell? ⟨b, o + i, none⟩ = some (vs i)) (hv : ∀ i (h : i < cs.length), VR w per [] cs[i] (vs i)) (n : Nat) :
    VR w per ι (.pp (cs.drop n)) (.pointer (some ⟨b, o + n, none⟩)) := by
  have := VR.pp_drop (ι := ι) vs hp hc hv n (cs.drop n).length
  rwa [List.take_length] at this

theorem evalL (hF : FR w ι per F a) (xs : List Operand) : VL w ι per (xs.map (evalO F)) (xs.map a.eval) :=
  ⟨by simp, fun i hi => by
    have hi' : i < xs.length := by simpa using hi
    simp [hi']
    exact hF.eval _⟩

theorem pure_sound (hF : FR w ι per F a) {o : Oper} {x : LV} (h : pureOp (ttOf P) F o.op = some x) : Yields P w ι per x (execOp a.eval o) := by
  obtain ⟨dst, op, ty, pos, after, guard⟩ := o
  cases op with
  | move y =>
    obtain rfl := Option.some.inj h
    exact ⟨a.eval y, by intro w'; simp [execOp], hF.eval y⟩
  | assign y =>
    obtain rfl := Option.some.inj h
    exact ⟨a.eval y, by intro w'; simp [execOp], hF.eval y⟩
  | pick c y z =>
    simp only [pureOp] at h
    split at h
    · rename_i t ht
      have hc := hF.eval c
      rw [ht] at hc
      generalize hcv : a.eval c = v at hc
      cases hc
      obtain rfl := Option.some.inj h
      refine ⟨if t then a.eval y else a.eval z, ?_, ?_⟩
      · intro w'; simp [execOp, hcv, asBool]
      · cases t
        · exact hF.eval z
        · exact hF.eval y
    · cases h
  | nilCheck y =>
    simp only [pureOp] at h
    have hc := hF.eval y
    generalize hcv : a.eval y = v at hc
    split at h
    · rename_i e
      rw [e] at hc
      obtain rfl := Option.some.inj h
      refine ⟨v, ?_, hc⟩
      cases hc
      intro w'; simp [execOp, hcv]
    · rename_i e
      rw [e] at hc
      obtain rfl := Option.some.inj h
      refine ⟨v, ?_, hc⟩
      cases hc
      intro w'; simp [execOp, hcv]
    · rename_i e
      rw [e] at hc
      obtain rfl := Option.some.inj h
      refine ⟨v, ?_, hc⟩
      obtain ⟨_, _, rfl⟩ := hc.fn_form
      intro w'; simp [execOp, hcv]
    · cases h
  | binOp op t y z yt =>
    obtain ⟨v, hv, hr⟩ := lbinT_sound (P := P) (t := t) (ox := y) (oy := z) (hF.eval y) (hF.eval z) h
    refine ⟨v, ?_, hr⟩
    intro w'
    have hv := hv w'
    simp only [execOp, Sem.run_bind] at hv ⊢
    rw [hv]; simp
  | unOp op t y =>
    obtain ⟨v, hv, hr⟩ := lun_sound (P := P) (hF.eval y) h
    exact ⟨v, by intro w'; simp [execOp, hv], hr⟩
  | convert s d y =>
    simp only [pureOp] at h
    have hc := hF.eval y
    generalize hcv : a.eval y = v at hc
    split at h
    · rename_i ts k _ _ _ k' n hs hd e
      rw [e] at hc
      obtain rfl := Option.some.inj h
      obtain ⟨_, sd, _, _, hs2, _⟩ := ti_spec hs
      cases hc
      refine ⟨_, ?_, .int _ _⟩
      intro w'; simp only [execOp, hcv, convert, Sem.run_bind, run_underlying hs2, run_underlying (int_spec hd), Result.andThen_ok, Conv.intToInt, Sem.run_pure]
    · rename_i ts _ _ _ b hs hd e
      rw [e] at hc
      obtain rfl := Option.some.inj h
      obtain ⟨_, sd, _, _, hs2, _⟩ := ti_spec hs
      cases hc
      refine ⟨_, ?_, .str _⟩
      intro w'; simp only [execOp, hcv, convert, Sem.run_bind, run_underlying hs2, run_underlying (str_spec hd), Result.andThen_ok, Sem.run_pure]
    · cases h
  | extract y i =>
    simp only [pureOp] at h
    have hc := hF.eval y
    generalize hcv : a.eval y = v at hc
    split at h
    · rename_i vs e
      rw [e] at hc
      obtain ⟨us, rfl, hl⟩ := hc.tup_inv
      obtain ⟨u, hu, hr⟩ := hl.get h
      exact ⟨u, by intro w'; simp [execOp, hcv, Instr.extract, hu], hr⟩
    · cases h
  | makeFunc f first captured =>
    cases f with
    | func f =>
      simp only [pureOp] at h
      split at h
      · rename_i h0
        split at h
        · rename_i hu
          obtain rfl := Option.some.inj h
          have h1 : first = #[] := Array.eq_empty_of_size_eq_zero h0
          subst h1
          have hl := evalL hF captured.toList
          refine ⟨.func (.func f) #[] (captured.toList.map a.eval).toArray, ?_, fnV_off hu ▸ .fn hl.1 hl.2⟩
          intro w'; simp [execOp, Instr.makeFunc]
          apply Array.ext'
          simp
        · cases h
      · split at h
        · rename_i h0
          obtain rfl := Option.some.inj h
          have h1 : captured = #[] := Array.eq_empty_of_size_eq_zero h0
          subst h1
          have hl := evalL hF first.toList
          have hv : VR w per ι (.fn f (.und :: first.toList.map (evalO F))) (fnV f (.und :: first.toList.map (evalO F)) (undef :: first.toList.map a.eval)) := .fn (by simp) fun i hi => by
            cases i with
            | zero => exact .und
            | succ i => exact hl.2 i (by simpa using hi)
          refine ⟨.func (.func f) (first.toList.map a.eval).toArray #[], ?_, hv⟩
          intro w'; simp [execOp, Instr.makeFunc]
          apply Array.ext'
          simp
        · cases h
    | _ => cases h
  | fieldAddr s y f =>
    simp only [pureOp] at h
    have hc := hF.eval y
    generalize hcv : a.eval y = v at hc
    split at h
    · rename_i fs _ _ _ hh oo hs e
      rw [e] at hc
      split at h
      · rename_i off size g hf
        split at h
        · cases h
        · rename_i hz
          obtain rfl := Option.some.inj h
          obtain ⟨fl, hu, hfl⟩ := struct_spec hs
          obtain ⟨fd, j, d, hfd, hj, hd, rfl, rfl, rfl⟩ := (fieldsOf_spec _ _ hfl).2 f _ _ _ hf
          obtain ⟨b, o, hi, rfl⟩ := hc.ptr_inv
          refine ⟨.pointer (some ⟨b, o + (oo + fd.offset), none⟩), ?_, .ptr hi⟩
          have hfd' : fl[f]? = some fd := by simpa using hfd
          intro w'; simp [execOp, hcv, Instr.fieldAt, run_underlying hu, hfd', Instr.sureAddr, fieldPlace, run_sizeOf hj, hz, add_plain, Nat.add_assoc]
      · cases h
    · rename_i fs _ _ _ cs hs e
      rw [e] at hc
      split at h
      · rename_i off size g hf
        split at h
        · cases h
        · rename_i hz
          obtain rfl := Option.some.inj h
          obtain ⟨fl, hu, hfl⟩ := struct_spec hs
          obtain ⟨fd, j, d, hfd, hj, hd, rfl, rfl, rfl⟩ := (fieldsOf_spec _ _ hfl).2 f _ _ _ hf
          obtain ⟨b, o, vs, hp, hcc, hvv, rfl⟩ := hc.pp_inv
          refine ⟨.pointer (some ⟨b, o + fd.offset, none⟩), ?_, VR.pp_drop' vs hp hcc hvv fd.offset⟩
          have hfd' : fl[f]? = some fd := by simpa using hfd
          intro w'; simp [execOp, hcv, Instr.fieldAt, run_underlying hu, hfd', Instr.sureAddr, fieldPlace, run_sizeOf hj, hz, add_plain]
      · cases h
    · cases h
  | field s y f =>
    simp only [pureOp] at h
    have hc := hF.eval y
    generalize hcv : a.eval y = v at hc
    split at h
    · rename_i fs _ _ _ cs hs e
      rw [e] at hc
      split at h
      · rename_i off size g hf
        obtain ⟨fl, hu, hfl⟩ := struct_spec hs
        obtain ⟨fd, j, d, hfd, hj, hd, rfl, rfl, rfl⟩ := (fieldsOf_spec _ _ hfl).2 f _ _ _ hf
        obtain ⟨vs, rfl, hl⟩ := hc.agg_inv
        obtain ⟨u, hu2, hr⟩ := lpart_sound hj hd hl h
        have hfd' : fl[f]? = some fd := by simpa using hfd
        refine ⟨u, ?_, hr⟩
        intro w'; simp [execOp, hcv, Instr.field, run_underlying hu, hfd', asAgg, hu2]
      · cases h
    · cases h
  | indexAddr t y i =>
    simp only [pureOp] at h
    have hc := hF.eval y
    have hn := hF.eval i
    generalize hcv : a.eval y = v at hc
    generalize hnv : a.eval i = vi at hn
    split at h
    · rename_i esz eb ez _ _ _ sz hh oo len k n ht e ei
      rw [e] at hc
      rw [ei] at hn
      split at h
      · rename_i hb
        obtain rfl := Option.some.inj h
        obtain ⟨et, j, ze, hu, hj, hsz, _⟩ := slice_spec ht
        cases hn
        rcases hc.sl_inv with ⟨b, o, cap, hi, hl, hr, rfl⟩ | ⟨h0, aa, rfl⟩
        · refine ⟨.pointer (some ⟨b, o + (oo + n.toNat * sz), none⟩), ?_, .ptr hi⟩
          intro w'; simp [execOp, hcv, hnv, Instr.indexAt, asIntOf, run_underlying hu, hb.2.1, hb.2.2, run_sizeOf hj, add_plain, hsz, hb.1, Nat.add_assoc]
        · omega
      · cases h
    · rename_i esz eb ez _ _ _ sz len cs k n ht e ei
      rw [e] at hc
      rw [ei] at hn
      split at h
      · rename_i hb
        obtain rfl := Option.some.inj h
        obtain ⟨et, j, ze, hu, hj, hsz, _⟩ := slice_spec ht
        cases hn
        rcases hc.ps_inv with ⟨b, o, cap, vs, hp, hnn, hl, hcc, hvv, rfl⟩ | ⟨h0, _, aa, cap, rfl⟩
        · refine ⟨.pointer (some ⟨b, o + n.toNat * sz, none⟩), ?_, VR.pp_drop vs hp hcc hvv _ _⟩
          intro w'; simp [execOp, hcv, hnv, Instr.indexAt, asIntOf, run_underlying hu, hb.2.1, hb.2.2, run_sizeOf hj, add_plain, hsz, hb.1]
        · omega
      · cases h
    · rename_i m esz eg _ _ _ hh oo k n ht e ei
      rw [e] at hc
      rw [ei] at hn
      split at h
      · rename_i hb
        obtain rfl := Option.some.inj h
        obtain ⟨et, j, d, hu, hj, hd, hsz, _⟩ := arr_spec ht
        cases hn
        obtain ⟨b, o, hi, rfl⟩ := hc.ptr_inv
        refine ⟨.pointer (some ⟨b, o + (oo + n.toNat * esz), none⟩), ?_, .ptr hi⟩
        intro w'; simp [execOp, hcv, hnv, Instr.indexAt, asIntOf, run_underlying hu, hb.1, hb.2, run_sizeOf hj, add_plain, hsz, Instr.sureAddr, Nat.add_assoc]
      · cases h
    · rename_i m esz eg _ _ _ cs k n ht e ei
      rw [e] at hc
      rw [ei] at hn
      split at h
      · rename_i hb
        obtain rfl := Option.some.inj h
        obtain ⟨et, j, d, hu, hj, hd, hsz, _⟩ := arr_spec ht
        cases hn
        obtain ⟨b, o, vs, hp, hcc, hvv, rfl⟩ := hc.pp_inv
        refine ⟨.pointer (some ⟨b, o + n.toNat * esz, none⟩), ?_, VR.pp_drop' vs hp hcc hvv _⟩
        intro w'; simp [execOp, hcv, hnv, Instr.indexAt, asIntOf, run_underlying hu, hb.1, hb.2, run_sizeOf hj, add_plain, hsz, Instr.sureAddr]
      · cases h
    · cases h
  | index t y i =>
    simp only [pureOp] at h
    have hc := hF.eval y
    have hn := hF.eval i
    generalize hcv : a.eval y = v at hc
    generalize hnv : a.eval i = vi at hn
    split at h
    · rename_i m esz eg _ _ _ cs k n ht e ei
      rw [e] at hc
      rw [ei] at hn
      split at h
      · rename_i hb
        obtain ⟨et, j, d, hu, hj, hd, hsz, heg, _⟩ := arr_spec ht
        subst hsz heg
        cases hn
        obtain ⟨vs, rfl, hl⟩ := hc.agg_inv
        obtain ⟨u, hu2, hr⟩ := lpart_sound hj hd hl h
        refine ⟨u, ?_, hr⟩
        intro w'; simp [execOp, hcv, hnv, Instr.index, asIntOf, run_underlying hu, hb.1, hb.2, run_sizeOf hj, hu2]
      · cases h
    · rename_i _ _ _ s k n ht e ei
      rw [e] at hc
      rw [ei] at hn
      split at h
      · rename_i hb
        split at h
        · rename_i bb hbb
          obtain rfl := Option.some.inj h
          cases hn
          cases hc
          refine ⟨.int .u8 bb.toNat, ?_, .int _ _⟩
          intro w'; simp [execOp, hcv, hnv, Instr.index, asIntOf, run_underlying (str_spec ht), hb, hbb]
        · cases h
      · cases h
    · cases h
  | build t parts =>
    simp only [pureOp] at h
    have hparts : ∀ (i : Nat) (p : Nat × LV), (parts.toList.map fun p => (p.1, evalO F p.2))[i]? = some p → ∃ v, (parts.toList.map fun p => (p.1, a.eval p.2))[i]? = some (p.1, v) ∧ VR w per ι p.2 v := by
      intro i p hp
      simp only [List.getElem?_map, Option.map_eq_some_iff] at hp ⊢
      obtain ⟨q, hq, rfl⟩ := hp
      exact ⟨a.eval q.2, ⟨q, hq, rfl⟩, hF.eval q.2⟩
    split at h
    · rename_i fs sz ag z ht
      obtain ⟨i, d, zv, hi, hd, hzv, hz, _, _, _, _⟩ := ti_spec ht
      obtain ⟨fl, hu, hfl⟩ := struct_spec ht
      have hspec := fieldsOf_spec _ _ hfl
      simp only [Option.map_eq_some_iff] at h
      obtain ⟨cs, hcs, rfl⟩ := h
      simp only at hz
      subst hz
      have hmap : ∀ (l : List Field) (lf : List (Nat × Nat × Bool)), fieldsOf P l = some lf → ∀ (acc : Array (Nat × Nat)) (w' : World),
          (l.foldlM (fun (bs : Array (Nat × Nat)) f => bs.push <$> (do pure (f.offset, ← sizeOf f.type) : Sem (Nat × Nat))) acc).run P w' = .ok (acc ++ (lf.map fun f => (f.1, f.2.1)).toArray) w' := by
        intro l
        induction l with
        | nil => intro lf hlf acc w'; obtain rfl := Option.some.inj hlf; simp
        | cons f r ih =>
          intro lf hlf acc w'
          simp only [fieldsOf] at hlf
          split at hlf
          · rename_i j dd l' hj hdd hl'
            obtain rfl := Option.some.inj hlf
            simp only [List.foldlM_cons, Sem.run_bind, Sem.run_map, run_sizeOf hj, Result.andThen_ok, Sem.run_pure]
            rw [ih l' hl']
            simp
          · cases hlf
      have hm : ∀ w', (fl.mapM fun f => (do pure (f.offset, ← sizeOf f.type) : Sem (Nat × Nat))).run P w' = .ok (fs.map fun f => (f.1, f.2.1)).toArray w' := by
        intro w'
        rw [Array.mapM_eq_foldlM, ← Array.foldlM_toList]
        have := hmap fl.toList fs hfl #[] w'
        simpa using this
      obtain ⟨out, ho, hl⟩ := lfill_sound (w := w) (ι := ι) (per := per) (fun i => (fs[i]?).map fun f => (f.1, f.2.1)) ((fs.map fun f => (f.1, f.2.1)).toArray[·]?) (by intro i; simp) _ _ (by simp) hparts _ zv.cells (VL.scalars _) cs hcs
      refine ⟨.agg out.toList.toArray, ?_, .agg hl.1 hl.2⟩
      have hpm : (parts.map fun (x : Nat × Operand) => (x.1, a.eval x.2)).toList = parts.toList.map fun p => (p.1, a.eval p.2) := by simp
      intro w'; simp only [execOp, Instr.build, Sem.run_bind, run_zeroValue hi hzv, Result.andThen_ok, run_underlying hu, hm]
      rw [hpm, ho]
      simp
    · rename_i n esz eg sz ag z ht
      obtain ⟨i, d, zv, hi, hd, hzv, hz, _, _, _, _⟩ := ti_spec ht
      obtain ⟨et, j, dd, hu, hj, hdd, hsz, _⟩ := arr_spec ht
      simp only [Option.map_eq_some_iff] at h
      obtain ⟨cs, hcs, rfl⟩ := h
      simp only at hz
      subst hz
      obtain ⟨out, ho, hl⟩ := lfill_sound (w := w) (ι := ι) (per := per) (fun i => some (i * esz, esz)) (fun i => some (i * esz, esz)) (by intro i; rfl) _ _ (by simp) hparts _ zv.cells (VL.scalars _) cs hcs
      refine ⟨.agg out.toList.toArray, ?_, .agg hl.1 hl.2⟩
      have hpm : (parts.map fun (x : Nat × Operand) => (x.1, a.eval x.2)).toList = parts.toList.map fun p => (p.1, a.eval p.2) := by simp
      intro w'; simp only [execOp, Instr.build, Sem.run_bind, run_zeroValue hi hzv, Result.andThen_ok, run_underlying hu, run_sizeOf hj, hsz]
      rw [hpm, ho]
      simp
    · cases h
  | slice t y lo hi mx =>
    cases mx with
    | some m => cases h
    | none =>
      simp only [pureOp] at h
      have hc := hF.eval y
      generalize hcv : a.eval y = v at hc
      have hlo := VO.map hF lo
      have hhi := VO.map hF hi
      split at h
      · rename_i _ _ _ s ht e
        rw [e] at hc
        split at h
        · rename_i l r hb
          obtain rfl := Option.some.inj h
          obtain ⟨hrun, _, _⟩ := bnds_sound (P := P) (w := w) (isSl := false) (Nat.le_refl s.size) hlo hhi hb
          cases hc
          refine ⟨.string (s.extract l r), ?_, .str _⟩
          intro w'; simp [execOp, hcv, Instr.sliceAt, Instr.slice, run_underlying (str_spec ht), hrun]
        · cases h
      · rename_i esz eb ez _ _ _ sz hh oo len ht e
        rw [e] at hc
        split at h
        · cases h
        · rename_i hse
          simp only [ne_eq, Decidable.not_not] at hse
          split at h
          · rename_i l r hb
            obtain rfl := Option.some.inj h
            obtain ⟨et, j, ze, hu, hj, hsz, _⟩ := slice_spec ht
            rcases hc.sl_inv with ⟨b, o, cap, hi', hl, hr, rfl⟩ | ⟨h0, aa, rfl⟩
            · obtain ⟨hrun, h1, h2⟩ := bnds_sound (P := P) (w := w) (isSl := true) hl hlo hhi hb
              by_cases hcl : cap = l
              · subst hcl
                have hrl : r - cap = 0 := by omega
                refine ⟨.slice (some ⟨b, o + oo, none⟩) 0 0, ?_, by rw [hrl]; exact .slz⟩
                intro w'; simp [execOp, hcv, Instr.sliceAt, Instr.slice, run_underlying hu, hrun, run_sizeOf hj, hrl]
              · refine ⟨.slice (some ⟨b, o + (oo + l * sz), none⟩) (r - l) (cap - l), ?_, .sl hi' (by omega) (hr.le ?_)⟩
                · intro w'; simp [execOp, hcv, Instr.sliceAt, Instr.slice, run_underlying hu, hrun, run_sizeOf hj, hcl, hsz, hse, add_plain, Nat.add_assoc]
                · have : l * sz + (cap - l) * sz = cap * sz := by rw [← Nat.add_mul]; congr 1; omega
                  omega
            · subst h0
              obtain ⟨hrun, h1, h2⟩ := bnds_sound (P := P) (w := w) (isSl := true) (Nat.le_refl 0) hlo hhi hb
              have hr0 : r - l = 0 := by omega
              have hl0 : l = 0 := by omega
              refine ⟨.slice aa 0 0, ?_, by rw [hr0]; exact .slz⟩
              intro w'; simp [execOp, hcv, Instr.sliceAt, Instr.slice, run_underlying hu, hrun, run_sizeOf hj, hl0]
              omega
          · cases h
      · rename_i esz eb ez _ _ _ sz len cs ht e
        rw [e] at hc
        split at h
        · cases h
        · rename_i hse
          simp only [ne_eq, Decidable.not_not] at hse
          split at h
          · rename_i l r hb
            obtain rfl := Option.some.inj h
            obtain ⟨et, j, ze, hu, hj, hsz, _⟩ := slice_spec ht
            replace hc := hc.ps_inv
            rcases hc with hc | hc
            · obtain ⟨b, o, cap, vs, hp, hnn, hl, hcc, hvv, rfl⟩ := hc
              obtain ⟨hrun, h1, h2⟩ := bnds_sound (P := P) (w := w) (isSl := true) hl hlo hhi hb
              by_cases hcl : cap = l
              · subst hcl
                have hrl : r - cap = 0 := by omega
                refine ⟨.slice (some ⟨b, o, none⟩) 0 0, ?_, by rw [hrl]; simp; exact .psz⟩
                intro w'; simp [execOp, hcv, Instr.sliceAt, Instr.slice, run_underlying hu, hrun, run_sizeOf hj, hrl]
              · have hlen : ((cs.drop (l * sz)).take ((r - l) * sz)).length = (r - l) * sz := by
                  have : l * sz + (r - l) * sz = r * sz := by rw [← Nat.add_mul]; congr 1; omega
                  have h3 : r * sz ≤ len * sz := Nat.mul_le_mul_right _ h2
                  simp; omega
                refine ⟨.slice (some ⟨b, o + l * sz, none⟩) (r - l) (cap - l), ?_, .ps (fun i => vs (l * sz + i)) hp hlen (by omega) (fun i hi => ?_) fun i hi => ?_⟩
                · intro w'; simp [execOp, hcv, Instr.sliceAt, Instr.slice, run_underlying hu, hrun, run_sizeOf hj, hcl, hsz, hse, add_plain]
                · have : l * sz + i < cs.length := by simp at hi; omega
                  rw [← hcc _ this, Nat.add_assoc]
                · have : l * sz + i < cs.length := by simp at hi; omega
                  rw [List.getElem_take, List.getElem_drop]
                  exact hvv _ this
            · obtain ⟨rfl, rfl, aa, cap, rfl⟩ := hc
              obtain ⟨hrun, h1, h2⟩ := bnds_sound (P := P) (w := w) (isSl := true) (Nat.zero_le cap) hlo hhi hb
              have hr0 : r - l = 0 := by omega
              refine ⟨_, ?_, by rw [hr0]; simp; exact .psz (a := if cap = l then aa else aa.map (·.add (l * j.size))) (cap := cap - l)⟩
              intro w'; simp [execOp, hcv, Instr.sliceAt, Instr.slice, run_underlying hu, hrun, run_sizeOf hj, hr0]
          · cases h
      · rename_i _ _ _ _ _ _ ht e
        rw [e] at hc
        split at h
        · rename_i lr hb
          obtain rfl := Option.some.inj h
          obtain ⟨et, j, ze, hu, hj, hsz, _⟩ := slice_spec ht
          cases hc
          obtain ⟨l, r⟩ := lr
          obtain ⟨hrun, h1, h2⟩ := bnds_sound (P := P) (w := w) (isSl := true) (Nat.le_refl 0) hlo hhi hb
          have hr0 : r = 0 := by omega
          have hl0 : l = 0 := by omega
          subst hr0 hl0
          refine ⟨.slice none 0 0, ?_, .nils⟩
          intro w'; simp [execOp, hcv, Instr.sliceAt, Instr.slice, run_underlying hu, hrun, run_sizeOf hj]
        · cases h
      · cases h
  | call c =>
    obtain ⟨callee, args, argTypes⟩ := c
    cases callee with
    | builtin b =>
      cases b with
      | len =>
        simp only [pureOp] at h
        split at h
        · rename_i _ _ _ sv e1 e2
          obtain ⟨t, ht, htt⟩ := Option.bind_eq_some_iff.1 e1
          obtain ⟨y, hy, e⟩ := Option.map_eq_some_iff.1 e2
          have hc := hF.eval y
          rw [e] at hc
          generalize hcv : a.eval y = v at hc
          cases hc
          obtain rfl := Option.some.inj h
          refine ⟨.int .i64 sv.size, ?_, .int _ _⟩
          intro w'; simp [execOp, resolve, invoke, builtin, Builtin.len_, ht, hy, hcv, run_underlying (str_spec htt), goInt]
        · rename_i _ _ _ _ _ _ _ _ _ n e1 e2
          obtain ⟨t, ht, htt⟩ := Option.bind_eq_some_iff.1 e1
          obtain ⟨y, hy, e⟩ := Option.map_eq_some_iff.1 e2
          have hc := hF.eval y
          rw [e] at hc
          generalize hcv : a.eval y = v at hc
          obtain rfl := Option.some.inj h
          obtain ⟨et, j, ze, hu, hj, hsz, _⟩ := slice_spec htt
          refine ⟨.int .i64 n, ?_, .int _ _⟩
          rcases hc.sl_inv with ⟨b, o, cap, hi, hl, hr, rfl⟩ | ⟨rfl, aa, rfl⟩ <;>
          (intro w'; simp [execOp, resolve, invoke, builtin, Builtin.len_, ht, hy, hcv, run_underlying hu, goInt])
        · rename_i _ _ _ _ _ _ _ n _ e1 e2
          obtain ⟨t, ht, htt⟩ := Option.bind_eq_some_iff.1 e1
          obtain ⟨y, hy, e⟩ := Option.map_eq_some_iff.1 e2
          have hc := hF.eval y
          rw [e] at hc
          generalize hcv : a.eval y = v at hc
          obtain rfl := Option.some.inj h
          obtain ⟨et, j, ze, hu, hj, hsz, _⟩ := slice_spec htt
          refine ⟨.int .i64 n, ?_, .int _ _⟩
          rcases hc.ps_inv with ⟨b, o, cap, vs, hp, hnn, hl, hcc, hvv, rfl⟩ | ⟨rfl, _, aa, cap, rfl⟩ <;>
          (intro w'; simp [execOp, resolve, invoke, builtin, Builtin.len_, ht, hy, hcv, run_underlying hu, goInt])
        · rename_i e1 e2
          obtain ⟨t, ht, htt⟩ := Option.bind_eq_some_iff.1 e1
          obtain ⟨y, hy, e⟩ := Option.map_eq_some_iff.1 e2
          have hc := hF.eval y
          rw [e] at hc
          generalize hcv : a.eval y = v at hc
          obtain rfl := Option.some.inj h
          obtain ⟨et, j, ze, hu, hj, hsz, _⟩ := slice_spec htt
          refine ⟨.int .i64 0, ?_, .int _ _⟩
          cases hc
          intro w'; simp [execOp, resolve, invoke, builtin, Builtin.len_, ht, hy, hcv, run_underlying hu, goInt]
        · rename_i n _ _ _ _ _ _ e1 e2
          obtain ⟨t, ht, htt⟩ := Option.bind_eq_some_iff.1 e1
          obtain ⟨y, hy, e⟩ := Option.map_eq_some_iff.1 e2
          obtain rfl := Option.some.inj h
          obtain ⟨et, j, d, hu, _⟩ := arr_spec htt
          refine ⟨.int .i64 n, ?_, .int _ _⟩
          intro w'; simp [execOp, resolve, invoke, builtin, Builtin.len_, ht, hy, run_underlying hu, goInt]
        · cases h
      | min =>
        simp only [pureOp] at h
        have hl := evalL hF args.toList
        split at h
        · rename_i x r e
          rw [e] at hl
          cases hv : args.toList.map a.eval with
          | nil => rw [hv] at hl; have := hl.1; simp at this
          | cons v vs =>
            rw [hv] at hl
            have hx := hl.2 0 (by simp)
            have hr : VL w ι per r vs := ⟨by simpa using hl.1, fun i hi => by have := hl.2 (i + 1) (by simpa using hi); simpa using this⟩
            obtain ⟨u, hu, hres⟩ := lmin_sound (P := P) r vs x v _ hr (by simpa using hx) h
            refine ⟨u, ?_, hres⟩
            have he : (args.map a.eval).toList = v :: vs := by simpa using hv
            intro w'; simp only [execOp, resolve, invoke, builtin, Builtin.min_, Sem.run_bind, Sem.run_pure, Result.andThen_ok, he, hu w']
        · cases h
      | max =>
        simp only [pureOp] at h
        have hl := evalL hF args.toList
        split at h
        · rename_i x r e
          rw [e] at hl
          cases hv : args.toList.map a.eval with
          | nil => rw [hv] at hl; have := hl.1; simp at this
          | cons v vs =>
            rw [hv] at hl
            have hx := hl.2 0 (by simp)
            have hr : VL w ι per r vs := ⟨by simpa using hl.1, fun i hi => by have := hl.2 (i + 1) (by simpa using hi); simpa using this⟩
            obtain ⟨u, hu, hres⟩ := lmax_sound (P := P) r vs x v _ hr (by simpa using hx) h
            refine ⟨u, ?_, hres⟩
            have he : (args.map a.eval).toList = v :: vs := by simpa using hv
            intro w'; simp only [execOp, resolve, invoke, builtin, Builtin.max_, Sem.run_bind, Sem.run_pure, Result.andThen_ok, he, hu w']
        · cases h
      | _ => cases h
    | _ => cases h
  | _ => cases h

end
end Go.Lite
