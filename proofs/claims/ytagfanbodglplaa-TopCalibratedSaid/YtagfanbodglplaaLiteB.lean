/- Lite, parts A B. -/
import Derived.Calls
import Derived.Tactics
import Derived.Tactics2
import Derived.Below
import Derived.Deep.Quiet
import Derived.Laws.World
import Derived.RangeFuncRecord
import Derived.TacticsIn
import Derived.Laws.Sem
import Derived.Laws.StructEq
import Derived.WalkKit
set_option linter.unusedVariables false
set_option linter.unusedSimpArgs false

/- Lite, part A: plain values, the relation to the model's values, the state, and the rules of control. -/
namespace Go.Lite
open Go Go.RowKit
set_option linter.unusedVariables false

/-- A value as a reader sees it: what a slice holds stands in it (ps), or lies in a numbered row of the call's own (sl, ptr). -/
inductive LV where
  | dead
  | und
  | bool (b : Bool)
  | int (k : IntKind) (n : Int)
  | str (s : ByteArray)
  | nilp
  | ptr (h off : Nat)
  | pp (cs : List LV)
  | nils
  | sl (sz h off len : Nat)
  | ps (sz len : Nat) (cs : List LV)
  | nilf
  | fn (f : Nat) (cap : List LV)
  | yld (l : Nat)
  | agg (cs : List LV)
  | tup (cs : List LV)

instance : Inhabited LV := ⟨.dead⟩

abbrev Hp := List (Option (List LV))
abbrev Fr := List (Nat × LV)
abbrev Pl := List (Option (Nat × Nat))

def fget : Fr → Nat → LV
  | [], _ => .dead
  | (s, v) :: r, t => cond (Nat.beq s t) v (fget r t)

/-- The newest comes first. -/
def fset (F : Fr) (t : Nat) (v : LV) : Fr := (t, v) :: F

theorem fget_cons (s : Nat) (v : LV) (r : Fr) (t : Nat) : fget ((s, v) :: r) t = if s = t then v else fget r t := by
  simp only [fget]
  by_cases h : s = t
  · subst h; simp
  · have : Nat.beq s t = false := by
      rw [← Bool.not_eq_true]; intro h2; exact h (Nat.eq_of_beq_eq_true h2)
    rw [this, if_neg h]; rfl

theorem fget_fset (F : Fr) (t u : Nat) (v : LV) : fget (fset F t v) u = if t = u then v else fget F u := fget_cons t v F u

/-- There is room in block b up to cell n. -/
def Room (w : World) (b n : Nat) : Prop := ∃ c e fz, w.heap[b]? = some (.cells c e fz) ∧ n ≤ c.size

/-- A captured list that begins with nothing marks a function value whose first arguments are given (a method of a value). -/
def isUnd : List LV → Bool
  | .und :: _ => true
  | _ => false
/-- The value of a function with what it has captured. -/
def fnV (f : Nat) (cap : List LV) (vs : List Value) : Value := match isUnd cap with
  | true => .func (.func f) (vs.drop 1).toArray #[]
  | false => .func (.func f) #[] vs.toArray
theorem fnV_congr {f : Nat} {cap cap' : List LV} {vs : List Value} (h : isUnd cap' = isUnd cap) : fnV f cap' vs = fnV f cap vs := by unfold fnV; rw [h]
theorem fnV_cells {f : Nat} {cap : List LV} {vs : List Value} : (fnV f cap vs).cells.toList = [fnV f cap vs] := by unfold fnV; cases isUnd cap <;> rfl
theorem fnV_one {f : Nat} {cap : List LV} {vs : List Value} : (fnV f cap vs).oneCell' = true := by unfold fnV; cases isUnd cap <;> rfl
theorem fnV_off {f : Nat} {cap : List LV} {vs : List Value} (h : isUnd cap = false) : fnV f cap vs = .func (.func f) #[] vs.toArray := by unfold fnV; rw [h]
theorem fnV_on {f : Nat} {cap : List LV} {vs : List Value} (h : isUnd cap = true) : fnV f cap vs = .func (.func f) (vs.drop 1).toArray #[] := by unfold fnV; rw [h]

inductive VR (w : World) (per : Nat → Prop) : Pl → LV → Value → Prop where
  | dead {ι : Pl} (v : Value) : VR w per ι .dead v
  | und {ι : Pl} : VR w per ι .und undef
  | bool {ι : Pl} (b : Bool) : VR w per ι (.bool b) (.bool b)
  | int {ι : Pl} (k : IntKind) (n : Int) : VR w per ι (.int k n) (.int k n)
  | str {ι : Pl} (s : ByteArray) : VR w per ι (.str s) (.string s)
  | nilp {ι : Pl} : VR w per ι .nilp (.pointer none)
  | ptr {ι : Pl} {h off b o : Nat} (hi : ι[h]? = some (some (b, o))) : VR w per ι (.ptr h off) (.pointer (some ⟨b, o + off, none⟩))
  | pp {ι : Pl} {cs : List LV} {b o : Nat} (vs : Nat → Value) (hp : per b)
      (hc : ∀ i, i < cs.length → w.cell? ⟨b, o + i, none⟩ = some (vs i)) (hv : ∀ i (h : i < cs.length), VR w per [] cs[i] (vs i)) :
      VR w per ι (.pp cs) (.pointer (some ⟨b, o, none⟩))
  | nils {ι : Pl} : VR w per ι .nils (.slice none 0 0)
  | sl {ι : Pl} {sz h off len b o cap : Nat} (hi : ι[h]? = some (some (b, o))) (hl : len ≤ cap) (hr : Room w b (o + off + cap * sz)) :
      VR w per ι (.sl sz h off len) (.slice (some ⟨b, o + off, none⟩) len cap)
  | slz {ι : Pl} {sz h off : Nat} {a : Option Addr} : VR w per ι (.sl sz h off 0) (.slice a 0 0)
  | psz {ι : Pl} {sz cap : Nat} {a : Option Addr} : VR w per ι (.ps sz 0 []) (.slice a 0 cap)
  | ps {ι : Pl} {sz len : Nat} {cs : List LV} {b o cap : Nat} (vs : Nat → Value) (hp : per b) (hn : cs.length = len * sz) (hl : len ≤ cap)
      (hc : ∀ i, i < cs.length → w.cell? ⟨b, o + i, none⟩ = some (vs i)) (hv : ∀ i (h : i < cs.length), VR w per [] cs[i] (vs i)) :
      VR w per ι (.ps sz len cs) (.slice (some ⟨b, o, none⟩) len cap)
  | nilf {ι : Pl} : VR w per ι .nilf .nilFunc
  | fn {ι : Pl} {f : Nat} {cap : List LV} {vs : List Value} (hn : cap.length = vs.length) (hv : ∀ i (h : i < cap.length), VR w per ι cap[i] (vs.getD i undef)) :
      VR w per ι (.fn f cap) (fnV f cap vs)
  | yld {ι : Pl} (l : Nat) : VR w per ι (.yld l) (.func (.yield l) #[] #[])
  | agg {ι : Pl} {cs : List LV} {vs : List Value} (hn : cs.length = vs.length) (hv : ∀ i (h : i < cs.length), VR w per ι cs[i] (vs.getD i undef)) :
      VR w per ι (.agg cs) (.agg vs.toArray)
  | tup {ι : Pl} {cs : List LV} {vs : List Value} (hn : cs.length = vs.length) (hv : ∀ i (h : i < cs.length), VR w per ι cs[i] (vs.getD i undef)) :
      VR w per ι (.tup cs) (.tuple vs.toArray)

/-- From w to w' only blocks outside per have turned, and no block has changed its size. -/
structure Step (per : Nat → Prop) (w w' : World) : Prop where
  same : ∀ b, per b → w'.heap[b]? = w.heap[b]?
  room : ∀ b n, Room w b n → Room w' b n

theorem Step.refl (per : Nat → Prop) (w : World) : Step per w w := ⟨fun _ _ => rfl, fun _ _ h => h⟩
theorem Step.trans {per : Nat → Prop} {a b c : World} (h : Step per a b) (k : Step per b c) : Step per a c :=
  ⟨fun x hx => (k.same x hx).trans (h.same x hx), fun x n r => k.room x n (h.room x n r)⟩

theorem isUnd_map {g : LV → LV} (h : ∀ x, g x = .und ↔ x = .und) : ∀ l : List LV, isUnd (l.map g) = isUnd l
  | [] => rfl
  | x :: l => by
    have no : ∀ (y : LV) (r : List LV), y ≠ .und → isUnd (y :: r) = false := by intro y r hy; cases y <;> first | rfl | exact absurd rfl hy
    by_cases e : x = .und
    · rw [List.map_cons, (h x).2 e, e]; rfl
    · rw [List.map_cons, no _ _ (fun q => e ((h x).1 q)), no _ _ e]
theorem VR.fnC {w : World} {per : Nat → Prop} {ι : Pl} {f : Nat} {cap cap' : List LV} {vs : List Value} (hn : cap'.length = vs.length) (hv : ∀ i (h : i < cap'.length), VR w per ι cap'[i] (vs.getD i undef)) (hu : isUnd cap' = isUnd cap) : VR w per ι (.fn f cap') (fnV f cap vs) := by
  rw [← fnV_congr hu]; exact .fn hn hv
theorem VR.fn_form {w : World} {per : Nat → Prop} {ι : Pl} {f : Nat} {cap : List LV} {v : Value} (h : VR w per ι (.fn f cap) v) : ∃ a b, v = .func (.func f) a b := by
  cases h with
  | @fn _ _ _ vs hn hv =>
    unfold fnV
    cases isUnd cap
    · exact ⟨_, _, rfl⟩
    · exact ⟨_, _, rfl⟩

theorem VR.step {w w' : World} {per per' : Nat → Prop} (hs : Step per w w') (hp : ∀ b, per b → per' b) {ι : Pl} {x : LV} {v : Value} (h : VR w per ι x v) :
    ∀ {ι' : Pl}, (∀ (h : Nat) (b : Nat × Nat), ι[h]? = some (some b) → ι'[h]? = some (some b)) → VR w' per' ι' x v := by
  induction h with
  | dead v => intro ι' _; exact .dead v
  | und => intro ι' _; exact .und
  | bool b => intro ι' _; exact .bool b
  | int k n => intro ι' _; exact .int k n
  | str s => intro ι' _; exact .str s
  | nilp => intro ι' _; exact .nilp
  | ptr h => intro ι' hi; exact .ptr (hi _ _ h)
  | @pp _ cs b o vs hpb hc hv ih =>
    intro ι' _
    refine .pp vs (hp _ hpb) (fun i h => ?_) fun i h => ih i h (fun _ _ h => h)
    rw [← hc i h]; exact World.cell?_of_block (hs.same b hpb)
  | nils => intro ι' _; exact .nils
  | sl h1 h2 h3 => intro ι' hi; exact .sl (hi _ _ h1) h2 (hs.room _ _ h3)
  | slz => intro ι' _; exact .slz
  | psz => intro ι' _; exact .psz
  | @ps _ sz len cs b o cap vs hpb hn hl hc hv ih =>
    intro ι' _
    refine .ps vs (hp _ hpb) hn hl (fun i h => ?_) fun i h => ih i h (fun _ _ h => h)
    rw [← hc i h]; exact World.cell?_of_block (hs.same b hpb)
  | nilf => intro ι' _; exact .nilf
  | fn hn hv ih => intro ι' hi; exact .fn hn fun i h => ih i h hi
  | yld l => intro ι' _; exact .yld l
  | agg hn hv ih => intro ι' hi; exact .agg hn fun i h => ih i h hi
  | tup hn hv ih => intro ι' hi; exact .tup hn fun i h => ih i h hi

def isCells : Obj → Bool
  | .cells .. => true
  | _ => false

/-- From w to w' the blocks of kp are as they were, no block has changed its size, no stream has turned; whatever is no cells lies as it lay. -/
structure Kept (kp : Nat → Prop) (w w' : World) : Prop where
  os : w'.os = w.os
  tape : w'.tape = w.tape
  output : w'.output = w.output
  size : w.heap.size ≤ w'.heap.size
  step : Step kp w w'
  oth : ∀ (b : Nat) (o : Obj), w.heap[b]? = some o → isCells o = false → w'.heap[b]? = some o
  drawn : w.drawn ≤ w'.drawn

theorem Kept.refl (kp : Nat → Prop) (w : World) : Kept kp w w := ⟨rfl, rfl, rfl, Nat.le_refl _, .refl _ _, fun _ _ h _ => h, Nat.le_refl _⟩
theorem Kept.trans {kp : Nat → Prop} {a b c : World} (h : Kept kp a b) (k : Kept kp b c) : Kept kp a c :=
  ⟨k.os.trans h.os, k.tape.trans h.tape, k.output.trans h.output, Nat.le_trans h.size k.size, h.step.trans k.step, fun b o hb ho => k.oth b o (h.oth b o hb ho) ho, Nat.le_trans h.drawn k.drawn⟩
theorem Kept.mono {kp kp' : Nat → Prop} {a b : World} (h : Kept kp a b) (hk : ∀ b, kp' b → kp b) : Kept kp' a b :=
  ⟨h.os, h.tape, h.output, h.size, ⟨fun b hb => h.step.same b (hk b hb), h.step.room⟩, h.oth, h.drawn⟩

/-- The cells of a block, none of which is frozen. -/
def Live (w : World) (b : Nat) (c : Array Value) (e : TypeId × Nat × Nat) : Prop := w.heap[b]? = some (.cells c e.1 e.2) ∧ ∀ i, i < c.size → ¬ (e.2.1 ≤ i ∧ i < e.2.2)
theorem Live.of {w : World} {b : Nat} {c : Array Value} {e : TypeId} (h : w.heap[b]? = some (.cells c e (0, 0))) : Live w b c (e, 0, 0) := ⟨h, fun i _ hh => by simp at hh⟩
theorem Live.get {w w' : World} {b : Nat} {c : Array Value} {e : TypeId × Nat × Nat} (h : Live w b c e) (k : w'.heap[b]? = w.heap[b]?) : Live w' b c e := ⟨k.trans h.1, h.2⟩

/-- The rows of the call's own, and where they lie: outside kp and per. -/
structure Rep (kp : Nat → Prop) (w : World) (ι : Pl) (per : Nat → Prop) (H : Hp) : Prop where
  len : ι.length = H.length
  perlt : ∀ b, per b → b < w.heap.size
  live : ∀ (h : Nat) (cs : List LV), H[h]? = some (some cs) → (ι[h]? = some none ∧ cs = []) ∨
    ∃ b o c e, ι[h]? = some (some (b, o)) ∧ ¬ kp b ∧ ¬ per b ∧ Live w b c e ∧ o + cs.length ≤ c.size ∧
      ∀ i (hi : i < cs.length), VR w per ι cs[i] (c.getD (o + i) undef)
  inj : ∀ (h h' : Nat) (cs cs' : List LV) (b o b' o' : Nat), H[h]? = some (some cs) → H[h']? = some (some cs') → ι[h]? = some (some (b, o)) → ι[h']? = some (some (b', o')) → b = b' → h = h'

theorem Rep.nil (kp : Nat → Prop) (w : World) (per : Nat → Prop) (hp : ∀ b, per b → b < w.heap.size) : Rep kp w [] per [] :=
  ⟨rfl, hp, fun h cs hh => by simp at hh, fun h h' cs cs' b o b' o' hh => by simp at hh⟩

/-- A loop over a function, whose rounds another party asks for: its record's number, the function whose loop it is, the frame's size, the loop's variables, the codes, the block for what its rounds defer, the slots as they stood when it began. -/
structure YY where
  l : Nat
  fn : Nat
  n : Nat
  ps : List Nat
  assign : Code
  body : Code
  D : Nat
  F : Fr

/-- A frame's slots; the rows that came in with the call; is it a round's frame; the loop whose rounds it may ask for. -/
structure Dim where
  n : Nat
  m : Nat
  rd : Bool
  y : Option YY

/-- What a call found: the blocks that it must keep, those that it may read, the world, the rows that came in; the loop whose round it is. -/
structure Ctx where
  kp : Nat → Prop
  per0 : Nat → Prop
  w0 : World
  ι0 : Pl
  rd : Option Nat

def YY.lp (y : YY) (T : Array Value) : Loop := { state := .ready, pending := none, fn := y.fn, tmps := T, params := y.ps.toArray, assign := y.assign, body := y.body, defers := y.D }

/-- The record of the loop lies in w, ready; its slots are those of F. -/
def YRec (kp per : Nat → Prop) (ι : Pl) (w : World) (y : YY) : Prop :=
  (∀ b, per b → kp b) ∧ ∃ T : Array Value, w.heap[y.l]? = some (.loop (y.lp T)) ∧ T.size = y.n ∧ ∀ t, VR w per ι (fget y.F t) (T.getD t undef)

/-- The marks of loops that have ended, none in a round; what is known of the loops around. -/
def DF (cx : Ctx) (rd : Bool) (y : Option YY) (ds : List Deferred) (w : World) : Prop :=
  (∃ Ds : List Nat, ds = Ds.map (fun D => { target := .collected D, args := #[] }) ∧ Ds.Nodup ∧ ∀ D ∈ Ds, cx.w0.heap.size ≤ D ∧ ¬ cx.kp D ∧ w.heap[D]? = some (.deferred (some []))) ∧
  (rd = true → ds = []) ∧ (rd = false → cx.rd = none) ∧ ∀ z, y = some z → YRec cx.kp cx.per0 cx.ι0 cx.w0 z

theorem DF.keep {cx : Ctx} {rd : Bool} {y : Option YY} {ds : List Deferred} {w w' : World} (h : DF cx rd y ds w) (hk : Kept cx.kp w w') : DF cx rd y ds w' := by
  obtain ⟨⟨Ds, h1, h2, h3⟩, h4⟩ := h
  exact ⟨⟨Ds, h1, h2, fun D hD => ⟨(h3 D hD).1, (h3 D hD).2.1, hk.oth _ _ (h3 D hD).2.2 rfl⟩⟩, h4⟩

theorem DF.none' {cx : Ctx} {rd : Bool} {w : World} (h : rd = false → cx.rd = none) : DF cx rd none [] w :=
  ⟨⟨[], rfl, List.nodup_nil, fun D hD => by simp at hD⟩, fun _ => rfl, h, fun z hz => by cases hz⟩

/-- The fence of the walk: it keeps nothing out. -/
def fen (cx : Ctx) : Fence := { Fence.wide with round := cx.rd }

/-- The state: frame and rows F, H stand for the slots and the world. -/
def SR (cx : Ctx) (N : Dim) (F : Fr) (H : Hp) (a : Act) (w : World) : Prop :=
  ∃ ι per, Rep cx.kp w ι per H ∧ (∀ b, per b → cx.per0 b ∨ ¬ cx.kp b) ∧ (∀ b, cx.per0 b → per b) ∧ (∀ t, VR w per ι (fget F t) (a.tmps.getD t undef)) ∧
    a.tmps.size = N.n ∧ DF cx N.rd N.y a.defers w ∧ Kept cx.kp cx.w0 w ∧ (∀ b, cx.kp b → b < w.heap.size) ∧ (cx.ι0.length = N.m ∧ ∀ h, h < N.m → ι[h]? = cx.ι0[h]?)

abbrev LPost := Exit → Fr → Hp → Prop

def LQ (Q : LPost) (cx : Ctx) (N : Dim) (e : Exit) (a : Act) (w : World) : Prop :=
  ∃ F H, Q e F H ∧ SR cx N F H a w

def Lwp (P : Program) (N : Dim) (c : Code) (Q : LPost) (F : Fr) (H : Hp) : Prop :=
  ∀ cx a w, SR cx N F H a w → c.wpIn (fen cx) 0 P (LQ Q cx N) a w

theorem Lwp.mono {P : Program} {N : Dim} {c : Code} {Q Q' : LPost} {F : Fr} {H : Hp} (h : Lwp P N c Q F H) (hq : ∀ e F H, Q e F H → Q' e F H) : Lwp P N c Q' F H :=
  fun cx a w hs => wpIn_mono (h cx a w hs) fun e a' w' ⟨F', H', q, s⟩ => ⟨F', H', hq _ _ _ q, s⟩

section rules
variable {P : Program} {N : Dim} {Q : LPost} {F : Fr} {H : Hp}

theorem lwp_skip (h : Q .normal F H) : Lwp P N .skip Q F H := fun _ _ _ hs => wpIn_skip ⟨F, H, h, hs⟩
theorem lwp_label {l : Nat} (h : Q .normal F H) : Lwp P N (.label l) Q F H := fun _ _ _ hs => wpIn_label ⟨F, H, h, hs⟩
theorem lwp_exit {id : Nat} (h : Q (.exit id) F H) : Lwp P N (.exit id) Q F H := fun _ _ _ hs => wpIn_exit ⟨F, H, h, hs⟩
theorem lwp_ret (h : Q .ret F H) : Lwp P N .ret Q F H := fun _ _ _ hs => wpIn_ret ⟨F, H, h, hs⟩

/-- On to the next piece. -/
def seqQ (K : Fr → Hp → Prop) (Q : LPost) : LPost
  | .normal, F, H => K F H
  | e, F, H => Q e F H

theorem lwp_seq {x y : Code} (h : Lwp P N x (seqQ (Lwp P N y Q) Q) F H) : Lwp P N (.seq x y) Q F H := by
  intro cx a w hs
  refine wpIn_seq (wpIn_mono (h cx a w hs) fun e a' w' ⟨F', H', q, s⟩ => ?_)
  cases e <;> first | exact q cx a' w' s | exact ⟨F', H', q, s⟩

def blockQ (id : Nat) (Q : LPost) : LPost
  | .exit id', F, H => if id' = id then Q .normal F H else Q (.exit id') F H
  | e, F, H => Q e F H

theorem lwp_block {id : Nat} {c : Code} (h : Lwp P N c (blockQ id Q) F H) : Lwp P N (.block id c) Q F H := by
  intro cx a w hs
  refine wpIn_block (wpIn_mono (h cx a w hs) fun e a' w' ⟨F', H', q, s⟩ => ?_)
  cases e with
  | exit id' =>
    simp only [blockQ] at q
    simp only [Exit.inBlock]
    split
    · rename_i h; rw [if_pos h] at q; exact ⟨F', H', q, s⟩
    · rename_i h; rw [if_neg h] at q; exact ⟨F', H', q, s⟩
  | _ => exact ⟨F', H', q, s⟩

theorem exists_min (p : Nat → Prop) (h : ∃ n, p n) : ∃ n, p n ∧ ∀ m, p m → n ≤ m := by
  obtain ⟨n, hn⟩ := h
  induction n using Nat.strongRecOn with
  | _ n ih =>
    by_cases hx : ∃ m, m < n ∧ p m
    · obtain ⟨m, hm, hp⟩ := hx
      exact ih m hm hp
    · refine ⟨n, hn, fun m hm => ?_⟩
      rcases Nat.lt_or_ge m n with h' | h'
      · exact absurd ⟨m, h', hm⟩ hx
      · exact h'

theorem wp_loop_rel {Fe : Fence} {k : Nat} {c : Code} {Q : Exit → Act → World → Prop} (R : Nat → Act → World → Prop)
    (round : ∀ n a w, R n a w → c.wpIn Fe k P (Exit.then (fun a' w' => ∃ m, m < n ∧ R m a' w') Q) a w) {n : Nat} {a : Act} {w : World} (h0 : R n a w) : (Code.loop c).wpIn Fe k P Q a w := by
  classical
  let μ : Act → World → Nat := fun a w => if h : ∃ n, R n a w then (exists_min _ h).choose else 0
  have hμ : ∀ a w, (∃ n, R n a w) → R (μ a w) a w := by
    intro a w h
    simp only [μ, dif_pos h]
    exact (exists_min _ h).choose_spec.1
  have hle : ∀ a w n, R n a w → μ a w ≤ n := by
    intro a w n h
    have h' : ∃ n, R n a w := ⟨n, h⟩
    simp only [μ, dif_pos h']
    exact (exists_min _ h').choose_spec.2 n h
  refine wpIn_loop (I := fun a w => ∃ n, R n a w) μ ⟨n, h0⟩ fun a w hI => ?_
  refine wpIn_mono (round _ a w (hμ a w hI)) fun e a' w' h => ?_
  cases e with
  | normal =>
    obtain ⟨m, hm, hR⟩ := h
    exact ⟨⟨m, hR⟩, Nat.lt_of_le_of_lt (hle a' w' m hR) hm⟩
  | _ => exact h

/-- A loop: at the head of each round the state is one of a family; each round that goes on lowers the number. -/
theorem lwp_loop {c : Code} (R : Nat → Fr → Hp → Prop) {n : Nat} (h0 : R n F H)
    (round : ∀ n F H, R n F H → Lwp P N c (seqQ (fun F' H' => ∃ m, m < n ∧ R m F' H') Q) F H) : Lwp P N (.loop c) Q F H := by
  intro cx a w hs
  refine wp_loop_rel (fun n a w => ∃ F H, R n F H ∧ SR cx N F H a w) (fun n a w ⟨F, H, hR, hs⟩ => ?_) ⟨F, H, h0, hs⟩
  refine wpIn_mono (round n F H hR cx a w hs) fun e a' w' ⟨F', H', q, s⟩ => ?_
  cases e with
  | normal =>
    obtain ⟨m, hm, hR'⟩ := q
    exact ⟨m, hm, F', H', hR', s⟩
  | _ => exact ⟨F', H', q, s⟩

/-- Slots may be forgotten. -/
theorem SR.weaken {cx : Ctx} {N : Dim} {F F' : Fr} {H : Hp} {a : Act} {w : World} (hF : ∀ t, fget F' t = fget F t ∨ fget F' t = .dead)
    (h : SR cx N F H a w) : SR cx N F' H a w := by
  obtain ⟨ι, per, h1, h2, h3, h4, h5⟩ := h
  refine ⟨ι, per, h1, h2, h3, fun t => ?_, h5⟩
  rcases hF t with e | e
  · rw [e]; exact h4 t
  · rw [e]; exact .dead _

end rules
end Go.Lite

/- Lite, part B: types as a reader sees them; the operations that only compute. -/
namespace Go.Lite
open Go Go.RowKit
set_option linter.unusedVariables false

def scalarLV : Value → LV
  | .bool b => .bool b
  | .int k n => .int k n
  | .string s => .str s
  | .pointer none => .nilp
  | .slice none 0 0 => .nils
  | .nilFunc => .nilf
  | _ => .dead

theorem VR.scalar {w : World} {ι : Pl} {per : Nat → Prop} (v : Value) : VR w per ι (scalarLV v) v := by
  unfold scalarLV
  split <;> constructor

def constLV : Value → LV
  | .agg cs => .agg (cs.toList.map scalarLV)
  | v => scalarLV v

theorem VR.const {w : World} {ι : Pl} {per : Nat → Prop} (v : Value) : VR w per ι (constLV v) v := by
  unfold constLV
  split
  · rename_i cs
    have h : VR w per ι (.agg (cs.toList.map scalarLV)) (.agg cs.toList.toArray) := by
      refine .agg (by simp) fun i hi => ?_
      have hi' : i < cs.size := by simpa using hi
      simp [hi']
      exact .scalar _
    simpa using h
  · exact .scalar v

inductive TD where
  | int (k : IntKind) | bool | str
  | slice (esz ebytes : Nat) (ez : List LV)
  | arr (n esz : Nat) (eagg : Bool)
  | struct (fs : List (Nat × Nat × Bool))
  | other

/-- What the operations ask of a type. -/
structure TI where
  d : TD
  size : Nat
  agg : Bool
  zero : List LV

def aggOf (P : Program) (t : TypeId) : Bool :=
  match P.underlying t with
  | some (.struct _) | some (.array _ _) => true
  | _ => false

def zeroOf (i : TypeInfo) : Option (List LV) :=
  match i.zero with
  | some z => some (z.cells.toList.map scalarLV)
  | none => none

def fieldsOf (P : Program) : List Field → Option (List (Nat × Nat × Bool))
  | [] => some []
  | f :: r =>
    match P.info? f.type, P.underlying f.type, fieldsOf P r with
    | some j, some _, some l => some ((f.offset, j.size, aggOf P f.type) :: l)
    | _, _, _ => none

def tdOf (P : Program) : TypeDesc → Option TD
  | .int k => some (.int k)
  | .bool => some .bool
  | .string => some .str
  | .slice e =>
    match P.info? e with
    | some j => (match zeroOf j with | some z => if j.size = 0 ∨ z.length ≠ j.size then none else some (.slice j.size j.bytes z) | none => none)
    | none => none
  | .array n e =>
    match P.info? e, P.underlying e with
    | some j, some _ => if j.size = 0 then none else some (.arr n j.size (aggOf P e))
    | _, _ => none
  | .struct fs => (fieldsOf P fs.toList).map .struct
  | _ => some .other

def tiOf (P : Program) (t : TypeId) : Option TI :=
  match P.info? t, P.underlying t with
  | some i, some d =>
    match zeroOf i, tdOf P d with
    | some z, some td => if z.length ≠ i.size then none else some ⟨td, i.size, aggOf P t, z⟩
    | _, _ => none
  | _, _ => none

/-- Types whose values are compared cell by cell: 0 an integer, 1 a bool, 2 a string. -/
def flatTy (P : Program) (t : TypeId) : Option Nat :=
  match P.underlying t with
  | some (.int _) => some 0
  | some .bool => some 1
  | some .string => some 2
  | _ => none
def flatFs (P : Program) : Nat → List Field → Option (List Nat)
  | _, [] => some []
  | n, f :: r => if f.name != "_" && Nat.beq f.offset n then (match flatTy P f.type, flatFs P (n + 1) r with
    | some k, some ks => some (k :: ks)
    | _, _ => none) else none
def eqOf (P : Program) (t : TypeId) : Option (List Nat) :=
  match P.underlying t with
  | some (.struct fs) => if !P.eqGuardType P.depth t && !P.stoodInHeld t then flatFs P 0 fs.toList else none
  | some (.array n e) => if !P.eqGuardType P.depth t then (match flatTy P e, P.info? e with
    | some k, some j => if Nat.beq j.size 1 then some (List.replicate n k) else none
    | _, _ => none) else none
  | _ => none
def nilOf (P : Program) (t : TypeId) : Nat :=
  match P.underlying t with
  | some (.func _ _ _) => 1
  | some (.pointer _) => 2
  | some (.slice e) => (match P.underlying e with | some (.int .u8) => 3 | _ => 4)
  | _ => 0

/-- What the operations ask of the types. -/
structure TT where
  ti : TypeId → Option TI
  eq : TypeId → Option (List Nat)
  nilk : TypeId → Nat
instance : CoeFun TT (fun _ => TypeId → Option TI) := ⟨TT.ti⟩
def ttOf (P : Program) : TT := ⟨tiOf P, eqOf P, nilOf P⟩

/-- A type's row, taken apart. -/
theorem ti_spec {P : Program} {t : TypeId} {ti : TI} (h : tiOf P t = some ti) :
    ∃ i d z, P.info? t = some i ∧ P.underlying t = some d ∧ i.zero = some z ∧ ti.zero = z.cells.toList.map scalarLV ∧ ti.size = i.size ∧ z.cells.size = i.size ∧
      ti.agg = aggOf P t ∧ tdOf P d = some ti.d := by
  unfold tiOf at h
  split at h
  · rename_i i d hi hd
    split at h
    · rename_i z td hz htd
      split at h
      · cases h
      · rename_i hl
        obtain rfl := Option.some.inj h
        unfold zeroOf at hz
        split at hz
        · rename_i z' hz'
          obtain rfl := Option.some.inj hz
          refine ⟨i, d, z', hi, hd, hz', rfl, rfl, ?_, rfl, htd⟩
          simpa using hl
        · cases hz
    · cases h
  · cases h

section runs
variable {P : Program} {t : TypeId} {ti : TI} {w : World}

theorem run_typeInfo {i : TypeInfo} (h : P.info? t = some i) : (typeInfo t).run P w = .ok i w := by simp [typeInfo, h]
theorem run_underlying {d : TypeDesc} (h : P.underlying t = some d) : (underlying t).run P w = .ok d w := by simp [underlying, h]
theorem run_sizeOf {i : TypeInfo} (h : P.info? t = some i) : (sizeOf t).run P w = .ok i.size w := by simp [sizeOf, typeInfo, h]
theorem run_zeroValue {i : TypeInfo} {z : Value} (h : P.info? t = some i) (hz : i.zero = some z) : (zeroValue t).run P w = .ok z w := by simp [zeroValue, typeInfo, h, hz]
theorem run_isAgg {d : TypeDesc} (h : P.underlying t = some d) : (isAgg t).run P w = .ok (aggOf P t) w := by
  unfold isAgg aggOf
  rw [h]
  cases d <;> simp [underlying, h]

end runs

def evalO (F : Fr) : Operand → LV
  | .tmp t => fget F t
  | .const v => constLV v
  | .global _ => .dead
  | .func f => .fn f []

/-- The frame stands for the slots. -/
def FR (w : World) (ι : Pl) (per : Nat → Prop) (F : Fr) (a : Act) : Prop := ∀ t, VR w per ι (fget F t) (a.tmps.getD t undef)

theorem FR.eval {w : World} {ι : Pl} {per : Nat → Prop} {F : Fr} {a : Act} (h : FR w ι per F a) (x : Operand) : VR w per ι (evalO F x) (a.eval x) := by
  cases x with
  | tmp t => exact h t
  | const v => exact .const v
  | global g => exact .dead _
  | func f => exact .fn (vs := []) rfl (fun i hi => absurd hi (by simp))

def lbin (op : BinOp) : LV → LV → Option LV
  | .int k a, .int k' b =>
    match op with
    | .shl => if b < 0 then none else some (.int k (k.wrap (a * 2 ^ (min b.toNat k.bits))))
    | .shr => if b < 0 then none else some (.int k (a.fdiv (2 ^ (min b.toNat k.bits))))
    | _ =>
      if k ≠ k' then none else
      match op with
      | .add => some (.int k (k.wrap (a + b)))
      | .sub => some (.int k (k.wrap (a - b)))
      | .mul => some (.int k (k.wrap (a * b)))
      | .quo => if b = 0 then none else some (.int k (k.wrap (a.tdiv b)))
      | .rem => if b = 0 then none else some (.int k (a.tmod b))
      | .and => some (.int k (k.wrap (BitVec.ofInt k.bits a &&& BitVec.ofInt k.bits b).toNat))
      | .or => some (.int k (k.wrap (BitVec.ofInt k.bits a ||| BitVec.ofInt k.bits b).toNat))
      | .xor => some (.int k (k.wrap (BitVec.ofInt k.bits a ^^^ BitVec.ofInt k.bits b).toNat))
      | .andNot => some (.int k (k.wrap (BitVec.ofInt k.bits a &&& ~~~ BitVec.ofInt k.bits b).toNat))
      | .eql => some (.bool (a == b))
      | .neq => some (.bool (a != b))
      | .lss => some (.bool (decide (a < b)))
      | .leq => some (.bool (decide (a ≤ b)))
      | .gtr => some (.bool (decide (a > b)))
      | .geq => some (.bool (decide (a ≥ b)))
      | _ => none
  | .str a, .str b =>
    match op with
    | .add => if ((a.size + b.size : Nat) : Int) > IntKind.i64.max then none else some (.str (a ++ b))
    | .eql => some (.bool (a.toList == b.toList))
    | .neq => some (.bool (!(a.toList == b.toList)))
    | .lss => some (.bool (Op.bytesLess a.toList b.toList))
    | _ => none
  | _, _ => none

def lun (op : UnOp) : LV → Option LV
  | .int k n => (match op with | .neg => some (.int k (k.wrap (0 - n))) | .xor => some (.int k (k.wrap (BitVec.ofInt k.bits (if k.signed then -1 else k.max) ^^^ BitVec.ofInt k.bits n).toNat)) | _ => none)
  | .bool b => (match op with | .not => some (.bool (!b)) | _ => none)
  | _ => none

/-- The cells of a value, where they are known. -/
def lcells : LV → Option (List LV)
  | .agg cs => some cs
  | .dead => none
  | .und => none
  | .tup _ => none
  | v => some [v]

def putCells (cs : List LV) (off : Nat) (vs : List LV) : List LV := cs.take off ++ vs ++ cs.drop (off + vs.length)

def lpart (agg : Bool) (size : Nat) (cs : List LV) (off : Nat) : Option LV :=
  if agg then (if off + size ≤ cs.length then some (.agg ((cs.drop off).take size)) else none) else cs[off]?

def asI : LV → Option Int
  | .int _ n => some n
  | _ => none

def lmin : List LV → LV → Option LV
  | [], x => some x
  | .int k y :: r, .int k' x => lmin r (.int k' (if y < x then y else x))
  | _, _ => none
def lmax : List LV → LV → Option LV
  | [], x => some x
  | .int k y :: r, .int k' x => lmax r (.int k' (if x < y then y else x))
  | _, _ => none

def hiOf (len : Nat) : Option LV → Option Int
  | none => some len
  | some x => asI x
def loOf : Option LV → Option Int
  | none => some 0
  | some x => asI x
def sliceBnds (len : Nat) (lo hi : Option LV) : Option (Nat × Nat) :=
  match hiOf len hi, loOf lo with
  | some h, some l => if 0 ≤ l ∧ l ≤ h ∧ h ≤ len then some (l.toNat, h.toNat) else none
  | _, _ => none

def lfill (place : Nat → Option (Nat × Nat)) (cells : List LV) : List (Nat × LV) → Option (List LV)
  | [] => some cells
  | (i, v) :: rest =>
    match place i, lcells v with
    | some (off, size), some cs => if cs.length ≠ size ∨ off + cs.length > cells.length then none else lfill place (putCells cells off cs) rest
    | _, _ => none

def eqCells : List Nat → List LV → List LV → Option Bool
  | [], [], [] => some true
  | 0 :: ks, .int k x :: r, .int k' y :: r' => if k = k' then (eqCells ks r r').map (decide (x = y) && ·) else none
  | 1 :: ks, .bool x :: r, .bool y :: r' => (eqCells ks r r').map (x == y && ·)
  | 2 :: ks, .str x :: r, .str y :: r' => (eqCells ks r r').map (x.toList == y.toList && ·)
  | _, _, _ => none
def eqB (op : BinOp) (r : Bool) : Option LV :=
  match op with
  | .eql => some (.bool r)
  | .neq => some (.bool (!r))
  | _ => none

/-- Comparisons of bools besides. -/
def lbinT (τ : TT) (t : TypeId) (op : BinOp) : LV → LV → Option LV
  | .bool a, .bool b => match τ t, op with
    | some ⟨.bool, _, _, _⟩, .eql => some (.bool (a == b))
    | some ⟨.bool, _, _, _⟩, .neq => some (.bool (!(a == b)))
    | _, _ => none
  | .agg a, .agg b => (match τ.eq t with
    | some ks => (match eqCells ks a b with | some r => eqB op r | none => none)
    | none => none)
  | .fn _ _, .nilf => if Nat.beq (τ.nilk t) 1 then eqB op false else none
  | .nilf, .nilf => if Nat.beq (τ.nilk t) 1 then eqB op true else none
  | .ptr _ _, .nilp => if Nat.beq (τ.nilk t) 2 then eqB op false else none
  | .pp _, .nilp => if Nat.beq (τ.nilk t) 2 then eqB op false else none
  | .nilp, .nilp => if Nat.beq (τ.nilk t) 2 then eqB op true else none
  | .nils, .nils => if Nat.ble 3 (τ.nilk t) then eqB op true else none
  | .sl _ _ _ (_ + 1), .nils => if Nat.ble 3 (τ.nilk t) then eqB op false else none
  | .ps _ (_ + 1) _, .nils => if Nat.ble 3 (τ.nilk t) then eqB op false else none
  | x, y => lbin op x y

/-- The operations that only compute: neither the world nor the rows are asked. -/
def pureOp (τ : TT) (F : Fr) : Op → Option LV
  | .move x | .assign x => some (evalO F x)
  | .pick c a b => match evalO F c with | .bool t => some (if t then evalO F a else evalO F b) | _ => none
  | .nilCheck x => match evalO F x with
    | .ptr h o => some (.ptr h o)
    | .pp cs => some (.pp cs)
    | .fn f c => some (.fn f c)
    | _ => none
  | .binOp op t x y _ => lbinT τ t op (evalO F x) (evalO F y)
  | .unOp op _ x => lun op (evalO F x)
  | .convert s d x => match τ s, τ d, evalO F x with
    | some _, some ⟨.int k, _, _, _⟩, .int _ n => some (.int k (k.wrap n))
    | some _, some ⟨.str, _, _, _⟩, .str b => some (.str b)
    | _, _, _ => none
  | .makeFunc (.func f) first captured => if first.size = 0 then (if isUnd (captured.toList.map (evalO F)) = false then some (.fn f (captured.toList.map (evalO F))) else none) else if captured.size = 0 then some (.fn f (.und :: first.toList.map (evalO F))) else none
  | .extract x i => match evalO F x with | .tup vs => vs[i]? | _ => none
  | .fieldAddr s x f => match τ s, evalO F x with
    | some ⟨.struct fs, _, _, _⟩, .ptr h o => (match fs[f]? with | some (off, size, _) => if size = 0 then none else some (.ptr h (o + off)) | none => none)
    | some ⟨.struct fs, _, _, _⟩, .pp cs => (match fs[f]? with | some (off, size, _) => if size = 0 then none else some (.pp (cs.drop off)) | none => none)
    | _, _ => none
  | .field s x f => match τ s, evalO F x with
    | some ⟨.struct fs, _, _, _⟩, .agg cs => (match fs[f]? with | some (off, size, agg) => lpart agg size cs off | none => none)
    | _, _ => none
  | .indexAddr t x i => match τ t, evalO F x, evalO F i with
    | some ⟨.slice esz _ _, _, _, _⟩, .sl sz h o len, .int _ n => if sz = esz ∧ 0 ≤ n ∧ n < len then some (.ptr h (o + n.toNat * sz)) else none
    | some ⟨.slice esz _ _, _, _, _⟩, .ps sz len cs, .int _ n => if sz = esz ∧ 0 ≤ n ∧ n < len then some (.pp ((cs.drop (n.toNat * sz)).take sz)) else none
    | some ⟨.arr m esz _, _, _, _⟩, .ptr h o, .int _ n => if 0 ≤ n ∧ n < m then some (.ptr h (o + n.toNat * esz)) else none
    | some ⟨.arr m esz _, _, _, _⟩, .pp cs, .int _ n => if 0 ≤ n ∧ n < m then some (.pp (cs.drop (n.toNat * esz))) else none
    | _, _, _ => none
  | .index t x i => match τ t, evalO F x, evalO F i with
    | some ⟨.arr m esz eagg, _, _, _⟩, .agg cs, .int _ n => if 0 ≤ n ∧ n < m then lpart eagg esz cs (n.toNat * esz) else none
    | some ⟨.str, _, _, _⟩, .str s, .int _ n => if 0 ≤ n then (match s[n.toNat]? with | some b => some (.int .u8 b.toNat) | none => none) else none
    | _, _, _ => none
  | .build t parts => match τ t with
    | some ⟨.struct fs, _, _, z⟩ => (lfill (fun i => (fs[i]?).map fun f => (f.1, f.2.1)) z (parts.toList.map fun p => (p.1, evalO F p.2))).map .agg
    | some ⟨.arr n esz _, _, _, z⟩ => (lfill (fun i => some (i * esz, esz)) z (parts.toList.map fun p => (p.1, evalO F p.2))).map .agg
    | _ => none
  | .slice t x lo hi none => match τ t, evalO F x with
    | some ⟨.str, _, _, _⟩, .str s => (match sliceBnds s.size (lo.map (evalO F)) (hi.map (evalO F)) with | some (l, h) => some (.str (s.extract l h)) | none => none)
    | some ⟨.slice esz _ _, _, _, _⟩, .sl sz h o len => if sz ≠ esz then none else (match sliceBnds len (lo.map (evalO F)) (hi.map (evalO F)) with | some (l, r) => some (.sl sz h (o + l * sz) (r - l)) | none => none)
    | some ⟨.slice esz _ _, _, _, _⟩, .ps sz len cs => if sz ≠ esz then none else (match sliceBnds len (lo.map (evalO F)) (hi.map (evalO F)) with | some (l, r) => some (.ps sz (r - l) ((cs.drop (l * sz)).take ((r - l) * sz))) | none => none)
    | some ⟨.slice _ _ _, _, _, _⟩, .nils => (match sliceBnds 0 (lo.map (evalO F)) (hi.map (evalO F)) with | some _ => some .nils | none => none)
    | _, _ => none
  | .call ⟨.builtin .len, args, argTypes⟩ => match (argTypes[0]?).bind (τ), (args[0]?).map (evalO F) with
    | some ⟨.str, _, _, _⟩, some (.str s) => some (.int .i64 s.size)
    | some ⟨.slice _ _ _, _, _, _⟩, some (.sl _ _ _ n) => some (.int .i64 n)
    | some ⟨.slice _ _ _, _, _, _⟩, some (.ps _ n _) => some (.int .i64 n)
    | some ⟨.slice _ _ _, _, _, _⟩, some .nils => some (.int .i64 0)
    | some ⟨.arr n _ _, _, _, _⟩, some _ => some (.int .i64 n)
    | _, _ => none
  | .call ⟨.builtin .min, args, _⟩ => match args.toList.map (evalO F) with | x :: r => lmin r x | [] => none
  | .call ⟨.builtin .max, args, _⟩ => match args.toList.map (evalO F) with | x :: r => lmax r x | [] => none
  | _ => none

/-- What an operation that only computes comes to. -/
def Yields (P : Program) (w : World) (ι : Pl) (per : Nat → Prop) (x : LV) (s : Sem Next) : Prop := ∃ u, (∀ w', s.run P w' = .ok (.value u) w') ∧ VR w per ι x u

theorem eqGuard_int {P : Program} {w : World} {op : BinOp} {t : TypeId} {ox oy : Operand} {k k' : IntKind} {a b : Int} : (eqGuard op t ox oy (.int k a) (.int k' b)).run P w = .ok () w := by
  cases op <;> rfl
theorem eqGuard_str {P : Program} {w : World} {op : BinOp} {t : TypeId} {ox oy : Operand} {a b : ByteArray} : (eqGuard op t ox oy (.string a) (.string b)).run P w = .ok () w := by
  cases op <;> rfl
theorem eqGuard_bool {P : Program} {w : World} {op : BinOp} {t : TypeId} {ox oy : Operand} {a b : Bool} : (eqGuard op t ox oy (.bool a) (.bool b)).run P w = .ok () w := by
  cases op <;> rfl

theorem lbin_sound {P : Program} {w : World} {ι : Pl} {per : Nat → Prop} {op : BinOp} {t : TypeId} {x y : LV} {u v : Value} {ox oy : Operand} (hx : VR w per ι x u) (hy : VR w per ι y v) {r : LV}
    (h : lbin op x y = some r) : ∃ z, (∀ w', (do eqGuard op t ox oy u v; binOp op t u v : Sem Value).run P w' = .ok z w') ∧ VR w per ι r z := by
  unfold lbin at h
  split at h
  · cases hx; cases hy
    rename_i k a k' b
    simp only [Sem.run_bind, eqGuard_int, Result.andThen_ok]
    split at h
    · split at h
      · cases h
      · rename_i hb
        obtain rfl := Option.some.inj h
        refine ⟨_, ?_, .int _ _⟩; intro w'; simp [binOp, Op.shift, hb]
    · split at h
      · cases h
      · rename_i hb
        obtain rfl := Option.some.inj h
        refine ⟨_, ?_, .int _ _⟩; intro w'; simp [binOp, Op.shift, hb]
    · rename_i hn1 hn2
      split at h
      · cases h
      · rename_i hk
        simp only [ne_eq, Decidable.not_not] at hk
        subst hk
        have hkk : ¬ (k ≠ k) := fun h => h rfl
        cases op with
        | shl => exact absurd rfl hn1
        | shr => exact absurd rfl hn2
        | quo =>
          simp only at h
          split at h
          · cases h
          · rename_i hb
            obtain rfl := Option.some.inj h
            refine ⟨_, ?_, .int _ _⟩
            intro w'; simp [binOp, Op.intDiv, hb]
        | rem =>
          simp only at h
          split at h
          · cases h
          · rename_i hb
            obtain rfl := Option.some.inj h
            refine ⟨_, ?_, .int _ _⟩
            intro w'; simp [binOp, Op.intDiv, hb]
        | add | sub | mul =>
          obtain rfl := Option.some.inj h
          refine ⟨_, ?_, .int _ _⟩
          intro w'; simp [binOp, Op.intArith]
        | and | or | xor | andNot =>
          obtain rfl := Option.some.inj h
          refine ⟨_, ?_, .int _ _⟩
          intro w'; simp only [binOp, if_neg hkk, Op.intBits]; rfl
        | eql | neq | lss | leq | gtr | geq =>
          obtain rfl := Option.some.inj h
          refine ⟨_, ?_, .bool _⟩
          intro w'; simp only [binOp, if_neg hkk, Op.intCmp]; rfl
  · cases hx; cases hy
    rename_i a b
    simp only [Sem.run_bind, eqGuard_str, Result.andThen_ok]
    split at h
    · split at h
      · cases h
      · rename_i hb
        obtain rfl := Option.some.inj h
        refine ⟨_, ?_, .str _⟩
        intro w'
        simp only [binOp, Op.stringOp]
        rw [if_neg hb]
        simp
    · obtain rfl := Option.some.inj h
      refine ⟨_, ?_, .bool _⟩; intro w'; simp [binOp, Op.stringOp]
    · obtain rfl := Option.some.inj h
      refine ⟨_, ?_, .bool _⟩; intro w'; simp [binOp, Op.stringOp]
    · obtain rfl := Option.some.inj h
      refine ⟨_, ?_, .bool _⟩; intro w'; simp [binOp, Op.stringOp]
    · cases h
  · cases h

theorem lun_sound {P : Program} {w : World} {ι : Pl} {per : Nat → Prop} {op : UnOp} {x : LV} {u : Value} (hx : VR w per ι x u) {r : LV}
    (h : lun op x = some r) : ∃ z, (∀ w', (Op.unary op u).run P w' = .ok z w') ∧ VR w per ι r z := by
  unfold lun at h
  split at h
  · cases hx
    split at h
    · obtain rfl := Option.some.inj h
      refine ⟨_, ?_, .int _ _⟩; intro w'; simp [Op.unary, Op.intArith]
    · obtain rfl := Option.some.inj h
      refine ⟨_, ?_, .int _ _⟩; intro w'; simp only [Op.unary, Op.intBits]; rfl
    · cases h
  · cases hx
    split at h
    · obtain rfl := Option.some.inj h
      refine ⟨_, ?_, .bool _⟩; intro w'; simp [Op.unary]
    · cases h
  · cases h

end Go.Lite
