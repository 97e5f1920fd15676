/- Lite, parts TE TF. -/
import Derived.Test.YtihminfnphichaaLiteP
set_option linter.unusedVariables false
set_option linter.unusedSimpArgs false

/- Lite, part TA: typed values: a slice holds a list of a plain type; an operation's value, what it asks, the rows that it lays. -/
namespace Go.Lite
open Go Go.RowKit
set_option linter.unusedVariables false

inductive TV (A : Nat → Type) where
  | dead
  | und
  | bool (b : Bool)
  | int (k : IntKind) (n : Int)
  | str (s : ByteArray)
  | nilp
  | nils
  | nilf
  | yld (l : Nat)
  | ptr (h off : Nat)
  | ptrE (sz h i off : Nat)
  | pel (cs : List (TV A))
  | sl (sz h off len : Nat)
  | sla (sz h off len : Nat)
  | lst (e : Nat) (xs : List (A e))
  | fn (f : Nat) (cap : List (TV A))
  | agg (cs : List (TV A))
  | tup (cs : List (TV A))
  | opt (g : Bool) (v : TV A)

instance {A : Nat → Type} : Inhabited (TV A) := ⟨.dead⟩

/-- The types of a program's slices' elements: their cells, and back. -/
structure Reg (A : Nat → Type) where
  sz : Nat → Nat
  d : ∀ e, A e
  encL : ∀ e, A e → List LV
  enc : ∀ e, A e → List (TV A)
  dec : ∀ e, List (TV A) → Option (A e)
  el : Nat → Option Nat
  byt : ∀ e, Option (List (A e) → List Int)

section
variable {A : Nat → Type} (R : Reg A)

mutual
def emb : TV A → LV
  | .dead => .dead
  | .und => .und
  | .bool b => .bool b
  | .int k n => .int k n
  | .str s => .str s
  | .nilp => .nilp
  | .nils => .nils
  | .nilf => .nilf
  | .yld l => .yld l
  | .ptr h o => .ptr h o
  | .ptrE sz h i o => .ptr h (i * sz + o)
  | .pel cs => .pp (embC cs)
  | .sl sz h o n => .sl sz h o n
  | .sla sz h o n => .sl sz h (o * sz) n
  | .lst e xs => .ps (R.sz e) xs.length (xs.flatMap (R.encL e))
  | .fn f cs => .fn f (embC cs)
  | .agg cs => .agg (embC cs)
  | .tup cs => .tup (embC cs)
  | .opt g v => cond g (emb v) .und
def embC : List (TV A) → List LV
  | [] => []
  | c :: r => emb c :: embC r
end

theorem embC_eq (cs : List (TV A)) : embC R cs = cs.map (emb R) := by
  induction cs with
  | nil => rfl
  | cons c r ih => simp [embC, ih]

structure Reg.Ok : Prop where
  pos : ∀ e, 0 < R.sz e
  len : ∀ e a, (R.encL e a).length = R.sz e
  ok : ∀ e a, embC R (R.enc e a) = R.encL e a
  dec : ∀ e cs a, R.dec e cs = some a → embC R cs = R.encL e a
  free : ∀ e a, hfreeL (R.encL e a) = true
  sol : ∀ e a, (R.encL e a).all solid = true
  byt : ∀ e f, R.byt e = some f → ∀ xs, xs.flatMap (R.encL e) = (f xs).map (LV.int .u8)

end

inductive TRow (A : Nat → Type) where
  | cells (cs : List (TV A))
  | arr (e : Nat) (xs : List (A e))

abbrev TH (A : Nat → Type) := List (Option (TRow A))
abbrev TF (A : Nat → Type) := List (Nat × TV A)

section
variable {A : Nat → Type} (R : Reg A)

def embR : TRow A → List LV
  | .cells cs => embC R cs
  | .arr e xs => xs.flatMap (R.encL e)
def embO : Option (TRow A) → Option (List LV)
  | none => none
  | some r => some (embR R r)
def embH : TH A → Hp
  | [] => []
  | r :: H => embO R r :: embH H
def embF : TF A → Fr
  | [] => []
  | (t, v) :: F => (t, emb R v) :: embF F
def embW : List (Nat × Option (TRow A)) → List (Nat × Option (List LV))
  | [] => []
  | (h, r) :: ws => (h, embO R r) :: embW ws

def tget : TF A → Nat → TV A
  | [], _ => .dead
  | (s, v) :: r, t => cond (Nat.beq s t) v (tget r t)

theorem fget_embF (F : TF A) (t : Nat) : fget (embF R F) t = emb R (tget F t) := by
  induction F with
  | nil => simp [embF, fget, tget, emb]
  | cons p r ih =>
    obtain ⟨s, v⟩ := p
    simp only [embF, fget, tget]
    cases Nat.beq s t <;> simp [ih]

mutual
def upC : LV → TV A
  | .und => .und
  | .bool b => .bool b
  | .int k n => .int k n
  | .str s => .str s
  | .nilp => .nilp
  | .nils => .nils
  | .nilf => .nilf
  | .yld l => .yld l
  | .ptr h o => .ptr h o
  | .sl sz h o n => .sl sz h o n
  | .fn f cs => .fn f (upL cs)
  | .agg cs => .agg (upL cs)
  | .tup cs => .tup (upL cs)
  | _ => .dead
def upL : List LV → List (TV A)
  | [] => []
  | c :: r => upC c :: upL r
end

mutual
/-- It holds no plain memory. -/
def flat : LV → Bool
  | .ps _ _ _ => false
  | .pp _ => false
  | .fn _ cs => flatL cs
  | .agg cs => flatL cs
  | .tup cs => flatL cs
  | _ => true
def flatL : List LV → Bool
  | [] => true
  | c :: r => flat c && flatL r
end

mutual
theorem emb_up : ∀ (x : LV), flat x = true → emb R (upC x) = x
  | .dead, _ => rfl
  | .und, _ => rfl
  | .bool _, _ => rfl
  | .int _ _, _ => rfl
  | .str _, _ => rfl
  | .nilp, _ => rfl
  | .nils, _ => rfl
  | .nilf, _ => rfl
  | .yld _, _ => rfl
  | .ptr _ _, _ => rfl
  | .sl _ _ _ _, _ => rfl
  | .fn f cs, h => by simp only [upC, emb]; rw [embC_up cs (by simpa [flat] using h)]
  | .agg cs, h => by simp only [upC, emb]; rw [embC_up cs (by simpa [flat] using h)]
  | .tup cs, h => by simp only [upC, emb]; rw [embC_up cs (by simpa [flat] using h)]
  | .ps _ _ _, h => by simp [flat] at h
  | .pp _, h => by simp [flat] at h
theorem embC_up : ∀ (cs : List LV), flatL cs = true → embC R (upL cs) = cs
  | [], _ => rfl
  | c :: r, h => by
    simp only [flatL, Bool.and_eq_true] at h
    simp only [upL, embC]
    rw [emb_up c h.1, embC_up r h.2]
end

theorem flat_scalar (v : Value) : flat (scalarLV v) = true := by
  unfold scalarLV; split <;> rfl
theorem flat_const (v : Value) : flat (constLV v) = true := by
  unfold constLV
  split
  · rename_i cs
    simp only [flat]
    have : ∀ (l : List Value), flatL (l.map scalarLV) = true := by
      intro l
      induction l with
      | nil => rfl
      | cons c r ih => simp [flatL, flat_scalar, ih]
    exact this _
  · exact flat_scalar v

def tO (F : TF A) : Operand → TV A
  | .tmp t => tget F t
  | .const v => upC (constLV v)
  | .global _ => .dead
  | .func f => .fn f []

theorem evalO_emb (F : TF A) (o : Operand) : evalO (embF R F) o = emb R (tO F o) := by
  cases o with
  | tmp t => exact fget_embF R F t
  | const v => exact (emb_up R _ (flat_const v)).symm
  | global g => rfl
  | func f => rfl

def nth {α : Type} : List α → Nat → Option α
  | [], _ => none
  | x :: _, 0 => some x
  | _ :: r, n + 1 => nth r n

theorem nth_eq {α : Type} : ∀ (l : List α) (n : Nat), nth l n = l[n]? := by
  intro l
  induction l with
  | nil => intro n; simp [nth]
  | cons x r ih => intro n; cases n <;> simp [nth, ih]

def trow (H : TH A) (h : Nat) : Option (TRow A) := match nth H h with
  | some (some r) => some r
  | _ => none

theorem embH_get (H : TH A) (h : Nat) : (embH R H)[h]? = (H[h]?).map (embO R) := by
  induction H generalizing h with
  | nil => simp [embH]
  | cons r H ih => cases h <;> simp [embH, ih]

theorem embH_length (H : TH A) : (embH R H).length = H.length := by
  induction H with
  | nil => rfl
  | cons r H ih => simp [embH, ih]

theorem row_emb {H : TH A} {h : Nat} {r : TRow A} (hr : trow H h = some r) : row (embH R H) h = some (embR R r) := by
  unfold trow at hr
  rw [nth_eq] at hr
  split at hr
  · rename_i r' h'
    obtain rfl := Option.some.inj hr
    unfold row
    rw [embH_get, h']
    rfl
  · cases hr

def tpart (agg : Bool) (size : Nat) (cs : List (TV A)) (off : Nat) : Option (TV A) :=
  cond agg (cond (Nat.ble (off + size) cs.length) (some (.agg ((cs.drop off).take size))) none) (nth cs off)

theorem embC_length (cs : List (TV A)) : (embC R cs).length = cs.length := by rw [embC_eq]; simp
theorem embC_drop (cs : List (TV A)) (n : Nat) : embC R (cs.drop n) = (embC R cs).drop n := by rw [embC_eq, embC_eq, List.map_drop]
theorem embC_take (cs : List (TV A)) (n : Nat) : embC R (cs.take n) = (embC R cs).take n := by rw [embC_eq, embC_eq, List.map_take]
theorem embC_append (cs ds : List (TV A)) : embC R (cs ++ ds) = embC R cs ++ embC R ds := by rw [embC_eq, embC_eq, embC_eq, List.map_append]
theorem embC_get (cs : List (TV A)) (n : Nat) : (embC R cs)[n]? = (cs[n]?).map (emb R) := by rw [embC_eq, List.getElem?_map]

theorem tpart_emb {agg : Bool} {size : Nat} {cs : List (TV A)} {off : Nat} {v : TV A} (h : tpart agg size cs off = some v) : lpart agg size (embC R cs) off = some (emb R v) := by
  unfold tpart at h
  unfold lpart
  cases agg
  · simp only [cond_false] at h
    rw [nth_eq] at h
    simp [embC_get, h]
  · simp only [cond_true] at h
    cases hb : Nat.ble (off + size) cs.length
    · rw [hb] at h; cases h
    · rw [hb] at h
      have hle : off + size ≤ cs.length := Nat.le_of_ble_eq_true hb
      simp only [cond_true, Option.some.injEq] at h
      subst h
      simp only [if_true]
      rw [if_pos (by rw [embC_length]; exact hle)]
      simp only [emb, embC_take, embC_drop]

end
/-! ### What might be nothing -/
section
variable {A : Nat → Type} {R : Reg A}
/-- It might be nothing. -/
def undT : TV A → Bool
  | .und => true
  | .opt _ _ => true
  | _ => false
/-- Both begin with nothing, or surely neither. -/
def fnB : List (TV A) → List (TV A) → Bool
  | [], [] => true
  | .und :: _, .und :: _ => true
  | c :: _, d :: _ => !undT c && !undT d
  | _, _ => false
theorem undT_emb {c : TV A} {r : List (TV A)} (h : undT c = false) : isUnd (embC R (c :: r)) = false := by
  cases c <;> first | rfl | (simp [undT] at h)
theorem fnB_ok {cs ds : List (TV A)} (h : fnB cs ds = true) : isUnd (embC R cs) = isUnd (embC R ds) := by
  unfold fnB at h
  split at h
  · rfl
  · rfl
  · simp only [Bool.and_eq_true, Bool.not_eq_true'] at h
    rw [undT_emb h.1, undT_emb h.2]
  · cases h
end
end Go.Lite

/- Lite, part TB: operations on typed values: what they come to, and that it is so. -/
namespace Go.Lite
open Go Go.RowKit
set_option linter.unusedVariables false

/-! ### Lists of pieces of one length -/
section
variable {α : Type} {f : α → List LV} {c : Nat}

theorem fm_length (hf : ∀ a, (f a).length = c) (xs : List α) : (xs.flatMap f).length = xs.length * c := by
  induction xs with
  | nil => simp
  | cons x r ih => simp [List.flatMap_cons, ih, hf, Nat.add_mul, Nat.add_comm]

theorem fm_drop (hf : ∀ a, (f a).length = c) : ∀ (n : Nat) (xs : List α), (xs.flatMap f).drop (n * c) = (xs.drop n).flatMap f := by
  intro n
  induction n with
  | zero => intro xs; simp
  | succ n ih =>
    intro xs
    cases xs with
    | nil => simp
    | cons x r =>
      simp only [List.flatMap_cons, List.drop_succ_cons]
      rw [← ih r, Nat.add_mul, Nat.one_mul, Nat.add_comm, List.drop_append]
      have : (f x).length = c := hf x
      rw [List.drop_eq_nil_of_le (by omega), List.nil_append]
      congr 1; omega

theorem fm_take (hf : ∀ a, (f a).length = c) : ∀ (n : Nat) (xs : List α), (xs.flatMap f).take (n * c) = (xs.take n).flatMap f := by
  intro n
  induction n with
  | zero => intro xs; simp
  | succ n ih =>
    intro xs
    cases xs with
    | nil => simp
    | cons x r =>
      simp only [List.flatMap_cons, List.take_succ_cons]
      rw [← ih r, Nat.add_mul, Nat.one_mul, Nat.add_comm, List.take_append]
      have : (f x).length = c := hf x
      rw [List.take_of_length_le (by omega)]
      congr 2; omega

theorem fm_split (hf : ∀ a, (f a).length = c) {xs : List α} {i : Nat} (hi : i < xs.length) : xs.flatMap f = (xs.take i).flatMap f ++ (f xs[i] ++ (xs.drop (i + 1)).flatMap f) ∧ ((xs.take i).flatMap f).length = i * c := by
  constructor
  · have : xs = xs.take i ++ (xs[i] :: xs.drop (i + 1)) := by rw [← List.drop_eq_getElem_cons hi, List.take_append_drop]
    exact (congrArg (List.flatMap f) this).trans (by rw [List.flatMap_append, List.flatMap_cons])
  · rw [fm_length hf, List.length_take, Nat.min_eq_left (by omega)]

theorem lpart_mid {agg : Bool} {size o : Nat} {X B C : List LV} {v : LV} (h : lpart agg size B o = some v) : lpart agg size (X ++ (B ++ C)) (X.length + o) = some v := by
  unfold lpart at *
  split at h
  · rename_i ha
    split at h
    · rename_i hl
      rw [if_pos ha, if_pos (by simp; omega)]
      obtain rfl := Option.some.inj h
      congr 2
      rw [List.drop_append, List.drop_eq_nil_of_le (by omega), List.nil_append, show X.length + o - X.length = o by omega, List.drop_append, List.take_append]
      have : (B.drop o).length = B.length - o := by simp
      rw [show size - (B.drop o).length = 0 by omega]
      simp
    · cases h
  · rename_i ha
    rw [if_neg ha]
    obtain ⟨h1, rfl⟩ := List.getElem?_eq_some_iff.1 h
    rw [List.getElem?_append_right (by omega), show X.length + o - X.length = o by omega, List.getElem?_append_left h1, List.getElem?_eq_getElem h1]

theorem putC_mid {o : Nat} {X B C vs : List LV} (h : o + vs.length ≤ B.length) : putC (X ++ (B ++ C)) (X.length + o) vs = X ++ (putC B o vs ++ C) := by
  unfold putC
  split
  · simp only [List.length_singleton] at h
    rw [List.set_append_right _ _ (by omega), show X.length + o - X.length = o by omega, List.set_append_left _ _ (by omega)]
  · unfold putCells
    rw [List.take_append, List.take_of_length_le (by omega), show X.length + o - X.length = o by omega, List.take_append, show o - B.length = 0 by omega]
    rw [List.drop_append, List.drop_eq_nil_of_le (by omega), List.nil_append, show X.length + o + vs.length - X.length = o + vs.length by omega, List.drop_append, show o + vs.length - B.length = 0 by omega]
    simp

theorem getD_get {xs : List α} {i : Nat} (d : α) (hi : i < xs.length) : xs.getD i d = xs[i] := by simp [hi]
end

def Conj : List Prop → Prop
  | [] => True
  | p :: r => p ∧ Conj r
theorem Conj.app : ∀ {a b : List Prop}, Conj (a ++ b) → Conj a ∧ Conj b
  | [], _, h => ⟨trivial, h⟩
  | _ :: _, _, h => ⟨⟨h.1, (Conj.app h.2).1⟩, (Conj.app h.2).2⟩

/-- The value is one of its kind. -/
def rng : IntKind → Int → Prop
  | .i8, n => -128 ≤ n ∧ n ≤ 127
  | .i16, n => -32768 ≤ n ∧ n ≤ 32767
  | .i32, n => -2147483648 ≤ n ∧ n ≤ 2147483647
  | .i64, n => -9223372036854775808 ≤ n ∧ n ≤ 9223372036854775807
  | .u8, n => 0 ≤ n ∧ n ≤ 255
  | .u16, n => 0 ≤ n ∧ n ≤ 65535
  | .u32, n => 0 ≤ n ∧ n ≤ 4294967295
  | .u64, n => 0 ≤ n ∧ n ≤ 18446744073709551615

theorem wrap_rng {k : IntKind} {n : Int} (h : rng k n) : k.wrap n = n := by
  cases k <;> simp only [rng] at h <;> simp [IntKind.wrap, IntKind.bits, IntKind.signed] <;> omega

/-- Sums and the like: signed kinds must not overflow, unsigned ones wrap. -/
def arith (k : IntKind) (n : Int) : List Prop × Int :=
  match k with
  | .u8 => ([], n % 256)
  | .u16 => ([], n % 65536)
  | .u32 => ([], n % 4294967296)
  | .u64 => ([], n % 18446744073709551616)
  | .i8 => ([-128 ≤ n ∧ n ≤ 127], n)
  | .i16 => ([-32768 ≤ n ∧ n ≤ 32767], n)
  | .i32 => ([-2147483648 ≤ n ∧ n ≤ 2147483647], n)
  | .i64 => ([-9223372036854775808 ≤ n ∧ n ≤ 9223372036854775807], n)

theorem arith_ok {k : IntKind} {n : Int} (h : Conj (arith k n).1) : k.wrap n = (arith k n).2 := by
  cases k <;> simp only [arith, Conj, and_true] at h ⊢ <;> simp [IntKind.wrap, IntKind.bits, IntKind.signed] <;> omega

def kEq : IntKind → IntKind → Bool
  | .i8, .i8 | .i16, .i16 | .i32, .i32 | .i64, .i64 | .u8, .u8 | .u16, .u16 | .u32, .u32 | .u64, .u64 => true
  | _, _ => false
theorem kEq_eq {k k' : IntKind} (h : kEq k k' = true) : k = k' := by cases k <;> cases k' <;> first | rfl | (simp [kEq] at h)

/-- Bits of two numbers that are not negative. -/
def band (a b : Int) : Int := ((a.toNat &&& b.toNat : Nat) : Int)
def bor (a b : Int) : Int := ((a.toNat ||| b.toNat : Nat) : Int)
def bxor (a b : Int) : Int := ((a.toNat ^^^ b.toNat : Nat) : Int)
/-- The bits of a that b lacks. -/
def bandn (k : IntKind) (a b : Int) : Int := k.wrap ((BitVec.ofInt k.bits a &&& ~~~ BitVec.ofInt k.bits b).toNat : Int)
/-- Go's quotient and remainder. -/
def quo (a b : Int) : Int := a.tdiv b
def rem (a b : Int) : Int := a.tmod b

section
variable {A : Nat → Type} (R : Reg A)

def tint (op : BinOp) (k : IntKind) (a : Int) (k' : IntKind) (b : Int) : Option (List Prop × TV A) :=
  match op with
  | .shl => some ((0 ≤ b) :: (arith k (a * 2 ^ b.toNat)).1, .int k (arith k (a * 2 ^ b.toNat)).2)
  | .shr => some ([0 ≤ b, rng k a], .int k (a / 2 ^ b.toNat))
  | _ => cond (kEq k k') (match op with
    | .add => some ((arith k (a + b)).1, .int k (arith k (a + b)).2)
    | .sub => some ((arith k (a - b)).1, .int k (arith k (a - b)).2)
    | .mul => some ((arith k (a * b)).1, .int k (arith k (a * b)).2)
    | .quo => some ([b ≠ 0, rng k (quo a b)], .int k (quo a b))
    | .rem => some ([b ≠ 0], .int k (rem a b))
    | .and => some ([0 ≤ a, 0 ≤ b, rng k a, rng k b], .int k (band a b))
    | .or => some ([0 ≤ a, 0 ≤ b, rng k a, rng k b], .int k (bor a b))
    | .xor => some ([0 ≤ a, 0 ≤ b, rng k a, rng k b], .int k (bxor a b))
    | .andNot => some ([], .int k (bandn k a b))
    | .eql => some ([], .bool (decide (a = b)))
    | .neq => some ([], .bool (!(decide (a = b))))
    | .lss => some ([], .bool (decide (a < b)))
    | .leq => some ([], .bool (decide (a ≤ b)))
    | .gtr => some ([], .bool (decide (b < a)))
    | .geq => some ([], .bool (decide (b ≤ a)))
    | _ => none) none

theorem rng_two {k : IntKind} {a : Int} (h0 : 0 ≤ a) (h : rng k a) : a < 2 ^ (k.bits) ∧ (k.signed = true → a < 2 ^ (k.bits - 1)) := by
  cases k <;> simp only [rng] at h <;> simp [IntKind.bits, IntKind.signed] <;> omega

theorem bits_toNat {k : IntKind} {a : Int} (h0 : 0 ≤ a) (h : rng k a) : (BitVec.ofInt k.bits a).toNat = a.toNat := by
  have := (rng_two h0 h).1
  rw [BitVec.toNat_ofInt]
  congr 1
  have e : ((2 ^ k.bits : Nat) : Int) = 2 ^ k.bits := by simp
  rw [e]
  exact Int.emod_eq_of_lt h0 this

theorem rng_of_lt {k : IntKind} {n : Nat} (h : n < 2 ^ k.bits) (hs : k.signed = true → n < 2 ^ (k.bits - 1)) : rng k (n : Int) := by
  cases k <;> simp [IntKind.bits, IntKind.signed] at h hs <;> simp only [rng] <;> omega

theorem toNat_lt_two {a : Int} {n : Nat} (h0 : 0 ≤ a) (h : a < 2 ^ n) : a.toNat < 2 ^ n := by
  have e : ((2 ^ n : Nat) : Int) = 2 ^ n := by simp
  omega

theorem tint_ok {op : BinOp} {k k' : IntKind} {a b : Int} {cs : List Prop} {v : TV A} (h : tint op k a k' b = some (cs, v)) (hc : Conj cs) : lbin op (.int k a) (.int k' b) = some (emb R v) := by
  have two : ∀ n : Nat, (0 : Int) < 2 ^ n := fun n => Int.pow_pos (by decide)
  by_cases h1 : op = .shl
  · subst h1
    simp only [tint, Option.some.injEq, Prod.mk.injEq] at h
    obtain ⟨rfl, rfl⟩ := h
    have hw := arith_ok hc.2
    simp only [lbin]
    rw [if_neg (by have := hc.1; omega)]
    simp only [emb]
    rw [← hw]
    congr 2
    -- beyond the kind's bits nothing is left
    rcases Nat.le_total b.toNat k.bits with hb | hb
    · rw [Nat.min_eq_left hb]
    · rw [Nat.min_eq_right hb]
      obtain ⟨j, hj⟩ : ∃ j, b.toNat = k.bits + j := ⟨b.toNat - k.bits, by omega⟩
      rw [hj, Int.pow_add, ← Int.mul_assoc]
      have : ∀ m : Int, k.wrap (m * 2 ^ k.bits) = k.wrap 0 := by
        intro m
        cases k <;> simp [IntKind.wrap, IntKind.bits, IntKind.signed] <;> omega
      rw [this, show a * 2 ^ k.bits * 2 ^ j = a * 2 ^ j * 2 ^ k.bits by rw [Int.mul_assoc, Int.mul_comm (2 ^ k.bits), ← Int.mul_assoc], this]
  · by_cases h2 : op = .shr
    · subst h2
      simp only [tint, Option.some.injEq, Prod.mk.injEq] at h
      obtain ⟨rfl, rfl⟩ := h
      simp only [lbin]
      rw [if_neg (by have := hc.1; omega)]
      simp only [emb, Option.some.injEq, LV.int.injEq, true_and]
      rw [Int.fdiv_eq_ediv_of_nonneg _ (Int.le_of_lt (two _))]
      rcases Nat.le_total b.toNat k.bits with hb | hb
      · rw [Nat.min_eq_left hb]
      · rw [Nat.min_eq_right hb]
        have hr := hc.2.1
        have small : ∀ n : Nat, k.bits ≤ n → (0 ≤ a → a / 2 ^ n = 0) ∧ (a < 0 → a / 2 ^ n = -1) := by
          intro n hn
          have hp : (2 : Int) ^ k.bits ≤ 2 ^ n := by
            have := Nat.pow_le_pow_right (show 0 < 2 by decide) hn
            have e1 : ((2 ^ n : Nat) : Int) = 2 ^ n := by simp
            have e2 : ((2 ^ k.bits : Nat) : Int) = 2 ^ k.bits := by simp
            omega
          have hb2 : a < 2 ^ k.bits ∧ -(2 ^ k.bits) ≤ a := by cases k <;> simp only [rng] at hr <;> simp [IntKind.bits] <;> omega
          refine ⟨fun h0 => Int.ediv_eq_zero_of_lt h0 (by omega), fun h0 => ?_⟩
          have p := two n
          have := Int.ediv_lt_iff_lt_mul (a := a) (b := 0) p
          have h3 : a / 2 ^ n < 0 := this.2 (by simpa using h0)
          have h4 : -1 ≤ a / 2 ^ n := (Int.le_ediv_iff_mul_le p).2 (by omega)
          omega
        rcases Int.lt_or_le a 0 with ha | ha
        · rw [(small _ (Nat.le_refl _)).2 ha, (small _ hb).2 ha]
        · rw [(small _ (Nat.le_refl _)).1 ha, (small _ hb).1 ha]
    · have hk : kEq k k' = true := by
        cases hk : kEq k k' with
        | true => rfl
        | false => cases op <;> simp [tint, hk] at h h1 h2
      have := kEq_eq hk
      subst this
      have hbits : ∀ {f : Nat → Nat → Nat}, Conj [0 ≤ a, 0 ≤ b, rng k a, rng k b] → (∀ x y n, x < 2 ^ n → y < 2 ^ n → f x y < 2 ^ n) → k.wrap ((f a.toNat b.toNat : Nat) : Int) = ((f a.toNat b.toNat : Nat) : Int) := by
        intro f ⟨p1, p2, p3, p4, _⟩ hf
        obtain ⟨a1, a2⟩ := rng_two p1 p3
        obtain ⟨b1, b2⟩ := rng_two p2 p4
        exact wrap_rng (rng_of_lt (hf _ _ _ (toNat_lt_two p1 a1) (toNat_lt_two p2 b1)) fun hs => hf _ _ _ (toNat_lt_two p1 (a2 hs)) (toNat_lt_two p2 (b2 hs)))
      cases op <;> simp only [tint, hk, cond_true, Option.some.injEq, Prod.mk.injEq, reduceCtorEq, not_true_eq_false] at h h1 h2 <;> obtain ⟨rfl, rfl⟩ := h <;> simp only [lbin, ne_eq, not_true_eq_false, if_false, emb]
      case add => rw [arith_ok hc]
      case sub => rw [arith_ok hc]
      case mul => rw [arith_ok hc]
      case quo =>
        rw [if_neg hc.1]
        rw [wrap_rng (show rng k (a.tdiv b) from hc.2.1)]; rfl
      case rem => rw [if_neg hc.1]; rfl
      case and =>
        have := hbits (f := (· &&& ·)) hc (fun x y n hx hy => Nat.and_lt_two_pow _ hy)
        obtain ⟨p1, p2, p3, p4, _⟩ := hc
        rw [BitVec.toNat_and, bits_toNat p1 p3, bits_toNat p2 p4, this]; rfl
      case or =>
        have := hbits (f := (· ||| ·)) hc (fun x y n hx hy => Nat.or_lt_two_pow hx hy)
        obtain ⟨p1, p2, p3, p4, _⟩ := hc
        rw [BitVec.toNat_or, bits_toNat p1 p3, bits_toNat p2 p4, this]; rfl
      case xor =>
        have := hbits (f := (· ^^^ ·)) hc (fun x y n hx hy => Nat.xor_lt_two_pow hx hy)
        obtain ⟨p1, p2, p3, p4, _⟩ := hc
        rw [BitVec.toNat_xor, bits_toNat p1 p3, bits_toNat p2 p4, this]; rfl
      case eql => congr 2
      case neq =>
        first | rfl | (congr 2; done) | (congr 2; by_cases e : a = b <;> simp [e])
      all_goals rfl
end
end Go.Lite
set_option linter.unusedVariables false
set_option linter.unusedSimpArgs false

/- Lite, part TC: the operations that compute or read, on typed values. -/
namespace Go.Lite
open Go Go.RowKit
set_option linter.unusedVariables false

section
variable {A : Nat → Type} (R : Reg A)

def decAll (e : Nat) : Nat → List (TV A) → Option (List (A e))
  | 0, _ => some []
  | k + 1, cs => match R.dec e (cs.take (R.sz e)), decAll e k (cs.drop (R.sz e)) with
    | some a, some r => some (a :: r)
    | _, _ => none

theorem decAll_ok (hR : R.Ok) {e : Nat} : ∀ (k : Nat) (cs : List (TV A)) (xs : List (A e)), cs.length = k * R.sz e → decAll R e k cs = some xs → embC R cs = xs.flatMap (R.encL e) ∧ xs.length = k := by
  intro k
  induction k with
  | zero =>
    intro cs xs hl h
    obtain rfl := Option.some.inj h
    have : cs = [] := List.eq_nil_of_length_eq_zero (by simpa using hl)
    subst this
    exact ⟨rfl, rfl⟩
  | succ k ih =>
    intro cs xs hl h
    simp only [decAll] at h
    split at h
    · rename_i a r h1 h2
      obtain rfl := Option.some.inj h
      obtain ⟨i1, i2⟩ := ih _ _ (by rw [List.length_drop, hl, Nat.add_mul]; omega) h2
      have := hR.dec e _ a h1
      refine ⟨?_, by simp [i2]⟩
      rw [List.flatMap_cons, ← this, ← i1, ← embC_append, List.take_append_drop]
    · cases h

def tcells : TV A → Option (List (TV A))
  | .agg cs => some cs
  | .dead => none
  | .und => none
  | .tup _ => none
  | .opt _ _ => none
  | v => some [v]

theorem tcells_emb {v : TV A} {cs : List (TV A)} (h : tcells v = some cs) : lcells (emb R v) = some (embC R cs) := by
  cases v <;> simp only [tcells, reduceCtorEq, Option.some.injEq] at h <;> subst h <;> simp [emb, embC, lcells]

/-- The byte at a place. -/
def sat (s : ByteArray) (i : Nat) : Nat := (s.data.toList.getD i 0).toNat

theorem sat_eq {s : ByteArray} {i : Nat} (h : i < s.size) : s[i]? = some (UInt8.ofNat (sat s i)) ∧ (UInt8.ofNat (sat s i)).toNat = sat s i := by
  have hd : i < s.data.size := h
  have e : s.data.toList.getD i 0 = s[i] := by
    rw [List.getD_eq_getElem?_getD, Array.getElem?_toList, Array.getElem?_eq_getElem hd]; rfl
  unfold sat
  rw [e]
  refine ⟨?_, by simp⟩
  rw [getElem?_pos s i h]
  simp

def gen (τ : TT) (F : TF A) (op : Op) : Option (List Prop × TV A) :=
  match pureOp τ (embF R F) op with
  | some x => cond (flat x) (some ([], upC x)) none
  | none => none

theorem gen_ok {τ : TT} {F : TF A} {op : Op} {cs : List Prop} {v : TV A} (h : gen R τ F op = some (cs, v)) : pureOp τ (embF R F) op = some (emb R v) := by
  unfold gen at h
  split at h
  · rename_i x hx
    cases hf : flat x with
    | false => rw [hf] at h; cases h
    | true =>
      rw [hf] at h
      simp only [cond_true, Option.some.injEq, Prod.mk.injEq] at h
      obtain ⟨_, rfl⟩ := h
      rw [hx, emb_up R x hf]
  · cases h

def loI (F : TF A) : Option Operand → Option Int
  | none => some 0
  | some o => match tO F o with
    | .int _ n => some n
    | _ => none
def hiI (F : TF A) (len : Int) : Option Operand → Option Int
  | none => some len
  | some o => match tO F o with
    | .int _ n => some n
    | _ => none

theorem loI_emb {F : TF A} {lo : Option Operand} {l : Int} (h : loI F lo = some l) : loOf (lo.map (evalO (embF R F))) = some l := by
  cases lo with
  | none => exact h
  | some o =>
    simp only [loI] at h
    split at h
    · rename_i k n e
      simp only [Option.map_some, loOf, evalO_emb R, e, emb, asI]; exact h
    · cases h
theorem hiI_emb {F : TF A} {len : Nat} {hi : Option Operand} {l : Int} (h : hiI F len hi = some l) : hiOf len (hi.map (evalO (embF R F))) = some l := by
  cases hi with
  | none => exact h
  | some o =>
    simp only [hiI] at h
    split at h
    · rename_i k n e
      simp only [Option.map_some, hiOf, evalO_emb R, e, emb, asI]; exact h
    · cases h

def isN {α : Type} : Option α → Bool
  | none => true
  | some _ => false

/-- The part of a list. -/
def sub {α : Type} (xs : List α) (lo hi : Bool) (l h : Int) : List α :=
  match lo, hi with
  | true, true => xs
  | true, false => xs.take h.toNat
  | false, true => xs.drop l.toNat
  | false, false => (xs.drop l.toNat).take (h.toNat - l.toNat)

theorem sub_eq {α : Type} {xs : List α} {F : TF A} {lo hi : Option Operand} {l h : Int} (h1 : loI F lo = some l) (h2 : hiI F xs.length hi = some h) (h3 : 0 ≤ l ∧ l ≤ h ∧ h ≤ xs.length) :
    sub xs (isN lo) (isN hi) l h = (xs.drop l.toNat).take (h.toNat - l.toNat) ∧ (sub xs (isN lo) (isN hi) l h).length = h.toNat - l.toNat := by
  have e : sub xs (isN lo) (isN hi) l h = (xs.drop l.toNat).take (h.toNat - l.toNat) := by
    cases lo with
    | none =>
      obtain rfl := Option.some.inj h1
      cases hi with
      | none =>
        obtain rfl := Option.some.inj h2
        simp [isN, sub]
      | some o => simp [isN, sub]
    | some o =>
      cases hi with
      | none =>
        obtain rfl := Option.some.inj h2
        simp only [isN, sub]
        rw [List.take_of_length_le (by simp)]
      | some o' => rfl
  refine ⟨e, ?_⟩
  rw [e, List.length_take, List.length_drop]
  omega

def subLen (len : Nat) (lo hi : Bool) (l h : Int) : Nat :=
  match lo, hi with
  | true, true => len
  | true, false => h.toNat
  | false, true => len - l.toNat
  | false, false => h.toNat - l.toNat
def subOff (o : Nat) (lo : Bool) (l : Int) : Nat := cond lo o (l.toNat + o)

def tmin : List (TV A) → TV A → Option (TV A)
  | [], x => some x
  | .int _ y :: r, .int k x => tmin r (.int k (min x y))
  | _, _ => none
def tmax : List (TV A) → TV A → Option (TV A)
  | [], x => some x
  | .int _ y :: r, .int k x => tmax r (.int k (max x y))
  | _, _ => none

theorem tmin_emb : ∀ (l : List (TV A)) (x v : TV A), tmin l x = some v → lmin (l.map (emb R)) (emb R x) = some (emb R v) := by
  intro l
  induction l with
  | nil => intro x v h; obtain rfl := Option.some.inj h; rfl
  | cons y r ih =>
    intro x v h
    cases y <;> cases x <;> simp only [tmin, reduceCtorEq] at h
    rename_i k' y k x
    have := ih _ _ h
    have e : min x y = (if y < x then y else x) := by
      rcases Int.lt_or_le y x with h | h
      · rw [if_pos h]; omega
      · rw [if_neg (by omega)]; omega
    rw [e] at this
    simpa only [List.map_cons, emb, lmin] using this
theorem tmax_emb : ∀ (l : List (TV A)) (x v : TV A), tmax l x = some v → lmax (l.map (emb R)) (emb R x) = some (emb R v) := by
  intro l
  induction l with
  | nil => intro x v h; obtain rfl := Option.some.inj h; rfl
  | cons y r ih =>
    intro x v h
    cases y <;> cases x <;> simp only [tmax, reduceCtorEq] at h
    rename_i k' y k x
    have := ih _ _ h
    have e : max x y = (if x < y then y else x) := by
      rcases Int.lt_or_le x y with h | h
      · rw [if_pos h]; omega
      · rw [if_neg (by omega)]; omega
    rw [e] at this
    simpa only [List.map_cons, emb, lmax] using this

def tput (cs : List (TV A)) (o : Nat) : List (TV A) → List (TV A)
  | [d] => cs.set o d
  | ds => cs.take o ++ ds ++ cs.drop (o + ds.length)

theorem tput_emb (cs : List (TV A)) (o : Nat) (ds : List (TV A)) : embC R (tput cs o ds) = putC (embC R cs) o (embC R ds) := by
  unfold tput putC
  split
  · simp only [embC, embC_eq, List.map_set]
  · rename_i hne
    split
    · rename_i d hd
      exfalso
      have : ds.length = 1 := by rw [← embC_length R, hd]; rfl
      match ds, this with
      | [x], _ => exact hne x rfl
    · simp only [putCells, embC_append, embC_take, embC_drop, embC_length]

def tfill (place : Nat → Option (Nat × Nat)) (cells : List (TV A)) : List (Nat × TV A) → Option (List (TV A))
  | [] => some cells
  | (i, v) :: rest =>
    match place i, tcells v with
    | some (off, size), some cs => cond (Nat.beq cs.length size && Nat.ble (off + cs.length) cells.length) (tfill place (cells.take off ++ cs ++ cells.drop (off + cs.length)) rest) none
    | _, _ => none

theorem tfill_emb (place : Nat → Option (Nat × Nat)) : ∀ (ps : List (Nat × TV A)) (cells r : List (TV A)), tfill place cells ps = some r → lfill place (embC R cells) (ps.map fun p => (p.1, emb R p.2)) = some (embC R r) := by
  intro ps
  induction ps with
  | nil => intro cells r h; obtain rfl := Option.some.inj h; rfl
  | cons p ps ih =>
    intro cells r h
    obtain ⟨i, v⟩ := p
    simp only [tfill] at h
    split at h
    · rename_i off size cs hp hc
      cases hb : Nat.beq cs.length size && Nat.ble (off + cs.length) cells.length with
      | false => rw [hb] at h; cases h
      | true =>
        rw [hb] at h
        simp only [Bool.and_eq_true] at hb
        have e1 := Nat.eq_of_beq_eq_true hb.1
        have e2 := Nat.le_of_ble_eq_true hb.2
        simp only [List.map_cons, lfill, hp, tcells_emb R hc]
        rw [if_neg (by rw [embC_length, embC_length]; omega)]
        have := ih _ _ h
        rw [embC_append, embC_append, embC_take, embC_drop] at this
        simp only [putCells, embC_length]
        exact this
    · cases h

/-- The part of a list from o on, of length m. -/
def cut {α : Type} (xs : List α) (o m : Nat) : List α := match o with
  | 0 => xs.take m
  | o + 1 => (xs.drop (o + 1)).take m

theorem cut_eq {α : Type} (xs : List α) (o m : Nat) : cut xs o m = (xs.drop o).take m := by
  cases o <;> rfl
theorem cut_length {α : Type} {xs : List α} {o m : Nat} (h : o + m ≤ xs.length) : (cut xs o m).length = m := by
  rw [cut_eq, List.length_take, List.length_drop]; omega

def tbytes (H : TH A) : TV A → Option (List Prop × TV A)
  | .nils => some ([], .str (strOfNums []))
  | .lst e xs => (match R.byt e with | some f => cond (Nat.beq (R.sz e) 1) (some ([], .str (strOfNums (f xs)))) none | none => none)
  | .sla sz h o n => (match trow H h with
    | some (.arr e xs) => (match R.byt e with | some f => cond (Nat.beq sz 1 && Nat.beq (R.sz e) 1) (some ([o + n ≤ xs.length], .str (strOfNums (f (cut xs o n))))) none | none => none)
    | _ => none)
  | _ => none
/-- Values that are computed or read; what is asked. -/
def tval (τ : TT) (F : TF A) (H : TH A) (op : Op) : Option (List Prop × TV A) :=
  match op with
  | .move x => some ([], tO F x)
  | .assign x => some ([], tO F x)
  | .binOp o t x y u => (match tO F x, tO F y with
    | .int k a, .int k' b => tint o k a k' b
    | .str a, .str b => (match o with
      | .add => some ([((a.size + b.size : Nat) : Int) ≤ 9223372036854775807], .str (a ++ b))
      | o => gen R τ F (.binOp o t x y u))
    | _, _ => gen R τ F (.binOp o t x y u))
  | .unOp .neg t x => (match tO F x with
    | .int k n => some ((arith k (-n)).1, .int k (arith k (-n)).2)
    | _ => none)
  | .unOp .not t x => (match tO F x with
    | .bool b => some ([], .bool (!b))
    | _ => none)
  | .convert s d x => (match τ s, τ d, tO F x with
    | some _, some ⟨.int k, _, _, _⟩, .int _ n => some ((arith k n).1, .int k (arith k n).2)
    | some _, some ⟨.str, _, _, _⟩, .str b => some ([], .str b)
    | _, some ⟨.str, _, _, _⟩, y => cond (Nat.beq (τ.nilk s) 3) (tbytes R H y) none
    | _, _, _ => none)
  | .makeFunc (.func f) first cap => cond (Nat.beq first.size 0) (match cap.toList.map (tO F) with | [] => some ([], .fn f []) | c :: r => cond (undT c) none (some ([], .fn f (c :: r)))) (cond (Nat.beq cap.size 0) (some ([], .fn f (.und :: first.toList.map (tO F)))) none)
  | .extract x i => (match tO F x with
    | .tup vs => (match nth vs i with | some v => some ([], v) | none => none)
    | _ => none)
  | .nilCheck x => (match tO F x with
    | .ptr h o => some ([], .ptr h o)
    | .ptrE sz h i o => some ([], .ptrE sz h i o)
    | .pel cs => some ([], .pel cs)
    | .fn f cs => some ([], .fn f cs)
    | _ => none)
  | .fieldAddr s x f => (match τ s, tO F x with
    | some ⟨.struct fs, _, _, _⟩, .ptr h o => (match nth fs f with | some (off, size, _) => cond (Nat.beq size 0) none (some ([], .ptr h (o + off))) | none => none)
    | some ⟨.struct fs, _, _, _⟩, .ptrE sz h i o => (match nth fs f with | some (off, size, _) => cond (Nat.beq size 0) none (some ([], .ptrE sz h i (o + off))) | none => none)
    | some ⟨.struct fs, _, _, _⟩, .pel cs => (match nth fs f with | some (off, size, _) => cond (Nat.beq size 0) none (some ([], .pel (cs.drop off))) | none => none)
    | _, _ => none)
  | .field s x f => (match τ s, tO F x with
    | some ⟨.struct fs, _, _, _⟩, .agg cs => (match nth fs f with | some (off, size, agg) => (match tpart agg size cs off with | some v => some ([], v) | none => none) | none => none)
    | _, _ => none)
  | .indexAddr t x i => (match τ t, tO F x, tO F i with
    | some ⟨.slice esz _ _, _, _, _⟩, .lst e xs, .int _ m => cond (Nat.beq (R.sz e) esz) (some ([0 ≤ m ∧ m < xs.length], .pel (R.enc e (xs.getD m.toNat (R.d e))))) none
    | some ⟨.slice esz _ _, _, _, _⟩, .sla sz h o len, .int _ m => cond (Nat.beq sz esz) (some ([0 ≤ m ∧ m < len], .ptrE sz h (m.toNat + o) 0)) none
    | some ⟨.slice esz _ _, _, _, _⟩, .sl sz h o len, .int _ m => cond (Nat.beq sz esz) (some ([0 ≤ m ∧ m < len], .ptr h (o + m.toNat * sz))) none
    | some ⟨.arr m esz _, _, _, _⟩, .ptr h o, .int _ n => (match trow H h with
      | some (.arr e _) => cond (Nat.beq (R.sz e) esz && Nat.beq o 0) (some ([0 ≤ n ∧ n < m], .ptrE esz h n.toNat 0)) (some ([0 ≤ n ∧ n < m], .ptr h (o + n.toNat * esz)))
      | _ => some ([0 ≤ n ∧ n < m], .ptr h (o + n.toNat * esz)))
    | some ⟨.arr m esz _, _, _, _⟩, .ptrE sz h i o, .int _ n => some ([0 ≤ n ∧ n < m], .ptrE sz h i (o + n.toNat * esz))
    | some ⟨.arr m esz _, _, _, _⟩, .pel cs, .int _ n => some ([0 ≤ n ∧ n < m], .pel (cs.drop (n.toNat * esz)))
    | _, _, _ => none)
  | .index t x i => (match τ t, tO F x, tO F i with
    | some ⟨.arr m esz eagg, _, _, _⟩, .agg cs, .int _ n => (match tpart eagg esz cs (n.toNat * esz) with | some v => some ([0 ≤ n ∧ n < m], v) | none => none)
    | some ⟨.str, _, _, _⟩, .str s, .int _ n => some ([0 ≤ n ∧ n < s.size], .int .u8 (sat s n.toNat))
    | _, _, _ => none)
  | .build t ps => (match τ t with
    | some ⟨.struct fs, _, _, z⟩ => cond (flatL z) (match tfill (fun i => (nth fs i).map fun f => (f.1, f.2.1)) (upL z) (ps.toList.map fun p => (p.1, tO F p.2)) with | some cs => some ([], .agg cs) | none => none) none
    | some ⟨.arr n esz _, _, _, z⟩ => cond (flatL z) (match tfill (fun i => some (i * esz, esz)) (upL z) (ps.toList.map fun p => (p.1, tO F p.2)) with | some cs => some ([], .agg cs) | none => none) none
    | _ => none)
  | .slice t x lo hi none => (match τ t, tO F x with
    | some ⟨.slice esz _ _, _, _, _⟩, .lst e xs => (match loI F lo, hiI F xs.length hi with
      | some l, some h => cond (Nat.beq (R.sz e) esz) (some ([0 ≤ l ∧ l ≤ h ∧ h ≤ xs.length], .lst e (sub xs (isN lo) (isN hi) l h))) none
      | _, _ => none)
    | some ⟨.slice esz _ _, _, _, _⟩, .sla sz r o len => (match loI F lo, hiI F len hi with
      | some l, some h => cond (Nat.beq sz esz) (some ([0 ≤ l ∧ l ≤ h ∧ h ≤ len], .sla sz r (subOff o (isN lo) l) (subLen len (isN lo) (isN hi) l h))) none
      | _, _ => none)
    | some ⟨.slice esz _ _, _, _, _⟩, .nils => (match loI F lo, hiI F (0 : Nat) hi with
      | some l, some h => some ([0 ≤ l ∧ l ≤ h ∧ h ≤ 0], .nils)
      | _, _ => none)
    | some ⟨.str, _, _, _⟩, .str s => (match loI F lo, hiI F s.size hi with
      | some l, some h => some ([0 ≤ l ∧ l ≤ h ∧ h ≤ s.size], .str (s.extract l.toNat h.toNat))
      | _, _ => none)
    | some ⟨.arr m esz _, _, _, _⟩, .ptr q o => (match loI F lo, hiI F m hi with
      | some l, some h => (match trow H q with
        | some (.arr e xs) => cond (Nat.beq (R.sz e) esz && Nat.beq o 0) (some ([0 ≤ l ∧ l ≤ h ∧ h ≤ m, l < m, m ≤ xs.length], .sla esz q (subOff 0 (isN lo) l) (subLen m (isN lo) (isN hi) l h))) none
        | some (.cells cs) => cond (Nat.ble (o + m * esz) cs.length) (some ([0 ≤ l ∧ l ≤ h ∧ h ≤ m, l < m], .sl esz q (o + l.toNat * esz) (h.toNat - l.toNat))) none
        | none => none)
      | _, _ => none)
    | some ⟨.arr m esz _, _, _, _⟩, .pel cs => (match lo, hi, R.el t with
      | none, none, some e => cond (Nat.beq (R.sz e) esz && Nat.beq cs.length (m * esz) && Nat.blt 0 m) (match decAll R e m cs with
        | some xs => some ([], .lst e xs)
        | none => none) none
      | _, _, _ => none)
    | _, _ => none)
  | .call ⟨.builtin .len, args, tys⟩ => (match tys[0]?, args[0]? with
    | some t, some x => (match τ t, tO F x with
      | some ⟨.str, _, _, _⟩, .str s => some ([], .int .i64 s.size)
      | some ⟨.slice _ _ _, _, _, _⟩, .lst e xs => some ([], .int .i64 xs.length)
      | some ⟨.slice _ _ _, _, _, _⟩, .sla _ _ _ n => some ([], .int .i64 n)
      | some ⟨.slice _ _ _, _, _, _⟩, .sl _ _ _ n => some ([], .int .i64 n)
      | some ⟨.slice _ _ _, _, _, _⟩, .nils => some ([], .int .i64 (0 : Nat))
      | some ⟨.arr n _ _, _, _, _⟩, _ => some ([], .int .i64 n)
      | _, _ => none)
    | _, _ => none)
  | .call ⟨.builtin .min, args, _⟩ => (match args.toList.map (tO F) with
    | x :: r => (match tmin r x with | some v => some ([], v) | none => none)
    | [] => none)
  | .call ⟨.builtin .max, args, _⟩ => (match args.toList.map (tO F) with
    | x :: r => (match tmax r x with | some v => some ([], v) | none => none)
    | [] => none)
  | .load t x => (match τ t, tO F x with
    | some ti, .ptr h o => (match trow H h with
      | some (.cells cs) => (match tpart ti.agg ti.size cs o with | some v => some ([], v) | none => none)
      | _ => none)
    | some ti, .ptrE sz h i o => (match trow H h with
      | some (.arr e xs) => cond (Nat.beq sz (R.sz e)) (match tpart ti.agg ti.size (R.enc e (xs.getD i (R.d e))) o with | some v => some ([i < xs.length], v) | none => none) none
      | _ => none)
    | some ti, .pel cs => (match tpart ti.agg ti.size cs 0 with | some v => some ([], v) | none => none)
    | _, _ => none)
  | .pick c (.const (.bool true)) b => (match tO F c, tO F b with
    | .bool p, .bool q => some ([], .bool (p || q))
    | .bool p, .opt g (.bool q) => some ([p = false → g = true], .bool (p || q))
    | .bool p, .und => some ([p = true], .bool true)
    | _, _ => none)
  | .pick c a (.const (.bool false)) => (match tO F c, tO F a with
    | .bool p, .bool q => some ([], .bool (p && q))
    | .bool p, .opt g (.bool q) => some ([p = true → g = true], .bool (p && q))
    | .bool p, .und => some ([p = false], .bool false)
    | _, _ => none)
  | op => gen R τ F op

end
end Go.Lite

/- Lite, part TD: values that are computed or read are as tval says. -/
namespace Go.Lite
open Go Go.RowKit
set_option linter.unusedVariables false

section
variable {A : Nat → Type} {R : Reg A}

theorem valP_pure {τ : TT} {F : Fr} {H : Hp} {op : Op} {x : LV} (h : pureOp τ F op = some x) : valP τ F H op = some x := by unfold valP; rw [h]
theorem valP_load {τ : TT} {F : Fr} {H : Hp} {t : TypeId} {a : Operand} {x : LV} (h : loadOp τ F H (.load t a) = some x) : valP τ F H (.load t a) = some x := h

theorem embL_eq (F : TF A) (l : List Operand) : l.map (evalO (embF R F)) = embC R (l.map (tO F)) := by
  rw [embC_eq, List.map_map]
  exact List.map_congr_left fun o _ => evalO_emb R F o

theorem parts_emb (F : TF A) (ps : List (Nat × Operand)) : (ps.map fun p => (p.1, evalO (embF R F) p.2)) = (ps.map fun p => (p.1, tO F p.2)).map fun p => (p.1, emb R p.2) := by
  rw [List.map_map]
  exact List.map_congr_left fun p _ => by simp [evalO_emb R F]

theorem subs_eq {F : TF A} {lo hi : Option Operand} {l h : Int} {o len : Nat} (h1 : loI F lo = some l) (h2 : hiI F len hi = some h) (h3 : 0 ≤ l ∧ l ≤ h ∧ h ≤ len) :
    subOff o (isN lo) l = l.toNat + o ∧ subLen len (isN lo) (isN hi) l h = h.toNat - l.toNat := by
  cases lo with
  | none =>
    obtain rfl := Option.some.inj h1
    cases hi with
    | none =>
      obtain rfl := Option.some.inj h2
      exact ⟨by simp [subOff, isN], by simp [subLen, isN]⟩
    | some o' => exact ⟨by simp [subOff, isN], by simp [subLen, isN]⟩
  | some o' =>
    cases hi with
    | none =>
      obtain rfl := Option.some.inj h2
      exact ⟨by simp [subOff, isN], by simp [subLen, isN]⟩
    | some o'' => exact ⟨by simp [subOff, isN], by simp [subLen, isN]⟩

theorem tbytes_ok (hR : R.Ok) {τ : TT} {F : TF A} {H : TH A} {s d : TypeId} {x : Operand} {sz : Nat} {ag : Bool} {z : List LV} {cs : List Prop} {v : TV A} (hno : ∀ (val : TI) (b : ByteArray), τ.ti s = some val → tO F x = .str b → False) (hk : Nat.beq (τ.nilk s) 3 = true) (h2 : τ d = some ⟨.str, sz, ag, z⟩)
    (h : tbytes R H (tO F x) = some (cs, v)) (hc : Conj cs) : valP τ (embF R F) (embH R H) (.convert s d x) = some (emb R v) := by
  have E := evalO_emb R F
  have hp : pureOp τ (embF R F) (.convert s d x) = none := by
    simp only [pureOp, E, h2]
    split
    · rename_i e _; simp at e
    · rename_i b e1 e2 e3
      exfalso
      cases hx : tO F x <;> rw [hx] at e3 h <;> simp only [emb, reduceCtorEq] at e3
      · exact hno _ _ (by assumption) hx
      · simp [tbytes] at h
    · rfl
  have fin : ∀ ns, bytesAt (embH R H) (emb R (tO F x)) = some ns → valP τ (embF R F) (embH R H) (.convert s d x) = some (.str (strOfNums ns)) := fun ns hb => by
    unfold valP
    rw [hp]
    simp only [loadOp, hk, if_true, h2, E, hb]
  have by1 : ∀ {e : Nat} {f : List (A e) → List Int} (xs : List (A e)), R.byt e = some f → u8s (xs.flatMap (R.encL e)) = some (f xs) := fun xs hf => by rw [hR.byt _ _ hf, u8s_map]
  unfold tbytes at h
  split at h
  · rename_i hx
    simp only [Option.some.injEq, Prod.mk.injEq] at h
    obtain ⟨_, rfl⟩ := h
    exact fin [] (by rw [hx]; rfl)
  · rename_i e xs hx
    split at h
    · rename_i f hf
      cases hb : Nat.beq (R.sz e) 1 with
      | false => rw [hb] at h; cases h
      | true =>
        rw [hb] at h
        simp only [cond_true, Option.some.injEq, Prod.mk.injEq] at h
        obtain ⟨_, rfl⟩ := h
        refine fin (f xs) ?_
        rw [hx]
        simp only [emb, bytesAt, Nat.eq_of_beq_eq_true hb, if_true]
        exact by1 xs hf
    · cases h
  · rename_i sz' h' o n hx
    split at h
    · rename_i e xs hr
      split at h
      · rename_i f hf
        cases hb : Nat.beq sz' 1 && Nat.beq (R.sz e) 1 with
        | false => rw [hb] at h; cases h
        | true =>
          rw [hb] at h
          simp only [cond_true, Option.some.injEq, Prod.mk.injEq] at h
          obtain ⟨rfl, rfl⟩ := h
          rw [Bool.and_eq_true] at hb
          obtain ⟨c1, _⟩ := hc
          have hz := Nat.eq_of_beq_eq_true hb.1
          have hre := Nat.eq_of_beq_eq_true hb.2
          refine fin _ ?_
          rw [hx]
          subst hz
          have hl : ∀ a, (R.encL e a).length = 1 := fun a => by rw [hR.len, hre]
          simp only [emb, bytesAt, if_true, row_emb R hr, embR, Nat.mul_one]
          rw [if_pos (by rw [fm_length hl]; omega)]
          have d1 := fm_drop hl o xs
          have d2 := fm_take hl n (xs.drop o)
          rw [Nat.mul_one] at d1 d2
          rw [d1, d2, cut_eq]
          exact by1 _ hf
      · cases h
    · cases h
  · cases h

theorem tval_ok (hR : R.Ok) {τ : TT} {F : TF A} {H : TH A} {op : Op} {cs : List Prop} {v : TV A} (h : tval R τ F H op = some (cs, v)) (hc : Conj cs) : valP τ (embF R F) (embH R H) op = some (emb R v) := by
  have hg : ∀ {op : Op}, gen R τ F op = some (cs, v) → valP τ (embF R F) (embH R H) op = some (emb R v) := fun h => valP_pure (gen_ok R h)
  have E := evalO_emb R F
  unfold tval at h
  split at h
  · simp only [Option.some.injEq, Prod.mk.injEq] at h
    obtain ⟨_, rfl⟩ := h
    exact valP_pure (by simp only [pureOp, E])
  · simp only [Option.some.injEq, Prod.mk.injEq] at h
    obtain ⟨_, rfl⟩ := h
    exact valP_pure (by simp only [pureOp, E])
  · split at h
    · rename_i k a k' b hx hy
      refine valP_pure ?_
      simp only [pureOp, E, hx, hy, emb]
      have := tint_ok R h hc
      unfold lbinT
      exact this
    · rename_i a b hx hy
      split at h
      · simp only [Option.some.injEq, Prod.mk.injEq] at h
        obtain ⟨rfl, rfl⟩ := h
        refine valP_pure ?_
        simp only [pureOp, E, hx, hy, emb]
        unfold lbinT
        simp only [lbin]
        rw [if_neg (by have := hc.1; have e : IntKind.max .i64 = 9223372036854775807 := rfl; rw [e]; omega)]
      · exact hg h
    · exact hg h
  · split at h
    · rename_i k n hx
      simp only [Option.some.injEq, Prod.mk.injEq] at h
      obtain ⟨rfl, rfl⟩ := h
      refine valP_pure ?_
      simp only [pureOp, E, hx, emb, lun]
      rw [show (0 : Int) - n = -n by omega, arith_ok hc]
    · cases h
  · split at h
    · rename_i b hx
      simp only [Option.some.injEq, Prod.mk.injEq] at h
      obtain ⟨rfl, rfl⟩ := h
      exact valP_pure (by simp only [pureOp, E, hx, emb, lun])
    · cases h
  · split at h
    · rename_i ti k sz ag z k0 n h1 h2 hx
      simp only [Option.some.injEq, Prod.mk.injEq] at h
      obtain ⟨rfl, rfl⟩ := h
      refine valP_pure ?_
      simp only [pureOp, E, h1, h2, hx, emb]
      rw [arith_ok hc]
    · rename_i ti sz ag z b h1 h2 hx
      simp only [Option.some.injEq, Prod.mk.injEq] at h
      obtain ⟨rfl, rfl⟩ := h
      exact valP_pure (by simp only [pureOp, E, h1, h2, hx, emb])
    · rename_i y sz ag z h2 hno
      cases hk : Nat.beq (τ.nilk _) 3 with
      | false => rw [hk] at h; cases h
      | true =>
        rw [hk] at h
        simp only [cond_true] at h
        exact tbytes_ok hR hno hk h2 h hc
    · cases h
  · rename_i f first cap
    cases hb : Nat.beq first.size 0 with
    | false =>
      rw [hb] at h
      simp only [cond_false] at h
      cases hb2 : Nat.beq cap.size 0 with
      | false => rw [hb2] at h; cases h
      | true =>
        rw [hb2] at h
        simp only [cond_true, Option.some.injEq, Prod.mk.injEq] at h
        obtain ⟨_, rfl⟩ := h
        refine valP_pure ?_
        simp only [pureOp]
        rw [if_neg (fun e => by rw [e] at hb; cases hb), if_pos (Nat.eq_of_beq_eq_true hb2), embL_eq]; rfl
    | true =>
      rw [hb] at h
      simp only [cond_true] at h
      generalize hcs : cap.toList.map (tO F) = cs0 at h
      have hu : isUnd (embC R cs0) = false ∧ v = .fn f cs0 := by
        cases cs0 with
        | nil =>
          simp only [Option.some.injEq, Prod.mk.injEq] at h
          exact ⟨rfl, h.2.symm⟩
        | cons c r =>
          dsimp only at h
          cases hc : undT c with
          | true => rw [hc] at h; cases h
          | false =>
            rw [hc] at h
            simp only [cond_false, Option.some.injEq, Prod.mk.injEq] at h
            exact ⟨undT_emb hc, h.2.symm⟩
      obtain ⟨hu, rfl⟩ := hu
      refine valP_pure ?_
      simp only [pureOp]
      rw [if_pos (Nat.eq_of_beq_eq_true hb), embL_eq, hcs, if_pos hu]; rfl
  · split at h
    · rename_i vs hx
      split at h
      · rename_i w hw
        simp only [Option.some.injEq, Prod.mk.injEq] at h
        obtain ⟨_, rfl⟩ := h
        refine valP_pure ?_
        simp only [pureOp, E, hx, emb]
        rw [nth_eq] at hw
        rw [embC_get, hw]; rfl
      · cases h
    · cases h
  · split at h
    all_goals first | (cases h; done) | skip
    all_goals
      rename_i hx
      simp only [Option.some.injEq, Prod.mk.injEq] at h
      obtain ⟨_, rfl⟩ := h
      exact valP_pure (by simp only [pureOp, E, hx, emb])
  · split at h
    · rename_i fs sz ag z r o h1 hx
      split at h
      · rename_i off size g hf
        cases hb : Nat.beq size 0 with
        | true => rw [hb] at h; cases h
        | false =>
          rw [hb] at h
          simp only [cond_false, Option.some.injEq, Prod.mk.injEq] at h
          obtain ⟨_, rfl⟩ := h
          rw [nth_eq] at hf
          refine valP_pure ?_
          simp only [pureOp, E, h1, hx, emb, hf]
          rw [if_neg (fun e => by subst e; simp at hb)]
      · cases h
    · rename_i fs sz ag z esz r i o h1 hx
      split at h
      · rename_i off size g hf
        cases hb : Nat.beq size 0 with
        | true => rw [hb] at h; cases h
        | false =>
          rw [hb] at h
          simp only [cond_false, Option.some.injEq, Prod.mk.injEq] at h
          obtain ⟨_, rfl⟩ := h
          rw [nth_eq] at hf
          refine valP_pure ?_
          simp only [pureOp, E, h1, hx, emb, hf]
          rw [if_neg (fun e => by subst e; simp at hb), Nat.add_assoc]
      · cases h
    · rename_i fs sz ag z ds h1 hx
      split at h
      · rename_i off size g hf
        cases hb : Nat.beq size 0 with
        | true => rw [hb] at h; cases h
        | false =>
          rw [hb] at h
          simp only [cond_false, Option.some.injEq, Prod.mk.injEq] at h
          obtain ⟨_, rfl⟩ := h
          rw [nth_eq] at hf
          refine valP_pure ?_
          simp only [pureOp, E, h1, hx, emb, hf]
          rw [if_neg (fun e => by subst e; simp at hb), embC_drop]
      · cases h
    · cases h
  · split at h
    · rename_i fs sz ag z ds h1 hx
      split at h
      · rename_i off size g hf
        split at h
        · rename_i w hw
          simp only [Option.some.injEq, Prod.mk.injEq] at h
          obtain ⟨_, rfl⟩ := h
          rw [nth_eq] at hf
          refine valP_pure ?_
          simp only [pureOp, E, h1, hx, emb, hf]
          exact tpart_emb R hw
        · cases h
      · cases h
    · cases h
  · -- indexAddr
    split at h
    · rename_i esz eb ez sz ag z e xs k m h1 hx hi
      cases hb : Nat.beq (R.sz e) esz with
      | false => rw [hb] at h; cases h
      | true =>
        rw [hb] at h
        simp only [cond_true, Option.some.injEq, Prod.mk.injEq] at h
        obtain ⟨rfl, rfl⟩ := h
        obtain ⟨⟨c1, c2⟩, _⟩ := hc
        have he := Nat.eq_of_beq_eq_true hb
        have hm : m.toNat < xs.length := by omega
        refine valP_pure ?_
        simp only [pureOp, E, h1, hx, hi, emb]
        rw [if_pos ⟨he, c1, c2⟩]
        obtain ⟨s1, s2⟩ := fm_split (hR.len e) hm
        rw [s1, List.drop_append, List.drop_eq_nil_of_le (by rw [s2]; exact Nat.le_refl _), List.nil_append, s2, Nat.sub_self, List.drop_zero, List.take_append, hR.len, Nat.sub_self, List.take_zero, List.append_nil,
          List.take_of_length_le (by rw [hR.len]; exact Nat.le_refl _), hR.ok, getD_get _ hm]
    · rename_i esz eb ez sz ag z ss r o len k m h1 hx hi
      cases hb : Nat.beq ss esz with
      | false => rw [hb] at h; cases h
      | true =>
        rw [hb] at h
        simp only [cond_true, Option.some.injEq, Prod.mk.injEq] at h
        obtain ⟨rfl, rfl⟩ := h
        obtain ⟨⟨c1, c2⟩, _⟩ := hc
        refine valP_pure ?_
        simp only [pureOp, E, h1, hx, hi, emb]
        rw [if_pos ⟨Nat.eq_of_beq_eq_true hb, c1, c2⟩, Nat.add_zero, Nat.add_mul, Nat.add_comm]
    · rename_i esz eb ez sz ag z ss r o len k m h1 hx hi
      cases hb : Nat.beq ss esz with
      | false => rw [hb] at h; cases h
      | true =>
        rw [hb] at h
        simp only [cond_true, Option.some.injEq, Prod.mk.injEq] at h
        obtain ⟨rfl, rfl⟩ := h
        obtain ⟨⟨c1, c2⟩, _⟩ := hc
        refine valP_pure ?_
        simp only [pureOp, E, h1, hx, hi, emb]
        rw [if_pos ⟨Nat.eq_of_beq_eq_true hb, c1, c2⟩]
    · rename_i m esz g sz ag z r o k n h1 hx hi
      refine valP_pure ?_
      cases hr : trow H r with
      | none =>
        rw [hr] at h
        simp only [Option.some.injEq, Prod.mk.injEq] at h
        obtain ⟨rfl, rfl⟩ := h
        simp only [pureOp, E, h1, hx, hi, emb]
        rw [if_pos hc.1]
      | some rw0 =>
        cases rw0 with
        | cells ds =>
          rw [hr] at h
          simp only [Option.some.injEq, Prod.mk.injEq] at h
          obtain ⟨rfl, rfl⟩ := h
          simp only [pureOp, E, h1, hx, hi, emb]
          rw [if_pos hc.1]
        | arr e ys =>
          rw [hr] at h
          simp only at h
          cases hb : Nat.beq (R.sz e) esz && Nat.beq o 0 with
          | false =>
            rw [hb] at h
            simp only [cond_false, Option.some.injEq, Prod.mk.injEq] at h
            obtain ⟨rfl, rfl⟩ := h
            simp only [pureOp, E, h1, hx, hi, emb]
            rw [if_pos hc.1]
          | true =>
            rw [hb] at h
            simp only [cond_true, Option.some.injEq, Prod.mk.injEq] at h
            obtain ⟨rfl, rfl⟩ := h
            simp only [Bool.and_eq_true] at hb
            have ho := Nat.eq_of_beq_eq_true hb.2
            simp only [pureOp, E, h1, hx, hi, emb]
            rw [if_pos hc.1, ho, Nat.zero_add, Nat.add_zero]
    · rename_i m esz g sz ag z ss r i o k n h1 hx hi
      simp only [Option.some.injEq, Prod.mk.injEq] at h
      obtain ⟨rfl, rfl⟩ := h
      obtain ⟨c1, _⟩ := hc
      refine valP_pure ?_
      simp only [pureOp, E, h1, hx, hi, emb]
      rw [if_pos c1, Nat.add_assoc]
    · rename_i m esz g sz ag z ds k n h1 hx hi
      simp only [Option.some.injEq, Prod.mk.injEq] at h
      obtain ⟨rfl, rfl⟩ := h
      obtain ⟨c1, _⟩ := hc
      refine valP_pure ?_
      simp only [pureOp, E, h1, hx, hi, emb]
      rw [if_pos c1, embC_drop]
    · cases h
  · -- index
    split at h
    · rename_i m esz g sz ag z ds k n h1 hx hi
      split at h
      · rename_i w hw
        simp only [Option.some.injEq, Prod.mk.injEq] at h
        obtain ⟨rfl, rfl⟩ := h
        obtain ⟨c1, _⟩ := hc
        refine valP_pure ?_
        simp only [pureOp, E, h1, hx, hi, emb]
        rw [if_pos c1]
        exact tpart_emb R hw
      · cases h
    · rename_i sz ag z s k n h1 hx hi
      simp only [Option.some.injEq, Prod.mk.injEq] at h
      obtain ⟨rfl, rfl⟩ := h
      obtain ⟨⟨c1, c2⟩, _⟩ := hc
      obtain ⟨e1, e2⟩ := sat_eq (s := s) (i := n.toNat) (by omega)
      refine valP_pure ?_
      simp only [pureOp, E, h1, hx, hi, emb]
      rw [if_pos c1, e1]
      simp only [e2]
    · cases h
  · -- build
    split at h
    · rename_i fs sz ag z h1
      cases hf : flatL z with
      | false => rw [hf] at h; cases h
      | true =>
        rw [hf] at h
        simp only [cond_true] at h
        split at h
        · rename_i ds hd
          simp only [Option.some.injEq, Prod.mk.injEq] at h
          obtain ⟨_, rfl⟩ := h
          refine valP_pure ?_
          have := tfill_emb R _ _ _ _ hd
          rw [embC_up R z hf] at this
          simp only [nth_eq] at this
          simp only [pureOp, h1, parts_emb (R := R), this]
          rfl
        · cases h
    · rename_i n esz g sz ag z h1
      cases hf : flatL z with
      | false => rw [hf] at h; cases h
      | true =>
        rw [hf] at h
        simp only [cond_true] at h
        split at h
        · rename_i ds hd
          simp only [Option.some.injEq, Prod.mk.injEq] at h
          obtain ⟨_, rfl⟩ := h
          refine valP_pure ?_
          have := tfill_emb R _ _ _ _ hd
          rw [embC_up R z hf] at this
          simp only [pureOp, h1, parts_emb (R := R), this]
          rfl
        · cases h
    · cases h
  · -- slice
    split at h
    · rename_i esz eb ez sz ag z e xs h1 hx
      split at h
      · rename_i l r hl hr
        cases hb : Nat.beq (R.sz e) esz with
        | false => rw [hb] at h; cases h
        | true =>
          rw [hb] at h
          simp only [cond_true, Option.some.injEq, Prod.mk.injEq] at h
          obtain ⟨rfl, rfl⟩ := h
          obtain ⟨c1, _⟩ := hc
          obtain ⟨s1, s2⟩ := sub_eq hl hr c1
          refine valP_pure ?_
          simp only [pureOp, E, h1, hx, emb]
          rw [if_neg (by rw [Nat.eq_of_beq_eq_true hb]; simp)]
          unfold sliceBnds
          rw [loI_emb R hl, hiI_emb R hr]
          simp only
          rw [if_pos c1]
          simp only [Option.some.injEq, LV.ps.injEq, true_and]
          rw [s2, s1]
          refine ⟨rfl, ?_⟩
          rw [fm_drop (hR.len e), fm_take (hR.len e)]
      · cases h
    · rename_i esz eb ez sz ag z ss q o len h1 hx
      split at h
      · rename_i l r hl hr
        cases hb : Nat.beq ss esz with
        | false => rw [hb] at h; cases h
        | true =>
          rw [hb] at h
          simp only [cond_true, Option.some.injEq, Prod.mk.injEq] at h
          obtain ⟨rfl, rfl⟩ := h
          obtain ⟨c1, _⟩ := hc
          refine valP_pure ?_
          simp only [pureOp, E, h1, hx, emb]
          rw [if_neg (by rw [Nat.eq_of_beq_eq_true hb]; simp)]
          unfold sliceBnds
          rw [loI_emb R hl, hiI_emb R hr]
          simp only
          rw [if_pos c1]
          simp only [Option.some.injEq, LV.sl.injEq, true_and]
          obtain ⟨k1, k2⟩ := subs_eq (o := o) hl hr c1
          rw [k1, k2, Nat.add_mul]
          exact ⟨by omega, rfl⟩
      · cases h
    · rename_i esz eb ez sz ag z h1 hx
      split at h
      · rename_i l r hl hr
        simp only [Option.some.injEq, Prod.mk.injEq] at h
        obtain ⟨rfl, rfl⟩ := h
        obtain ⟨c1, _⟩ := hc
        refine valP_pure ?_
        simp only [pureOp, E, h1, hx, emb]
        unfold sliceBnds
        rw [loI_emb R hl, hiI_emb R hr]
        simp only
        rw [if_pos (by simpa using c1)]
      · cases h
    · rename_i sz ag z s h1 hx
      split at h
      · rename_i l r hl hr
        simp only [Option.some.injEq, Prod.mk.injEq] at h
        obtain ⟨rfl, rfl⟩ := h
        obtain ⟨c1, _⟩ := hc
        refine valP_pure ?_
        simp only [pureOp, E, h1, hx, emb]
        unfold sliceBnds
        rw [loI_emb R hl, hiI_emb R hr]
        simp only
        rw [if_pos c1]
      · cases h
    · rename_i m esz g sz ag z q o h1 hx
      split at h
      · rename_i l r hl hr
        unfold valP
        split
        · rename_i hy
          simp only [pureOp, E, h1, hx, emb] at hy
          cases hy
        cases hrow : trow H q with
        | none => rw [hrow] at h; cases h
        | some rw0 =>
          cases rw0 with
          | arr e xs =>
            rw [hrow] at h
            simp only at h
            cases hb : Nat.beq (R.sz e) esz && Nat.beq o 0 with
            | false => rw [hb] at h; cases h
            | true =>
              rw [hb] at h
              simp only [cond_true, Option.some.injEq, Prod.mk.injEq] at h
              obtain ⟨rfl, rfl⟩ := h
              obtain ⟨c1, c2, c3, _⟩ := hc
              simp only [Bool.and_eq_true] at hb
              have he := Nat.eq_of_beq_eq_true hb.1
              have ho := Nat.eq_of_beq_eq_true hb.2
              obtain ⟨k1, k2⟩ := subs_eq (o := 0) hl hr c1
              simp only [loadOp, E, h1, hx, emb, row_emb R hrow, embR]
              unfold sliceBnds
              rw [loI_emb R hl, hiI_emb R hr]
              simp only
              rw [if_pos c1]
              simp only
              rw [if_pos ⟨by rw [fm_length (hR.len e), he, ho, Nat.zero_add]; exact Nat.mul_le_mul_right _ c3, by omega⟩, k1, k2, ho, Nat.zero_add, Nat.add_zero]
          | cells cs' =>
            rw [hrow] at h
            simp only at h
            cases hb : Nat.ble (o + m * esz) cs'.length with
            | false => rw [hb] at h; cases h
            | true =>
              rw [hb] at h
              simp only [cond_true, Option.some.injEq, Prod.mk.injEq] at h
              obtain ⟨rfl, rfl⟩ := h
              obtain ⟨c1, c2, _⟩ := hc
              have hle := Nat.le_of_ble_eq_true hb
              simp only [loadOp, E, h1, hx, emb, row_emb R hrow, embR]
              unfold sliceBnds
              rw [loI_emb R hl, hiI_emb R hr]
              simp only
              rw [if_pos c1]
              simp only [embC_length]
              rw [if_pos ⟨hle, by omega⟩]
      · cases h
    · rename_i m esz g sz ag z cs1 h1 hx
      split at h
      · rename_i e he
        cases hb : Nat.beq (R.sz e) esz && Nat.beq cs1.length (m * esz) && Nat.blt 0 m with
        | false => rw [hb] at h; cases h
        | true =>
          rw [hb] at h
          simp only [cond_true] at h
          split at h
          · rename_i xs hd
            simp only [Option.some.injEq, Prod.mk.injEq] at h
            obtain ⟨_, rfl⟩ := h
            simp only [Bool.and_eq_true] at hb
            have b1 := Nat.eq_of_beq_eq_true hb.1.1
            have b2 := Nat.eq_of_beq_eq_true hb.1.2
            have b3 : 0 < m := by simpa using hb.2
            obtain ⟨d1, d2⟩ := decAll_ok R hR m cs1 xs (by rw [b1]; exact b2) hd
            unfold valP
            split
            · rename_i hy
              simp only [pureOp, E, h1, hx, emb] at hy
              cases hy
            · simp only [loadOp, E, h1, hx, emb, Option.map_none]
              have sb : sliceBnds m (none : Option LV) none = some (0, m) := by
                show (if (0 : Int) ≤ 0 ∧ (0 : Int) ≤ (m : Int) ∧ (m : Int) ≤ (m : Int) then some ((0 : Int).toNat, (m : Int).toNat) else none) = some (0, m)
                rw [if_pos ⟨by omega, by omega, by omega⟩, Int.toNat_natCast]; rfl
              rw [sb]
              simp only
              rw [if_pos ⟨by rw [embC_length, b2]; exact Nat.le_refl _, b3⟩, d1, d2, b1]
              have hl : (xs.flatMap (R.encL e)).length = m * esz := by rw [← d1, embC_length, b2]
              simp only [Nat.sub_zero, Nat.zero_mul, List.drop_zero]
              rw [List.take_of_length_le (by rw [hl]; exact Nat.le_refl _)]
          · cases h
      · cases h
    · cases h
  · -- len
    split at h
    · rename_i t x ht hx0
      split at h
      all_goals first | (cases h; done) | skip
      all_goals
        simp only [Option.some.injEq, Prod.mk.injEq] at h
        obtain ⟨rfl, rfl⟩ := h
        refine valP_pure ?_
        simp only [pureOp, ht, hx0, Option.bind_some, Option.map_some, E]
      all_goals first
        | (rename_i h1 hx; simp only [h1, hx, emb]; done)
        | (rename_i h1; simp only [h1, emb]; done)
        | (rename_i h1 _; simp only [h1, emb]; done)
        | (rename_i h1 hx; simp only [h1, hx, emb]; simp; done)
    · cases h
  · split at h
    · rename_i x r hl
      split at h
      · rename_i w hw
        simp only [Option.some.injEq, Prod.mk.injEq] at h
        obtain ⟨_, rfl⟩ := h
        refine valP_pure ?_
        simp only [pureOp, embL_eq (R := R), hl, embC, embC_eq]
        exact tmin_emb R _ _ _ hw
      · cases h
    · cases h
  · split at h
    · rename_i x r hl
      split at h
      · rename_i w hw
        simp only [Option.some.injEq, Prod.mk.injEq] at h
        obtain ⟨_, rfl⟩ := h
        refine valP_pure ?_
        simp only [pureOp, embL_eq (R := R), hl, embC, embC_eq]
        exact tmax_emb R _ _ _ hw
      · cases h
    · cases h
  · -- load
    refine valP_load ?_
    split at h
    · rename_i ti r o h1 hx
      split at h
      · rename_i ds hr
        split at h
        · rename_i w hw
          simp only [Option.some.injEq, Prod.mk.injEq] at h
          obtain ⟨_, rfl⟩ := h
          simp only [loadOp, E, h1, hx, emb, row_emb R hr, embR]
          exact tpart_emb R hw
        · cases h
      · cases h
    · rename_i ti ss r i o h1 hx
      split at h
      · rename_i e xs hr
        cases hb : Nat.beq ss (R.sz e) with
        | false => rw [hb] at h; cases h
        | true =>
          rw [hb] at h
          simp only [cond_true] at h
          split at h
          · rename_i w hw
            simp only [Option.some.injEq, Prod.mk.injEq] at h
            obtain ⟨rfl, rfl⟩ := h
            obtain ⟨c1, _⟩ := hc
            have he := Nat.eq_of_beq_eq_true hb
            simp only [loadOp, E, h1, hx, emb, row_emb R hr, embR]
            obtain ⟨s1, s2⟩ := fm_split (hR.len e) c1
            rw [s1, he, ← s2]
            refine lpart_mid ?_
            have := tpart_emb R hw
            rwa [hR.ok, getD_get _ c1] at this
          · cases h
      · cases h
    · rename_i ti ds h1 hx
      split at h
      · rename_i w hw
        simp only [Option.some.injEq, Prod.mk.injEq] at h
        obtain ⟨_, rfl⟩ := h
        simp only [loadOp, E, h1, hx, emb]
        exact tpart_emb R hw
      · cases h
    · cases h
  · -- pick, or
    split at h
    · rename_i p q hp hq
      simp only [Option.some.injEq, Prod.mk.injEq] at h
      obtain ⟨rfl, rfl⟩ := h
      refine valP_pure ?_
      simp only [pureOp, E, hp, hq, emb]
      cases p <;> simp [tO, constLV, scalarLV, upC, emb]
    · rename_i p g q hp hq
      simp only [Option.some.injEq, Prod.mk.injEq] at h
      obtain ⟨rfl, rfl⟩ := h
      refine valP_pure ?_
      simp only [pureOp, E, hp, hq, emb]
      cases p
      · have := hc.1 rfl; subst this; simp
      · simp [tO, constLV, scalarLV, upC, emb]
    · rename_i p hp hq
      simp only [Option.some.injEq, Prod.mk.injEq] at h
      obtain ⟨rfl, rfl⟩ := h
      obtain ⟨rfl, _⟩ := hc
      refine valP_pure ?_
      simp only [pureOp, E, hp, hq, emb]
      simp [tO, constLV, scalarLV, upC, emb]
    · cases h
  · -- pick, and
    split at h
    · rename_i p q hp hq
      simp only [Option.some.injEq, Prod.mk.injEq] at h
      obtain ⟨rfl, rfl⟩ := h
      refine valP_pure ?_
      simp only [pureOp, E, hp, hq, emb]
      cases p <;> simp [tO, constLV, scalarLV, upC, emb]
    · rename_i p g q hp hq
      simp only [Option.some.injEq, Prod.mk.injEq] at h
      obtain ⟨rfl, rfl⟩ := h
      refine valP_pure ?_
      simp only [pureOp, E, hp, hq, emb]
      cases p
      · simp [tO, constLV, scalarLV, upC, emb]
      · have := hc.1 rfl; subst this; simp
    · rename_i p hp hq
      simp only [Option.some.injEq, Prod.mk.injEq] at h
      obtain ⟨rfl, rfl⟩ := h
      obtain ⟨rfl, _⟩ := hc
      refine valP_pure ?_
      simp only [pureOp, E, hp, hq, emb]
      simp [tO, constLV, scalarLV, upC, emb]
    · cases h
  · exact hg h

end
end Go.Lite
set_option linter.unusedVariables false
set_option linter.unusedSimpArgs false

/- Lite, part TE: the operations that make or write memory, on typed values. -/
namespace Go.Lite
open Go Go.RowKit
set_option linter.unusedVariables false

section
variable {A : Nat → Type} (R : Reg A)

def tsolid : TV A → Bool
  | .dead | .und | .agg _ | .tup _ | .opt _ _ => false
  | _ => true

theorem tsolid_emb {v : TV A} (h : tsolid v = true) : solid (emb R v) = true := by
  cases v <;> simp [tsolid] at h <;> rfl

theorem tsolid_all {cs : List (TV A)} (h : cs.all tsolid = true) : (embC R cs).all solid = true := by
  rw [embC_eq, List.all_map, List.all_eq_true]
  exact fun x hx => tsolid_emb R (List.all_eq_true.1 h x hx)

def zerosT (n : Nat) (zs : List (TV A)) : List (TV A) := (List.replicate n zs).flatten

theorem zerosT_emb (n : Nat) {ez : List LV} (h : flatL ez = true) : embC R (zerosT n (upL ez)) = zerosL n ez := by
  have e : ∀ n, embC R (zerosT n (upL ez)) = (List.replicate n ez).flatten := by
    intro n
    induction n with
    | zero => rfl
    | succ n ih =>
      have : zerosT (n + 1) (upL (A := A) ez) = upL ez ++ zerosT n (upL ez) := by simp [zerosT, List.replicate_succ]
      rw [this, embC_append, ih, embC_up R ez h, List.replicate_succ, List.flatten_cons]
  rw [e]
  unfold zerosL
  split
  · rename_i z
    induction n with
    | zero => rfl
    | succ n ih => rw [List.replicate_succ, List.flatten_cons, ih, List.replicate_succ]; rfl
  · rfl

/-- The elements of a source of append or copy. -/
def tsrc (H : TH A) (t esz : Nat) : TV A → Option (List Prop × (Σ e, List (A e)))
  | .nils => (match R.el t with | some e => cond (Nat.beq (R.sz e) esz) (some ([], ⟨e, []⟩)) none | none => none)
  | .lst e ys => cond (Nat.beq (R.sz e) esz) (some ([], ⟨e, ys⟩)) none
  | .sla sz h o m => (match trow H h with
    | some (.arr e ys) => cond (Nat.beq (R.sz e) esz && Nat.beq sz esz) (some ([o + m ≤ ys.length], ⟨e, cut ys o m⟩)) none
    | _ => none)
  | _ => none

theorem tsrc_ok (hR : R.Ok) {H : TH A} {t esz : Nat} {y : TV A} {cs : List Prop} {p : Σ e, List (A e)} (h : tsrc R H t esz y = some (cs, p)) (hc : Conj cs) :
    R.sz p.1 = esz ∧ srcCells (embH R H) esz (emb R y) = some (p.2.length, p.2.flatMap (R.encL p.1)) := by
  unfold tsrc at h
  split at h
  · split at h
    · rename_i e he
      cases hb : Nat.beq (R.sz e) esz with
      | false => rw [hb] at h; cases h
      | true =>
        rw [hb] at h
        simp only [cond_true, Option.some.injEq, Prod.mk.injEq] at h
        obtain ⟨_, rfl⟩ := h
        exact ⟨Nat.eq_of_beq_eq_true hb, rfl⟩
    · cases h
  · rename_i e ys
    cases hb : Nat.beq (R.sz e) esz with
    | false => rw [hb] at h; cases h
    | true =>
      rw [hb] at h
      simp only [cond_true, Option.some.injEq, Prod.mk.injEq] at h
      obtain ⟨_, rfl⟩ := h
      refine ⟨Nat.eq_of_beq_eq_true hb, ?_⟩
      simp only [emb, srcCells]
      rw [if_pos (Nat.eq_of_beq_eq_true hb)]
  · rename_i sz r o m
    split at h
    · rename_i e ys hr
      cases hb : Nat.beq (R.sz e) esz && Nat.beq sz esz with
      | false => rw [hb] at h; cases h
      | true =>
        rw [hb] at h
        simp only [Bool.and_eq_true] at hb
        simp only [cond_true, Option.some.injEq, Prod.mk.injEq] at h
        obtain ⟨rfl, rfl⟩ := h
        have e1 := Nat.eq_of_beq_eq_true hb.1
        have e2 := Nat.eq_of_beq_eq_true hb.2
        obtain ⟨c1, _⟩ := hc
        refine ⟨e1, ?_⟩
        simp only [emb, srcCells, row_emb R hr, embR]
        rw [if_pos e2, if_pos]
        · simp only [cut_length c1, Option.some.injEq, Prod.mk.injEq, true_and]
          rw [cut_eq, ← fm_take (hR.len e), ← fm_drop (hR.len e), e1, e2]
        · rw [fm_length (hR.len e), e1, e2, ← Nat.add_mul]
          exact Nat.mul_le_mul_right _ c1
    · cases h
  · cases h

/-- The element of a new slice, if it is a plain one. -/
def tmk (t esz : Nat) (zs : List (TV A)) : Option (Σ e, A e) :=
  match R.el t with
  | some e => cond (Nat.beq (R.sz e) esz) (match R.dec e zs with | some d => some ⟨e, d⟩ | none => none) none
  | none => none
theorem tmk_ok {t esz : Nat} {zs : List (TV A)} {p : Σ e, A e} (h : tmk R t esz zs = some p) : R.sz p.1 = esz ∧ R.dec p.1 zs = some p.2 := by
  unfold tmk at h
  split at h
  · rename_i e he
    cases hb : Nat.beq (R.sz e) esz with
    | false => rw [hb] at h; cases h
    | true =>
      rw [hb] at h
      simp only [cond_true] at h
      split at h
      · rename_i d hd
        obtain rfl := Option.some.inj h
        exact ⟨Nat.eq_of_beq_eq_true hb, hd⟩
      · cases h
  · cases h
/-- The same where the elements stand as cells. -/
def csrc (H : TH A) (esz : Nat) : TV A → Option (Nat × List (TV A))
  | .sl sz h o m => (match trow H h with
    | some (.cells cs) => cond (Nat.beq sz esz && Nat.ble (o + m * sz) cs.length) (some (m, (cs.drop o).take (m * sz))) none
    | _ => none)
  | _ => none
theorem csrc_ok {H : TH A} {esz : Nat} {y : TV A} {m : Nat} {ds : List (TV A)} (h : csrc H esz y = some (m, ds)) : srcCells (embH R H) esz (emb R y) = some (m, embC R ds) := by
  unfold csrc at h
  split at h
  · rename_i sz r o n
    split at h
    · rename_i cs hr
      cases hb : Nat.beq sz esz && Nat.ble (o + n * sz) cs.length with
      | false => rw [hb] at h; cases h
      | true =>
        rw [hb] at h
        simp only [Bool.and_eq_true] at hb
        simp only [cond_true, Option.some.injEq, Prod.mk.injEq] at h
        obtain ⟨rfl, rfl⟩ := h
        simp only [emb, srcCells, row_emb R hr, embR]
        rw [if_pos (Nat.eq_of_beq_eq_true hb.1), if_pos (by rw [embC_length]; exact Nat.le_of_ble_eq_true hb.2), embC_take, embC_drop]
    · cases h
  · cases h
def capp (H : TH A) (esz eb n : Nat) (y x : TV A) : Option (List Prop × TV A × List (Nat × Option (TRow A))) :=
  match csrc H esz y with
  | some (m, ds) => (match x with
    | .nils => some ([m * eb ≤ 140737488355328 ∧ m ≤ 140737488355328], .sl esz n 0 m, [(n, some (.cells ds))])
    | .sl sz h o k => (match trow H h with
      | some (.cells cs) => cond (Nat.beq sz esz && Nat.ble (o + k * sz) cs.length && ds.all tsolid)
          (some ([(k + m) * eb ≤ 140737488355328 ∧ k + m ≤ 140737488355328], .sl sz n 0 (k + m), [(h, none), (n, some (.cells ((cs.drop o).take (k * sz) ++ ds)))])) none
      | _ => none)
    | _ => none)
  | none => none
def teff (τ : TT) (F : TF A) (H : TH A) (n : Nat) (op : Op) : Option (List Prop × TV A × List (Nat × Option (TRow A))) :=
  match op with
  | .store t x y => (match τ t, tO F x, tcells (tO F y) with
    | some ti, .ptr h o, some ds => (match trow H h with
      | some (.cells cs) => cond (Nat.beq ds.length ti.size && Nat.ble (o + ds.length) cs.length && ds.all tsolid) (some ([], .und, [(h, some (.cells (tput cs o ds)))])) none
      | _ => none)
    | some ti, .ptrE sz h i o, some ds => (match trow H h with
      | some (.arr e xs) => cond (Nat.beq sz (R.sz e) && Nat.beq ds.length ti.size && Nat.ble (o + ds.length) (R.sz e) && ds.all tsolid)
          (match R.dec e (tput (R.enc e (xs.getD i (R.d e))) o ds) with
          | some a => some ([i < xs.length], .und, [(h, some (.arr e (xs.set i a)))])
          | none => none) none
      | _ => none)
    | _, _, _ => none)
  | .alloc t => (match τ t with
    | some ti => cond (flatL ti.zero) (some ([], .ptr n 0, [(n, some (.cells (upL ti.zero)))])) none
    | none => none)
  | .box t x => (match tcells (tO F x) with
    | some cs => some ([], .ptr n 0, [(n, some (.cells cs))])
    | none => none)
  | .buildSlice t len ps => (match τ t with
    | some ⟨.slice esz _ ez, _, _, _⟩ => cond (Nat.ble (len * esz) 16777216 && flatL ez)
        (match tfill (fun i => some (i * esz, esz)) (zerosT len (upL ez)) (ps.toList.map fun p => (p.1, tO F p.2)) with
        | some cs => (match R.el t with
          | some e => cond (Nat.beq (R.sz e) esz && Nat.beq cs.length (len * esz))
              (match decAll R e len cs with
              | some xs => some ([], .sla esz n 0 len, [(n, some (.arr e xs))])
              | none => some ([], .sl esz n 0 len, [(n, some (.cells cs))])) none
          | none => some ([], .sl esz n 0 len, [(n, some (.cells cs))]))
        | none => none) none
    | _ => none)
  | .makeSlice t l c => (match τ t, tO F l, tO F c with
    | some ⟨.slice esz eb ez, _, _, _⟩, .int _ a, .int _ b => cond (flatL ez) (match tmk R t esz (upL ez) with
        | some ⟨e, d⟩ => some ([0 ≤ a ∧ a ≤ b ∧ b ≤ 281474976710656 ∧ eb * b ≤ 281474976710656], .sla esz n 0 a.toNat, [(n, some (.arr e (List.replicate a.toNat d)))])
        | none => some ([0 ≤ a ∧ a ≤ b ∧ b ≤ 281474976710656 ∧ eb * b ≤ 281474976710656], .sl esz n 0 a.toNat, [(n, some (.cells (zerosT a.toNat (upL ez))))])) none
    | _, _, _ => none)
  | .call ⟨.builtin .append, args, tys⟩ => (match tys[0]?, tys[1]?, args[0]?, args[1]? with
    | some t, some u, some x, some y => (match τ t, τ u with
      | some ⟨.slice esz eb _, _, _, _⟩, some ⟨ud, _, _, _⟩ => (match ud with
        | .int _ => none
        | _ => (match tsrc R H t esz (tO F y), tO F x with
          | some (cs, ⟨e, ys⟩), .nils => some (cs ++ [ys.length * eb ≤ 140737488355328 ∧ ys.length ≤ 140737488355328], .sla esz n 0 ys.length, [(n, some (.arr e ys))])
          | some (cs, ⟨e, ys⟩), .sla sz h o m => (match trow H h with
            | some (.arr e' xs) => (match Nat.decEq e e' with
              | .isTrue p => cond (Nat.beq sz esz) (some (cs ++ [o + m ≤ xs.length, (m + ys.length) * eb ≤ 140737488355328 ∧ m + ys.length ≤ 140737488355328], .sla sz n 0 (m + ys.length),
                  [(h, none), (n, some (.arr e' (cut xs o m ++ p ▸ ys)))])) none
              | .isFalse _ => none)
            | _ => none)
          | _, _ => capp H esz eb n (tO F y) (tO F x)))
      | _, _ => none)
    | _, _, _, _ => none)
  | .call ⟨.builtin .copy, args, tys⟩ => (match tys[0]?, args[0]?, args[1]? with
    | some t, some x, some y => (match τ t with
      | some ⟨.slice esz eb _, _, _, _⟩ => (match tsrc R H t esz (tO F y), tO F x with
        | some (cs, ⟨e, ys⟩), .sla sz h o m => (match trow H h with
          | some (.arr e' xs) => (match Nat.decEq e e' with
            | .isTrue p => cond (Nat.beq sz esz) (some (cs ++ [o + m ≤ xs.length], .int .i64 (Nat.min ys.length m),
                [(h, some (.arr e' (xs.take o ++ (p ▸ ys : List (A e')).take (Nat.min ys.length m) ++ xs.drop (o + Nat.min ys.length m))))])) none
            | .isFalse _ => none)
          | _ => none)
        | _, _ => none)
      | _ => none)
    | _, _, _ => none)
  | .call ⟨.builtin .clear, args, tys⟩ => (match tys[0]?, args[0]? with
    | some t, some x => (match τ t, tO F x with
      | some ⟨.slice esz _ ez, _, _, _⟩, .sla sz h o m => (match trow H h, tmk R t esz (upL ez) with
        | some (.arr e xs), some ⟨e', d⟩ => (match Nat.decEq e' e with
          | .isTrue p => cond (Nat.beq sz esz && ez.all solid && flatL ez) (some ([o + m ≤ xs.length], .tup [], [(h, some (.arr e (xs.take o ++ List.replicate m (p ▸ d : A e) ++ xs.drop (o + m))))])) none
          | .isFalse _ => none)
        | _, _ => none)
      | _, _ => none)
    | _, _ => none)
  | _ => none

theorem putCells_fm {α : Type} {f : α → List LV} {c : Nat} (hf : ∀ a, (f a).length = c) {xs ys : List α} {o : Nat} : putCells (xs.flatMap f) (o * c) (ys.flatMap f) = (xs.take o ++ ys ++ xs.drop (o + ys.length)).flatMap f := by
  unfold putCells
  rw [fm_take hf, fm_length hf, ← Nat.add_mul, fm_drop hf, List.flatMap_append, List.flatMap_append]

theorem replicate_fm {α : Type} {f : α → List LV} (d : α) (n : Nat) : (List.replicate n d).flatMap f = (List.replicate n (f d)).flatten := by
  induction n with
  | zero => rfl
  | succ n ih => rw [List.replicate_succ, List.flatMap_cons, ih, List.replicate_succ, List.flatten_cons]

theorem zerosL_flatten (n : Nat) (ez : List LV) : zerosL n ez = (List.replicate n ez).flatten := by
  unfold zerosL
  split
  · induction n with
    | zero => rfl
    | succ n ih => rw [List.replicate_succ, List.replicate_succ, List.flatten_cons, ← ih]; rfl
  · rfl

theorem teff_ok (hR : R.Ok) {τ : TT} {F : TF A} {H : TH A} {n : Nat} {op : Op} {cs : List Prop} {x : TV A} {ws : List (Nat × Option (TRow A))} (h : teff R τ F H n op = some (cs, x, ws)) (hc : Conj cs) :
    effOp τ (embF R F) (embH R H) n op = some (emb R x, embW R ws) := by
  have E := evalO_emb R F
  unfold teff at h
  split at h
  · -- store
    split at h
    · rename_i ti r o ds h1 hx hy
      split at h
      · rename_i rc hr
        cases hb : Nat.beq ds.length ti.size && Nat.ble (o + ds.length) rc.length && ds.all tsolid with
        | false => rw [hb] at h; cases h
        | true =>
          rw [hb] at h
          simp only [cond_true, Option.some.injEq, Prod.mk.injEq] at h
          obtain ⟨_, rfl, rfl⟩ := h
          simp only [Bool.and_eq_true] at hb
          obtain ⟨⟨b1, b2⟩, b3⟩ := hb
          simp only [effOp, E, h1, hx, emb, tcells_emb R hy, row_emb R hr, embR]
          rw [if_pos ⟨by rw [embC_length]; exact Nat.eq_of_beq_eq_true b1, by rw [embC_length, embC_length]; exact Nat.le_of_ble_eq_true b2, tsolid_all R b3⟩]
          simp only [embW, embO, embR, tput_emb]
      · cases h
    · rename_i ti ss r i o ds h1 hx hy
      split at h
      · rename_i e xs hr
        cases hb : Nat.beq ss (R.sz e) && Nat.beq ds.length ti.size && Nat.ble (o + ds.length) (R.sz e) && ds.all tsolid with
        | false => rw [hb] at h; cases h
        | true =>
          rw [hb] at h
          simp only [cond_true] at h
          split at h
          · rename_i a ha
            simp only [Option.some.injEq, Prod.mk.injEq] at h
            obtain ⟨rfl, rfl, rfl⟩ := h
            obtain ⟨c1, _⟩ := hc
            simp only [Bool.and_eq_true] at hb
            obtain ⟨⟨⟨b0, b1⟩, b2⟩, b3⟩ := hb
            have e0 := Nat.eq_of_beq_eq_true b0
            have e2 := Nat.le_of_ble_eq_true b2
            obtain ⟨s1, s2⟩ := fm_split (hR.len e) c1
            have hmul : i * R.sz e + (o + ds.length) ≤ xs.length * R.sz e := by
              have : (i + 1) * R.sz e ≤ xs.length * R.sz e := Nat.mul_le_mul_right _ c1
              rw [Nat.add_mul, Nat.one_mul] at this
              omega
            simp only [effOp, E, h1, hx, emb, tcells_emb R hy, row_emb R hr, embR]
            rw [if_pos ⟨by rw [embC_length]; exact Nat.eq_of_beq_eq_true b1, by rw [embC_length, fm_length (hR.len e), e0]; omega, tsolid_all R b3⟩]
            simp only [embW, embO, embR, Option.some.injEq, Prod.mk.injEq, true_and, List.cons.injEq, and_true]
            rw [s1, e0, ← s2, putC_mid (by rw [embC_length, hR.len]; exact e2)]
            have hd := hR.dec e _ a ha
            rw [tput_emb, hR.ok, getD_get _ c1] at hd
            rw [hd]
            have e1 : (xs.set i a).take i = xs.take i := by rw [List.take_set_of_le (Nat.le_refl _)]
            have e3 : (xs.set i a).drop (i + 1) = xs.drop (i + 1) := by rw [List.drop_set_of_lt (by omega)]
            obtain ⟨t1, _⟩ := fm_split (hR.len e) (xs := xs.set i a) (i := i) (by simpa using c1)
            rw [t1, e1, e3]
            simp
          · cases h
      · cases h
    · cases h
  · -- alloc
    split at h
    · rename_i ti h1
      cases hf : flatL ti.zero with
      | false => rw [hf] at h; cases h
      | true =>
        rw [hf] at h
        simp only [cond_true, Option.some.injEq, Prod.mk.injEq] at h
        obtain ⟨_, rfl, rfl⟩ := h
        simp only [effOp, h1, emb, embW, embO, embR, embC_up R _ hf]
    · cases h
  · -- box
    split at h
    · rename_i ds h1
      simp only [Option.some.injEq, Prod.mk.injEq] at h
      obtain ⟨_, rfl, rfl⟩ := h
      simp only [effOp, E, tcells_emb R h1, emb, embW, embO, embR]
    · cases h
  · -- buildSlice
    rename_i t len ps
    split at h
    · rename_i esz eb ez sz ag z h1
      cases hb : Nat.ble (len * esz) 16777216 && flatL ez with
      | false => rw [hb] at h; cases h
      | true =>
        rw [hb] at h
        simp only [Bool.and_eq_true] at hb
        simp only [cond_true] at h
        split at h
        · rename_i ds hd
          have hfill := tfill_emb R _ _ _ _ hd
          rw [zerosT_emb R len hb.2] at hfill
          have raw : effOp τ (embF R F) (embH R H) n (.buildSlice t len ps) = some (.sl esz n 0 len, [(n, some (embC R ds))]) := by
            simp only [effOp, h1]
            rw [if_pos (Nat.le_of_ble_eq_true hb.1), parts_emb (R := R), hfill]
          have plain : some (([] : List Prop), TV.sl (A := A) esz n 0 len, [(n, some (TRow.cells ds))]) = some (cs, x, ws) → effOp τ (embF R F) (embH R H) n (.buildSlice t len ps) = some (emb R x, embW R ws) := by
            intro h
            simp only [Option.some.injEq, Prod.mk.injEq] at h
            obtain ⟨_, rfl, rfl⟩ := h
            rw [raw]; rfl
          split at h
          · rename_i e he
            cases hb2 : Nat.beq (R.sz e) esz && Nat.beq ds.length (len * esz) with
            | false => rw [hb2] at h; cases h
            | true =>
              rw [hb2] at h
              simp only [Bool.and_eq_true] at hb2
              simp only [cond_true] at h
              split at h
              · rename_i xs hxs
                simp only [Option.some.injEq, Prod.mk.injEq] at h
                obtain ⟨_, rfl, rfl⟩ := h
                have e1 := Nat.eq_of_beq_eq_true hb2.1
                have := (decAll_ok R hR _ _ _ (by rw [e1]; exact Nat.eq_of_beq_eq_true hb2.2) hxs).1
                rw [raw, this]
                simp [emb, embW, embO, embR]
              · exact plain h
          · exact plain h
        · cases h
    · cases h
  · -- makeSlice
    split at h
    · rename_i esz eb ez sz ag z k a k' b h1 hl hcc
      cases hb : flatL ez with
      | false => rw [hb] at h; cases h
      | true =>
        rw [hb] at h
        simp only [cond_true] at h
        split at h
        · rename_i e d hd
          simp only [Option.some.injEq, Prod.mk.injEq] at h
          obtain ⟨rfl, rfl, rfl⟩ := h
          obtain ⟨c1, _⟩ := hc
          obtain ⟨_, hd2⟩ := tmk_ok R hd
          have := hR.dec e _ d hd2
          rw [embC_up R ez hb] at this
          simp only [effOp, E, h1, hl, hcc, emb]
          rw [if_pos c1]
          simp only [emb, embW, embO, embR, Nat.zero_mul]
          rw [replicate_fm, ← this, zerosL_flatten]
        · simp only [Option.some.injEq, Prod.mk.injEq] at h
          obtain ⟨rfl, rfl, rfl⟩ := h
          obtain ⟨c1, _⟩ := hc
          simp only [effOp, E, h1, hl, hcc, emb]
          rw [if_pos c1]
          simp only [emb, embW, embO, embR]
          rw [zerosT_emb R _ hb]
    · cases h
  · -- append
    split at h
    · rename_i t u ox oy ht hu hox hoy
      split at h
      · rename_i esz eb ez _ _ _ ud _ _ _ h1 h2
        split at h
        · cases h
        · rename_i hni
          have redi : ∀ {α : Type} (f : α) , True := fun _ => trivial
          split at h
          · rename_i ds e ys hs hx
            simp only [Option.some.injEq, Prod.mk.injEq] at h
            obtain ⟨rfl, rfl, rfl⟩ := h
            obtain ⟨c0, c1⟩ := Conj.app hc
            obtain ⟨s1, s2⟩ := tsrc_ok R hR hs c0
            cases ud with
            | int k => exact absurd rfl (hni k)
            | _ =>
              simp only [effOp, ht, hu, hox, hoy, h1, h2]
              rw [E, E, hx, s2]
              simp only [emb]
              rw [if_pos c1.1]
              simp [emb, embW, embO, embR]
          · rename_i ds e ys sz r o m hs hx
            split at h
            · rename_i e' xs hr
              split at h
              · rename_i p hdec
                subst p
                cases hb : Nat.beq sz esz with
                | false => rw [hb] at h; cases h
                | true =>
                  rw [hb] at h
                  simp only [cond_true, Option.some.injEq, Prod.mk.injEq] at h
                  obtain ⟨rfl, rfl, rfl⟩ := h
                  obtain ⟨c0, c1⟩ := Conj.app hc
                  obtain ⟨s1, s2⟩ := tsrc_ok R hR hs c0
                  obtain ⟨d1, d2, _⟩ := c1
                  have e1 := Nat.eq_of_beq_eq_true hb
                  subst e1
                  cases ud with
                  | int k => exact absurd rfl (hni k)
                  | _ =>
                    simp only [effOp, ht, hu, hox, hoy, h1, h2]
                    rw [E, E, hx, s2]
                    simp only at s1
                    simp only [emb, row_emb R hr, embR]
                    rw [if_pos]
                    · simp only [emb, embW, embO, embR, Nat.zero_mul]
                      rw [List.flatMap_append, cut_eq, ← s1, fm_drop (hR.len e), fm_take (hR.len e)]
                    · refine ⟨trivial, ?_, d2.1, d2.2, ?_⟩
                      · rw [fm_length (hR.len e), s1, ← Nat.add_mul]
                        exact Nat.mul_le_mul_right _ d1
                      · rw [List.all_flatMap, List.all_eq_true]
                        exact fun a _ => hR.sol e a
              · cases h
            · cases h
          · have hcp : capp H esz eb n (tO F oy) (tO F ox) = some (cs, x, ws) := h
            clear h
            unfold capp at hcp
            split at hcp
            · rename_i m ds hds
              have s2 := csrc_ok R hds
              split at hcp
              · rename_i hx
                simp only [Option.some.injEq, Prod.mk.injEq] at hcp
                obtain ⟨rfl, rfl, rfl⟩ := hcp
                cases ud with
                | int k => exact absurd rfl (hni k)
                | _ =>
                  simp only [effOp, ht, hu, hox, hoy, h1, h2]
                  rw [E, E, hx, s2]
                  simp only [emb]
                  rw [if_pos hc.1]
                  simp [emb, embW, embO, embR]
              · rename_i sz r o k hx
                split at hcp
                · rename_i rc hr
                  cases hb : Nat.beq sz esz && Nat.ble (o + k * sz) rc.length && ds.all tsolid with
                  | false => rw [hb] at hcp; cases hcp
                  | true =>
                    rw [hb] at hcp
                    simp only [Bool.and_eq_true] at hb
                    simp only [cond_true, Option.some.injEq, Prod.mk.injEq] at hcp
                    obtain ⟨rfl, rfl, rfl⟩ := hcp
                    have b1 := Nat.eq_of_beq_eq_true hb.1.1
                    have b2 := Nat.le_of_ble_eq_true hb.1.2
                    cases ud with
                    | int k => exact absurd rfl (hni k)
                    | _ =>
                      simp only [effOp, ht, hu, hox, hoy, h1, h2]
                      rw [E, E, hx, s2]
                      simp only [emb, row_emb R hr, embR]
                      rw [if_pos ⟨b1, by rw [embC_length]; exact b2, hc.1.1, hc.1.2, tsolid_all R hb.2⟩]
                      simp only [emb, embW, embO, embR, embC_append, embC_take, embC_drop]
                · cases hcp
              · cases hcp
            · cases hcp
      · cases h
    · cases h
  · -- copy
    split at h
    · rename_i t ox oy ht hox hoy
      split at h
      · rename_i esz eb ez _ _ _ h1
        split at h
        · rename_i ds e ys sz r o m hs hx
          split at h
          · rename_i e' xs hr
            split at h
            · rename_i p hdec
              subst p
              cases hb : Nat.beq sz esz with
              | false => rw [hb] at h; cases h
              | true =>
                rw [hb] at h
                simp only [cond_true, Option.some.injEq, Prod.mk.injEq] at h
                obtain ⟨rfl, rfl, rfl⟩ := h
                obtain ⟨c0, c1⟩ := Conj.app hc
                obtain ⟨s1, s2⟩ := tsrc_ok R hR hs c0
                obtain ⟨d1, _⟩ := c1
                have e1 := Nat.eq_of_beq_eq_true hb
                subst e1
                simp only at s1
                simp only [effOp, ht, hox, hoy, h1]
                rw [E, E, hx, s2]
                simp only [emb, row_emb R hr, embR]
                rw [if_pos]
                · simp only [emb, embW, embO, embR]
                  have hk : (ys.take (Nat.min ys.length m)).length = Nat.min ys.length m := by
                    rw [List.length_take]; have : Nat.min ys.length m ≤ ys.length := Nat.min_le_left _ _; omega
                  rw [← s1, fm_take (hR.len e), putCells_fm (hR.len e), hk]
                · refine ⟨trivial, ?_, ?_⟩
                  · rw [fm_length (hR.len e), s1, ← Nat.add_mul]
                    exact Nat.mul_le_mul_right _ d1
                  · rw [List.all_flatMap, List.all_eq_true]
                    exact fun a _ => hR.sol e a
            · cases h
          · cases h
        · cases h
      · cases h
    · cases h
  · -- clear
    split at h
    · rename_i t ox ht hox
      split at h
      · rename_i esz eb ez _ _ _ sz r o m h1 hx
        split at h
        · rename_i e xs e' d hr hd
          split at h
          · rename_i p hdec
            subst p
            cases hb : Nat.beq sz esz && ez.all solid && flatL ez with
            | false => rw [hb] at h; cases h
            | true =>
              rw [hb] at h
              simp only [Bool.and_eq_true] at hb
              simp only [cond_true, Option.some.injEq, Prod.mk.injEq] at h
              obtain ⟨rfl, rfl, rfl⟩ := h
              obtain ⟨c1, _⟩ := hc
              have e1 := Nat.eq_of_beq_eq_true hb.1.1
              subst e1
              obtain ⟨s1, s2⟩ := tmk_ok R hd
              have s3 := hR.dec e' _ d s2
              rw [embC_up R ez hb.2] at s3
              simp only at s1 s3
              simp only [effOp, ht, hox, h1]
              rw [E, hx]
              simp only [emb, row_emb R hr, embR]
              rw [if_pos]
              · have e2 : zerosL m ez = (List.replicate m d).flatMap (R.encL e') := by rw [zerosL_flatten, replicate_fm, ← s3]
                simp only [embC, embW, embO, embR]
                rw [e2, ← s1, putCells_fm (hR.len e'), List.length_replicate]
              · refine ⟨trivial, ?_, hb.1.2⟩
                rw [fm_length (hR.len e'), s1, ← Nat.add_mul]
                exact Nat.mul_le_mul_right _ c1
          · cases h
        · cases h
      · cases h
    · cases h
  · cases h

end
end Go.Lite

/- Lite, part TF: lists of operations on typed values, in the order of the text and in any order. -/
namespace Go.Lite
open Go Go.RowKit
set_option linter.unusedVariables false

section
variable {A : Nat → Type} (R : Reg A)

def tlput : Option Nat → TV A → TF A → TF A
  | none, _, F => F
  | some d, x, F => (d, x) :: F
theorem tlput_emb (d : Option Nat) (x : TV A) (F : TF A) : embF R (tlput d x F) = lput d (emb R x) (embF R F) := by cases d <;> rfl

def tapply (H : TH A) : List (Nat × Option (TRow A)) → TH A
  | [] => H
  | (h, r) :: ws => tapply (H.set h r) ws
theorem embH_set (H : TH A) (h : Nat) (r : Option (TRow A)) : embH R (H.set h r) = (embH R H).set h (embO R r) := by
  induction H generalizing h with
  | nil => rfl
  | cons x H ih => cases h <;> simp [embH, ih]
theorem tapply_emb : ∀ (ws : List (Nat × Option (TRow A))) (H : TH A), embH R (tapply H ws) = applyWs (embH R H) (embW R ws) := by
  intro ws
  induction ws with
  | nil => intro H; rfl
  | cons p r ih => intro H; obtain ⟨h, x⟩ := p; simp only [tapply, embW, applyWs]; rw [ih, embH_set]

def tmore (op : Op) (H : TH A) : TH A := cond (makes op) (H ++ [none]) H
theorem embH_append (H G : TH A) : embH R (H ++ G) = embH R H ++ embH R G := by
  induction H with
  | nil => rfl
  | cons r H ih => simp [embH, ih]
theorem tmore_emb (op : Op) (H : TH A) : embH R (tmore op H) = more op (embH R H) := by
  unfold tmore more
  cases makes op <;> simp [embH_append, embH, embO]

/-- The frame where values that are there under a condition are taken for what they are. -/
def strip (g : Bool) (F : TF A) : List Nat → List Prop × TF A
  | [] => ([], F)
  | t :: r => match tget F t with
    | .opt g' v => (match strip g F r with | (cs, F') => ((g = true → g' = true) :: cs, (t, v) :: F'))
    | _ => strip g F r

theorem strip_ok (g : Bool) (F : TF A) (hg : g = true) : ∀ (l : List Nat), Conj (strip g F l).1 → ∀ t, (t ∈ l → emb R (tget (strip g F l).2 t) = emb R (tget F t)) ∧ (t ∉ l → tget (strip g F l).2 t = tget F t) := by
  intro l
  induction l with
  | nil => intro _ t; exact ⟨fun h => by simp at h, fun _ => rfl⟩
  | cons s r ih =>
    intro hc t
    simp only [strip] at hc ⊢
    split at hc
    · rename_i g' v e
      generalize hs : strip g F r = q at *
      obtain ⟨cs, F'⟩ := q
      obtain ⟨c1, c2⟩ := hc
      obtain ⟨i1, i2⟩ := ih c2 t
      have hg' := c1 hg
      by_cases hst : Nat.beq s t = true
      · have := Nat.eq_of_beq_eq_true hst
        subst this
        refine ⟨fun _ => ?_, fun h => by simp at h⟩
        simp only [tget, hst, cond_true, e, emb, hg']
      · have hb : Nat.beq s t = false := by
          cases hb : Nat.beq s t with
          | false => rfl
          | true => exact absurd hb hst
        have hne : s ≠ t := fun e => by subst e; simp at hst
        simp only [tget, hb, cond_false]
        exact ⟨fun h => i1 ((List.mem_cons.1 h).resolve_left fun e => hne e.symm), fun h => i2 (by simp at h; exact h.2)⟩
    · rename_i hn
      obtain ⟨i1, i2⟩ := ih hc t
      refine ⟨fun h => ?_, fun h => i2 (by simp at h; exact h.2)⟩
      by_cases hr : t ∈ r
      · exact i1 hr
      · rw [i2 hr]

/-- The operands that must be there: of a choice the condition alone. -/
def slotsU : Op → List Nat
  | .pick (.tmp c) _ _ => [c]
  | .pick _ _ _ => []
  | op => slotsOf op

/-- One operation: what is asked, its value, the rows that it lays. -/
def tbase (τ : TT) (F : TF A) (H : TH A) (op : Op) : Option (List Prop × TV A × List (Nat × Option (TRow A))) :=
  match strip true F (slotsU op) with
  | (sc, F') => match tval R τ F' H op with
    | some (cs, v) => some (sc ++ cs, v, [])
    | none => match teff R τ F' H H.length op with
      | some (cs, v, ws) => some (sc ++ cs, v, ws)
      | none => none

def tguard (τ : TT) (g : Bool) (F : TF A) (H : TH A) (op : Op) : Option (List Prop × TV A × List (Nat × Option (TRow A))) :=
  match strip g F (slotsU op) with
  | (sc, F') => match tval R τ F' H op with
    | some (cs, v) => some (sc ++ cs.map (fun p => g = true → p), .opt g v, [])
    | none => none

def tone (τ : TT) (s : SO) (F : TF A) (H : TH A) : Option (List Prop × TV A × List (Nat × Option (TRow A))) :=
  match s.g with
  | none => tbase R τ F H s.op
  | some (t, want) => match tget F t with
    | .und => some ([], .und, [])
    | .bool b => tguard R τ (cond want b (!b)) F H s.op
    | .opt g0 (.bool b) => tguard R τ (g0 && cond want b (!b)) F H s.op
    | _ => none

theorem strip_slots (g : Bool) (F : TF A) (hg : g = true) {op : Op} (hc : Conj (strip g F (slotsU op)).1) : ∀ t ∈ slotsOf op, fget (embF R (strip g F (slotsU op)).2) t = fget (embF R F) t := by
  intro t ht
  rw [fget_embF, fget_embF]
  obtain ⟨h1, h2⟩ := strip_ok R g F hg _ hc t
  by_cases hm : t ∈ slotsU op
  · exact h1 hm
  · rw [h2 hm]

theorem Conj.imp {g : Prop} (hg : g) : ∀ {cs : List Prop}, Conj (cs.map (fun p => g → p)) → Conj cs
  | [], _ => trivial
  | _ :: _, h => ⟨h.1 hg, Conj.imp hg h.2⟩

/-- What one operation comes to. -/
def OneOk (τ : TT) (s : SO) (F : TF A) (H : TH A) (x : TV A) (ws : List (Nat × Option (TRow A))) : Prop :=
  (ws = [] ∧ ((wantS s.g (embF R F) = some true ∧ valP τ (embF R F) (embH R H) s.op = some (emb R x)) ∨ (wantS s.g (embF R F) = some false ∧ emb R x = .und))) ∨
  (wantS s.g (embF R F) = some true ∧ s.g = none ∧ effOp τ (embF R F) (embH R H) H.length s.op = some (emb R x, embW R ws))

theorem tone_ok (hR : R.Ok) {τ : TT} {s : SO} {F : TF A} {H : TH A} {cs : List Prop} {x : TV A} {ws : List (Nat × Option (TRow A))} (h : tone R τ s F H = some (cs, x, ws)) (hc : Conj cs) : OneOk R τ s F H x ws := by
  have gd : ∀ {g : Bool}, wantS s.g (embF R F) = some g → tguard R τ g F H s.op = some (cs, x, ws) → OneOk R τ s F H x ws := by
    intro g hw h
    unfold tguard at h
    generalize hs : strip g F (slotsU s.op) = q at h
    obtain ⟨sc, F'⟩ := q
    simp only at h
    split at h
    · rename_i cs' v hv
      simp only [Option.some.injEq, Prod.mk.injEq] at h
      obtain ⟨rfl, rfl, rfl⟩ := h
      obtain ⟨c1, c2⟩ := Conj.app hc
      refine .inl ⟨rfl, ?_⟩
      cases g with
      | false => exact .inr ⟨hw, rfl⟩
      | true =>
        refine .inl ⟨hw, ?_⟩
        have h1 := tval_ok hR hv (Conj.imp rfl c2)
        have h2 := strip_slots R true F rfl (op := s.op) (by rw [hs]; exact c1)
        rw [hs] at h2
        have h3 := valP_congr (τ := τ) (F := embF R F') (F' := embF R F) (H := embH R H) (H' := embH R H) (op := s.op) (fun t ht => (h2 t ht).symm) (fun _ _ => rfl)
        rw [h3, h1]; rfl
    · cases h
  unfold tone at h
  split at h
  · rename_i hg
    have hw : wantS s.g (embF R F) = some true := by rw [hg]; rfl
    unfold tbase at h
    generalize hs : strip true F (slotsU s.op) = q at h
    obtain ⟨sc, F'⟩ := q
    simp only at h
    split at h
    · rename_i cs' v hv
      simp only [Option.some.injEq, Prod.mk.injEq] at h
      obtain ⟨rfl, rfl, rfl⟩ := h
      obtain ⟨c1, c2⟩ := Conj.app hc
      have h2 := strip_slots R true F rfl (op := s.op) (by rw [hs]; exact c1)
      rw [hs] at h2
      have h3 := valP_congr (τ := τ) (F := embF R F') (F' := embF R F) (H := embH R H) (H' := embH R H) (op := s.op) (fun t ht => (h2 t ht).symm) (fun _ _ => rfl)
      exact .inl ⟨rfl, .inl ⟨hw, by rw [h3]; exact tval_ok hR hv c2⟩⟩
    · split at h
      · rename_i cs' v ws' hv
        simp only [Option.some.injEq, Prod.mk.injEq] at h
        obtain ⟨rfl, rfl, rfl⟩ := h
        obtain ⟨c1, c2⟩ := Conj.app hc
        have h2 := strip_slots R true F rfl (op := s.op) (by rw [hs]; exact c1)
        rw [hs] at h2
        have h3 := eff_congr (τ := τ) (F := embF R F') (F' := embF R F) (H := embH R H) (H' := embH R H) (n := H.length) (op := s.op) (evalO_congr fun t ht => (h2 t ht).symm) (fun _ _ => rfl)
        exact .inr ⟨hw, hg, by rw [h3]; exact teff_ok R hR hv c2⟩
      · cases h
  · rename_i t want hg
    split at h
    · rename_i e
      simp only [Option.some.injEq, Prod.mk.injEq] at h
      obtain ⟨_, rfl, rfl⟩ := h
      exact .inl ⟨rfl, .inr ⟨by rw [hg]; simp [wantS, fget_embF, e, emb], rfl⟩⟩
    · rename_i b e
      exact gd (by rw [hg]; simp only [wantS, fget_embF, e, emb]; cases b <;> cases want <;> rfl) h
    · rename_i g0 b e
      exact gd (by rw [hg]; simp only [wantS, fget_embF, e, emb]; cases g0 <;> cases b <;> cases want <;> rfl) h
    · cases h

end

/-! ### In the order of the text -/
section
variable {A : Nat → Type} {R : Reg A} {P : Program} {N : Dim}

/-- What is to be shown of a list of operations. -/
def TOps (R : Reg A) (P : Program) (N : Dim) (l : List SO) (Q : TF A → TH A → Prop) (F : TF A) (H : TH A) : Prop :=
  OpsW P N l (fun F' H' => ∃ G X, Q G X ∧ F' = embF R G ∧ H' = embH R X) (embF R F) (embH R H)

theorem TOps.nil {Q : TF A → TH A → Prop} {F : TF A} {H : TH A} (h : Q F H) : TOps R P N [] Q F H := OpsW.nil ⟨F, H, h, rfl, rfl⟩

theorem stepOp_val {op : Op} {F : Fr} {H : Hp} {x : LV} {K : LV → Fr → Hp → Prop} (h : valP (ttOf P) F H op = some x) (k : K x F H) : stepOp P op K F H := by
  unfold valP at h
  unfold stepOp
  split at h
  · rename_i y hy
    obtain rfl := Option.some.inj h
    rw [hy]; exact k
  · rename_i hy
    rw [hy, h]; exact k

theorem eff_kind {τ : TT} {F : Fr} {H H2 : Hp} {n : Nat} {op : Op} {r : LV × List (Nat × Option (List LV))} (h : effOp τ F H n op = some r) : pureOp τ F op = none ∧ loadOp τ F H2 op = none := by
  cases op with
  | alloc t => exact ⟨rfl, rfl⟩
  | box t x => exact ⟨rfl, rfl⟩
  | buildSlice t len ps => exact ⟨rfl, rfl⟩
  | makeSlice t l c => exact ⟨rfl, rfl⟩
  | store t x y => exact ⟨rfl, rfl⟩
  | call c =>
    obtain ⟨callee, args, tys⟩ := c
    cases callee with
    | builtin b => cases b <;> first | exact ⟨rfl, rfl⟩ | cases h
    | _ => cases h
  | _ => cases h

theorem stepOp_eff {op : Op} {F : Fr} {H : Hp} {x : LV} {ws : List (Nat × Option (List LV))} {K : LV → Fr → Hp → Prop} (h : effOp (ttOf P) F (more op H) H.length op = some (x, ws)) (k : K x F (applyWs (more op H) ws)) : stepOp P op K F H := by
  obtain ⟨h1, h2⟩ := eff_kind (H2 := H) h
  unfold stepOp
  rw [h1, h2]
  unfold effN
  rw [h]
  exact k

/-- The rows that are looked at are there: one more makes no difference. -/
theorem eff_more {τ : TT} {F : Fr} {H : Hp} {n : Nat} {op : Op} {r : LV × List (Nat × Option (List LV))} (h : effOp τ F H n op = some r) : effOp τ F (more op H) n op = some r := by
  unfold more
  split
  · rename_i hm
    have rowm : ∀ {k : Nat} {cs : List LV}, row H k = some cs → row (H ++ [none]) k = some cs := by
      intro k cs hk
      unfold row at *
      split at hk
      · rename_i c hc
        rw [List.getElem?_append_left (lt_row hc), hc]; exact hk
      · cases hk
    have srcm : ∀ {esz : Nat} {x : LV} {p : Nat × List LV}, srcCells H esz x = some p → srcCells (H ++ [none]) esz x = some p := by
      intro esz x p hp
      cases x with
      | sl sz k o m =>
        simp only [srcCells] at hp ⊢
        split at hp
        · rename_i e
          rw [if_pos e]
          split at hp
          · rename_i cs hcs; rw [rowm hcs]; exact hp
          · cases hp
        · cases hp
      | _ => exact hp
    cases op with
    | alloc t => exact h
    | box t x => exact h
    | buildSlice t len ps => exact h
    | makeSlice t l c => exact h
    | call c =>
      obtain ⟨callee, args, tys⟩ := c
      cases callee with
      | builtin b =>
        cases b with
        | append =>
          simp only [effOp] at h ⊢
          split at h
          · rename_i t u x y h1 h2 h3 h4
            split at h
            · rename_i esz eb ez _ _ _ ud _ _ _ g1 g2
              split at h
              · cases h
              · split at h
                · rename_i n' xs hs hx
                  rw [srcm hs, hx]; exact h
                · rename_i n' xs sz k o m hs hx
                  split at h
                  · rename_i cs hcs
                    rw [srcm hs, hx]
                    simp only [rowm hcs]
                    exact h
                  · cases h
                · cases h
            · cases h
          · cases h
        | _ => simp [makes] at hm
      | _ => simp [makes] at hm
    | _ => simp [makes] at hm
  · exact h

theorem TOps.one (hR : R.Ok) {τ : TT} (hτ : τ = ttOf P) {s : SO} {r : List SO} {Q : TF A → TH A → Prop} {F : TF A} {H : TH A} {cs : List Prop} {x : TV A} {ws : List (Nat × Option (TRow A))}
    (h : tone R τ s F H = some (cs, x, ws)) (hc : Conj cs) (k : TOps R P N r Q (tlput s.dst x F) (tapply (cond (Nat.beq ws.length 0) H (tmore s.op H)) ws)) : TOps R P N (s :: r) Q F H := by
  subst hτ
  unfold TOps at k ⊢
  rw [tlput_emb, tapply_emb] at k
  rcases tone_ok R hR h hc with ⟨rfl, ⟨hw, hv⟩ | ⟨hw, hv⟩⟩ | ⟨hw, hg, hv⟩
  · exact .step hw (stepOp_val hv k)
  · rw [hv] at k
    exact .skip hw k
  · refine .step hw (stepOp_eff (x := emb R x) (ws := embW R ws) (by rw [embH_length]; exact eff_more hv) ?_)
    cases hl : Nat.beq ws.length 0 with
    | false => rw [hl] at k; simp only [cond_false] at k; rw [tmore_emb] at k; exact k
    | true =>
      rw [hl] at k
      have : ws = [] := List.eq_nil_of_length_eq_zero (Nat.eq_of_beq_eq_true hl)
      subst this
      exfalso
      -- an operation that lays nothing is none of these
      cases hop : s.op <;> rw [hop] at hv
      all_goals first
        | (simp only [effOp] at hv; (repeat' split at hv) <;> simp [embW] at hv; done)
        | cases hv

/-- The operations up to the first that is not one of these. -/
def trun (R : Reg A) (τ : TT) : List SO → TF A → TH A → List Prop → List Prop × List SO × TF A × TH A
  | [], F, H, acc => (acc, [], F, H)
  | s :: r, F, H, acc => match tone R τ s F H with
    | some (cs, x, ws) => trun R τ r (tlput s.dst x F) (tapply (cond (Nat.beq ws.length 0) H (tmore s.op H)) ws) (acc ++ cs)
    | none => (acc, s :: r, F, H)

theorem trun_ok (hR : R.Ok) {τ : TT} (hτ : τ = ttOf P) {Q : TF A → TH A → Prop} : ∀ (l : List SO) (F F' : TF A) (H H' : TH A) (acc cs : List Prop) (rest : List SO), trun R τ l F H acc = (cs, rest, F', H') → Conj cs → TOps R P N rest Q F' H' → Conj acc ∧ TOps R P N l Q F H := by
  intro l
  induction l with
  | nil =>
    intro F F' H H' acc cs rest h hc k
    simp only [trun, Prod.mk.injEq] at h
    obtain ⟨rfl, rfl, rfl, rfl⟩ := h
    exact ⟨hc, k⟩
  | cons s r ih =>
    intro F F' H H' acc cs rest h hc k
    simp only [trun] at h
    split at h
    · rename_i c x ws h1
      obtain ⟨c1, c2⟩ := ih _ _ _ _ _ _ _ h hc k
      obtain ⟨c3, c4⟩ := Conj.app c1
      exact ⟨c3, .one hR hτ h1 c4 c2⟩
    · simp only [Prod.mk.injEq] at h
      obtain ⟨rfl, rfl, rfl, rfl⟩ := h
      exact ⟨hc, k⟩

theorem TOps.run (hR : R.Ok) {τ : TT} (hτ : τ = ttOf P) {Q : TF A → TH A → Prop} {l rest : List SO} {F F' : TF A} {H H' : TH A} {cs : List Prop} (h : trun R τ l F H [] = (cs, rest, F', H')) (hc : Conj cs) (k : TOps R P N rest Q F' H') : TOps R P N l Q F H :=
  (trun_ok hR hτ l F F' H H' [] cs rest h hc k).2

end
end Go.Lite
