/- Lite, parts TA TB. -/
import Derived.Test.YtagfanbodglplaaLiteP
set_option linter.unusedVariables false
set_option linter.unusedSimpArgs false

/- Lite, part TA: typed values: a slice holds a list of a plain type; an operation's value, what it asks, the rows that it lays. -/
namespace Go.Lite
open Go Go.RowKit
set_option linter.unusedVariables false

inductive TV (A : Nat → Type) where
  | dead
  | und
  | bool (b : Bool)
  | int (k : IntKind) (n : Int)
  | str (s : ByteArray)
  | nilp
  | nils
  | nilf
  | yld (l : Nat)
  | ptr (h off : Nat)
  | ptrE (sz h i off : Nat)
  | pel (cs : List (TV A))
  | sl (sz h off len : Nat)
  | sla (sz h off len : Nat)
  | lst (e : Nat) (xs : List (A e))
  | fn (f : Nat) (cap : List (TV A))
  | agg (cs : List (TV A))
  | tup (cs : List (TV A))
  | opt (g : Bool) (v : TV A)

instance {A : Nat → Type} : Inhabited (TV A) := ⟨.dead⟩

/-- The types of a program's slices' elements: their cells, and back. -/
structure Reg (A : Nat → Type) where
  sz : Nat → Nat
  d : ∀ e, A e
  encL : ∀ e, A e → List LV
  enc : ∀ e, A e → List (TV A)
  dec : ∀ e, List (TV A) → Option (A e)
  el : Nat → Option Nat
  byt : ∀ e, Option (List (A e) → List Int)

section
variable {A : Nat → Type} (R : Reg A)

mutual
def emb : TV A → LV
  | .dead => .dead
  | .und => .und
  | .bool b => .bool b
  | .int k n => .int k n
  | .str s => .str s
  | .nilp => .nilp
  | .nils => .nils
  | .nilf => .nilf
  | .yld l => .yld l
  | .ptr h o => .ptr h o
  | .ptrE sz h i o => .ptr h (i * sz + o)
  | .pel cs => .pp (embC cs)
  | .sl sz h o n => .sl sz h o n
  | .sla sz h o n => .sl sz h (o * sz) n
  | .lst e xs => .ps (R.sz e) xs.length (xs.flatMap (R.encL e))
  | .fn f cs => .fn f (embC cs)
  | .agg cs => .agg (embC cs)
  | .tup cs => .tup (embC cs)
  | .opt g v => cond g (emb v) .und
def embC : List (TV A) → List LV
  | [] => []
  | c :: r => emb c :: embC r
end

theorem embC_eq (cs : List (TV A)) : embC R cs = cs.map (emb R) := by
  induction cs with
  | nil => rfl
  | cons c r ih => simp [embC, ih]

structure Reg.Ok : Prop where
  pos : ∀ e, 0 < R.sz e
  len : ∀ e a, (R.encL e a).length = R.sz e
  ok : ∀ e a, embC R (R.enc e a) = R.encL e a
  dec : ∀ e cs a, R.dec e cs = some a → embC R cs = R.encL e a
  free : ∀ e a, hfreeL (R.encL e a) = true
  sol : ∀ e a, (R.encL e a).all solid = true
  byt : ∀ e f, R.byt e = some f → ∀ xs, xs.flatMap (R.encL e) = (f xs).map (LV.int .u8)

end

inductive TRow (A : Nat → Type) where
  | cells (cs : List (TV A))
  | arr (e : Nat) (xs : List (A e))

abbrev TH (A : Nat → Type) := List (Option (TRow A))
abbrev TF (A : Nat → Type) := List (Nat × TV A)

section
variable {A : Nat → Type} (R : Reg A)

def embR : TRow A → List LV
  | .cells cs => embC R cs
  | .arr e xs => xs.flatMap (R.encL e)
def embO : Option (TRow A) → Option (List LV)
  | none => none
  | some r => some (embR R r)
def embH : TH A → Hp
  | [] => []
  | r :: H => embO R r :: embH H
def embF : TF A → Fr
  | [] => []
  | (t, v) :: F => (t, emb R v) :: embF F
def embW : List (Nat × Option (TRow A)) → List (Nat × Option (List LV))
  | [] => []
  | (h, r) :: ws => (h, embO R r) :: embW ws

def tget : TF A → Nat → TV A
  | [], _ => .dead
  | (s, v) :: r, t => cond (Nat.beq s t) v (tget r t)

theorem fget_embF (F : TF A) (t : Nat) : fget (embF R F) t = emb R (tget F t) := by
  induction F with
  | nil => simp [embF, fget, tget, emb]
  | cons p r ih =>
    obtain ⟨s, v⟩ := p
    simp only [embF, fget, tget]
    cases Nat.beq s t <;> simp [ih]

mutual
def upC : LV → TV A
  | .und => .und
  | .bool b => .bool b
  | .int k n => .int k n
  | .str s => .str s
  | .nilp => .nilp
  | .nils => .nils
  | .nilf => .nilf
  | .yld l => .yld l
  | .ptr h o => .ptr h o
  | .sl sz h o n => .sl sz h o n
  | .fn f cs => .fn f (upL cs)
  | .agg cs => .agg (upL cs)
  | .tup cs => .tup (upL cs)
  | _ => .dead
def upL : List LV → List (TV A)
  | [] => []
  | c :: r => upC c :: upL r
end

mutual
/-- It holds no plain memory. -/
def flat : LV → Bool
  | .ps _ _ _ => false
  | .pp _ => false
  | .fn _ cs => flatL cs
  | .agg cs => flatL cs
  | .tup cs => flatL cs
  | _ => true
def flatL : List LV → Bool
  | [] => true
  | c :: r => flat c && flatL r
end

mutual
theorem emb_up : ∀ (x : LV), flat x = true → emb R (upC x) = x
  | .dead, _ => rfl
  | .und, _ => rfl
  | .bool _, _ => rfl
  | .int _ _, _ => rfl
  | .str _, _ => rfl
  | .nilp, _ => rfl
  | .nils, _ => rfl
  | .nilf, _ => rfl
  | .yld _, _ => rfl
  | .ptr _ _, _ => rfl
  | .sl _ _ _ _, _ => rfl
  | .fn f cs, h => by simp only [upC, emb]; rw [embC_up cs (by simpa [flat] using h)]
  | .agg cs, h => by simp only [upC, emb]; rw [embC_up cs (by simpa [flat] using h)]
  | .tup cs, h => by simp only [upC, emb]; rw [embC_up cs (by simpa [flat] using h)]
  | .ps _ _ _, h => by simp [flat] at h
  | .pp _, h => by simp [flat] at h
theorem embC_up : ∀ (cs : List LV), flatL cs = true → embC R (upL cs) = cs
  | [], _ => rfl
  | c :: r, h => by
    simp only [flatL, Bool.and_eq_true] at h
    simp only [upL, embC]
    rw [emb_up c h.1, embC_up r h.2]
end

theorem flat_scalar (v : Value) : flat (scalarLV v) = true := by
  unfold scalarLV; split <;> rfl
theorem flat_const (v : Value) : flat (constLV v) = true := by
  unfold constLV
  split
  · rename_i cs
    simp only [flat]
    have : ∀ (l : List Value), flatL (l.map scalarLV) = true := by
      intro l
      induction l with
      | nil => rfl
      | cons c r ih => simp [flatL, flat_scalar, ih]
    exact this _
  · exact flat_scalar v

def tO (F : TF A) : Operand → TV A
  | .tmp t => tget F t
  | .const v => upC (constLV v)
  | .global _ => .dead
  | .func f => .fn f []

theorem evalO_emb (F : TF A) (o : Operand) : evalO (embF R F) o = emb R (tO F o) := by
  cases o with
  | tmp t => exact fget_embF R F t
  | const v => exact (emb_up R _ (flat_const v)).symm
  | global g => rfl
  | func f => rfl

def nth {α : Type} : List α → Nat → Option α
  | [], _ => none
  | x :: _, 0 => some x
  | _ :: r, n + 1 => nth r n

theorem nth_eq {α : Type} : ∀ (l : List α) (n : Nat), nth l n = l[n]? := by
  intro l
  induction l with
  | nil => intro n; simp [nth]
  | cons x r ih => intro n; cases n <;> simp [nth, ih]

def trow (H : TH A) (h : Nat) : Option (TRow A) := match nth H h with
  | some (some r) => some r
  | _ => none

theorem embH_get (H : TH A) (h : Nat) : (embH R H)[h]? = (H[h]?).map (embO R) := by
  induction H generalizing h with
  | nil => simp [embH]
  | cons r H ih => cases h <;> simp [embH, ih]

theorem embH_length (H : TH A) : (embH R H).length = H.length := by
  induction H with
  | nil => rfl
  | cons r H ih => simp [embH, ih]

theorem row_emb {H : TH A} {h : Nat} {r : TRow A} (hr : trow H h = some r) : row (embH R H) h = some (embR R r) := by
  unfold trow at hr
  rw [nth_eq] at hr
  split at hr
  · rename_i r' h'
    obtain rfl := Option.some.inj hr
    unfold row
    rw [embH_get, h']
    rfl
  · cases hr

def tpart (agg : Bool) (size : Nat) (cs : List (TV A)) (off : Nat) : Option (TV A) :=
  cond agg (cond (Nat.ble (off + size) cs.length) (some (.agg ((cs.drop off).take size))) none) (nth cs off)

theorem embC_length (cs : List (TV A)) : (embC R cs).length = cs.length := by rw [embC_eq]; simp
theorem embC_drop (cs : List (TV A)) (n : Nat) : embC R (cs.drop n) = (embC R cs).drop n := by rw [embC_eq, embC_eq, List.map_drop]
theorem embC_take (cs : List (TV A)) (n : Nat) : embC R (cs.take n) = (embC R cs).take n := by rw [embC_eq, embC_eq, List.map_take]
theorem embC_append (cs ds : List (TV A)) : embC R (cs ++ ds) = embC R cs ++ embC R ds := by rw [embC_eq, embC_eq, embC_eq, List.map_append]
theorem embC_get (cs : List (TV A)) (n : Nat) : (embC R cs)[n]? = (cs[n]?).map (emb R) := by rw [embC_eq, List.getElem?_map]

theorem tpart_emb {agg : Bool} {size : Nat} {cs : List (TV A)} {off : Nat} {v : TV A} (h : tpart agg size cs off = some v) : lpart agg size (embC R cs) off = some (emb R v) := by
  unfold tpart at h
  unfold lpart
  cases agg
  · simp only [cond_false] at h
    rw [nth_eq] at h
    simp [embC_get, h]
  · simp only [cond_true] at h
    cases hb : Nat.ble (off + size) cs.length
    · rw [hb] at h; cases h
    · rw [hb] at h
      have hle : off + size ≤ cs.length := Nat.le_of_ble_eq_true hb
      simp only [cond_true, Option.some.injEq] at h
      subst h
      simp only [if_true]
      rw [if_pos (by rw [embC_length]; exact hle)]
      simp only [emb, embC_take, embC_drop]

end
/-! ### What might be nothing -/
section
variable {A : Nat → Type} {R : Reg A}
/-- It might be nothing. -/
def undT : TV A → Bool
  | .und => true
  | .opt _ _ => true
  | _ => false
/-- Both begin with nothing, or surely neither. -/
def fnB : List (TV A) → List (TV A) → Bool
  | [], [] => true
  | .und :: _, .und :: _ => true
  | c :: _, d :: _ => !undT c && !undT d
  | _, _ => false
theorem undT_emb {c : TV A} {r : List (TV A)} (h : undT c = false) : isUnd (embC R (c :: r)) = false := by
  cases c <;> first | rfl | (simp [undT] at h)
theorem fnB_ok {cs ds : List (TV A)} (h : fnB cs ds = true) : isUnd (embC R cs) = isUnd (embC R ds) := by
  unfold fnB at h
  split at h
  · rfl
  · rfl
  · simp only [Bool.and_eq_true, Bool.not_eq_true'] at h
    rw [undT_emb h.1, undT_emb h.2]
  · cases h
end
end Go.Lite

/- Lite, part TB: operations on typed values: what they come to, and that it is so. -/
namespace Go.Lite
open Go Go.RowKit
set_option linter.unusedVariables false

/-! ### Lists of pieces of one length -/
section
variable {α : Type} {f : α → List LV} {c : Nat}

theorem fm_length (hf : ∀ a, (f a).length = c) (xs : List α) : (xs.flatMap f).length = xs.length * c := by
  induction xs with
  | nil => simp
  | cons x r ih => simp [List.flatMap_cons, ih, hf, Nat.add_mul, Nat.add_comm]

theorem fm_drop (hf : ∀ a, (f a).length = c) : ∀ (n : Nat) (xs : List α), (xs.flatMap f).drop (n * c) = (xs.drop n).flatMap f := by
  intro n
  induction n with
  | zero => intro xs; simp
  | succ n ih =>
    intro xs
    cases xs with
    | nil => simp
    | cons x r =>
      simp only [List.flatMap_cons, List.drop_succ_cons]
      rw [← ih r, Nat.add_mul, Nat.one_mul, Nat.add_comm, List.drop_append]
      have : (f x).length = c := hf x
      rw [List.drop_eq_nil_of_le (by omega), List.nil_append]
      congr 1; omega

theorem fm_take (hf : ∀ a, (f a).length = c) : ∀ (n : Nat) (xs : List α), (xs.flatMap f).take (n * c) = (xs.take n).flatMap f := by
  intro n
  induction n with
  | zero => intro xs; simp
  | succ n ih =>
    intro xs
    cases xs with
    | nil => simp
    | cons x r =>
      simp only [List.flatMap_cons, List.take_succ_cons]
      rw [← ih r, Nat.add_mul, Nat.one_mul, Nat.add_comm, List.take_append]
      have : (f x).length = c := hf x
      rw [List.take_of_length_le (by omega)]
      congr 2; omega

theorem fm_split (hf : ∀ a, (f a).length = c) {xs : List α} {i : Nat} (hi : i < xs.length) : xs.flatMap f = (xs.take i).flatMap f ++ (f xs[i] ++ (xs.drop (i + 1)).flatMap f) ∧ ((xs.take i).flatMap f).length = i * c := by
  constructor
  · have : xs = xs.take i ++ (xs[i] :: xs.drop (i + 1)) := by rw [← List.drop_eq_getElem_cons hi, List.take_append_drop]
    exact (congrArg (List.flatMap f) this).trans (by rw [List.flatMap_append, List.flatMap_cons])
  · rw [fm_length hf, List.length_take, Nat.min_eq_left (by omega)]

theorem lpart_mid {agg : Bool} {size o : Nat} {X B C : List LV} {v : LV} (h : lpart agg size B o = some v) : lpart agg size (X ++ (B ++ C)) (X.length + o) = some v := by
  unfold lpart at *
  split at h
  · rename_i ha
    split at h
    · rename_i hl
      rw [if_pos ha, if_pos (by simp; omega)]
      obtain rfl := Option.some.inj h
      congr 2
      rw [List.drop_append, List.drop_eq_nil_of_le (by omega), List.nil_append, show X.length + o - X.length = o by omega, List.drop_append, List.take_append]
      have : (B.drop o).length = B.length - o := by simp
      rw [show size - (B.drop o).length = 0 by omega]
      simp
    · cases h
  · rename_i ha
    rw [if_neg ha]
    obtain ⟨h1, rfl⟩ := List.getElem?_eq_some_iff.1 h
    rw [List.getElem?_append_right (by omega), show X.length + o - X.length = o by omega, List.getElem?_append_left h1, List.getElem?_eq_getElem h1]

theorem putC_mid {o : Nat} {X B C vs : List LV} (h : o + vs.length ≤ B.length) : putC (X ++ (B ++ C)) (X.length + o) vs = X ++ (putC B o vs ++ C) := by
  unfold putC
  split
  · simp only [List.length_singleton] at h
    rw [List.set_append_right _ _ (by omega), show X.length + o - X.length = o by omega, List.set_append_left _ _ (by omega)]
  · unfold putCells
    rw [List.take_append, List.take_of_length_le (by omega), show X.length + o - X.length = o by omega, List.take_append, show o - B.length = 0 by omega]
    rw [List.drop_append, List.drop_eq_nil_of_le (by omega), List.nil_append, show X.length + o + vs.length - X.length = o + vs.length by omega, List.drop_append, show o + vs.length - B.length = 0 by omega]
    simp

theorem getD_get {xs : List α} {i : Nat} (d : α) (hi : i < xs.length) : xs.getD i d = xs[i] := by simp [hi]
end

def Conj : List Prop → Prop
  | [] => True
  | p :: r => p ∧ Conj r
theorem Conj.app : ∀ {a b : List Prop}, Conj (a ++ b) → Conj a ∧ Conj b
  | [], _, h => ⟨trivial, h⟩
  | _ :: _, _, h => ⟨⟨h.1, (Conj.app h.2).1⟩, (Conj.app h.2).2⟩

/-- The value is one of its kind. -/
def rng : IntKind → Int → Prop
  | .i8, n => -128 ≤ n ∧ n ≤ 127
  | .i16, n => -32768 ≤ n ∧ n ≤ 32767
  | .i32, n => -2147483648 ≤ n ∧ n ≤ 2147483647
  | .i64, n => -9223372036854775808 ≤ n ∧ n ≤ 9223372036854775807
  | .u8, n => 0 ≤ n ∧ n ≤ 255
  | .u16, n => 0 ≤ n ∧ n ≤ 65535
  | .u32, n => 0 ≤ n ∧ n ≤ 4294967295
  | .u64, n => 0 ≤ n ∧ n ≤ 18446744073709551615

theorem wrap_rng {k : IntKind} {n : Int} (h : rng k n) : k.wrap n = n := by
  cases k <;> simp only [rng] at h <;> simp [IntKind.wrap, IntKind.bits, IntKind.signed] <;> omega

/-- Sums and the like: signed kinds must not overflow, unsigned ones wrap. -/
def arith (k : IntKind) (n : Int) : List Prop × Int :=
  match k with
  | .u8 => ([], n % 256)
  | .u16 => ([], n % 65536)
  | .u32 => ([], n % 4294967296)
  | .u64 => ([], n % 18446744073709551616)
  | .i8 => ([-128 ≤ n ∧ n ≤ 127], n)
  | .i16 => ([-32768 ≤ n ∧ n ≤ 32767], n)
  | .i32 => ([-2147483648 ≤ n ∧ n ≤ 2147483647], n)
  | .i64 => ([-9223372036854775808 ≤ n ∧ n ≤ 9223372036854775807], n)

theorem arith_ok {k : IntKind} {n : Int} (h : Conj (arith k n).1) : k.wrap n = (arith k n).2 := by
  cases k <;> simp only [arith, Conj, and_true] at h ⊢ <;> simp [IntKind.wrap, IntKind.bits, IntKind.signed] <;> omega

def kEq : IntKind → IntKind → Bool
  | .i8, .i8 | .i16, .i16 | .i32, .i32 | .i64, .i64 | .u8, .u8 | .u16, .u16 | .u32, .u32 | .u64, .u64 => true
  | _, _ => false
theorem kEq_eq {k k' : IntKind} (h : kEq k k' = true) : k = k' := by cases k <;> cases k' <;> first | rfl | (simp [kEq] at h)

/-- Bits of two numbers that are not negative. -/
def band (a b : Int) : Int := ((a.toNat &&& b.toNat : Nat) : Int)
def bor (a b : Int) : Int := ((a.toNat ||| b.toNat : Nat) : Int)
def bxor (a b : Int) : Int := ((a.toNat ^^^ b.toNat : Nat) : Int)
/-- The bits of a that b lacks. -/
def bandn (k : IntKind) (a b : Int) : Int := k.wrap ((BitVec.ofInt k.bits a &&& ~~~ BitVec.ofInt k.bits b).toNat : Int)
/-- Go's quotient and remainder. -/
def quo (a b : Int) : Int := a.tdiv b
def rem (a b : Int) : Int := a.tmod b

section
variable {A : Nat → Type} (R : Reg A)

def tint (op : BinOp) (k : IntKind) (a : Int) (k' : IntKind) (b : Int) : Option (List Prop × TV A) :=
  match op with
  | .shl => some ((0 ≤ b) :: (arith k (a * 2 ^ b.toNat)).1, .int k (arith k (a * 2 ^ b.toNat)).2)
  | .shr => some ([0 ≤ b, rng k a], .int k (a / 2 ^ b.toNat))
  | _ => cond (kEq k k') (match op with
    | .add => some ((arith k (a + b)).1, .int k (arith k (a + b)).2)
    | .sub => some ((arith k (a - b)).1, .int k (arith k (a - b)).2)
    | .mul => some ((arith k (a * b)).1, .int k (arith k (a * b)).2)
    | .quo => some ([b ≠ 0, rng k (quo a b)], .int k (quo a b))
    | .rem => some ([b ≠ 0], .int k (rem a b))
    | .and => some ([0 ≤ a, 0 ≤ b, rng k a, rng k b], .int k (band a b))
    | .or => some ([0 ≤ a, 0 ≤ b, rng k a, rng k b], .int k (bor a b))
    | .xor => some ([0 ≤ a, 0 ≤ b, rng k a, rng k b], .int k (bxor a b))
    | .andNot => some ([], .int k (bandn k a b))
    | .eql => some ([], .bool (decide (a = b)))
    | .neq => some ([], .bool (!(decide (a = b))))
    | .lss => some ([], .bool (decide (a < b)))
    | .leq => some ([], .bool (decide (a ≤ b)))
    | .gtr => some ([], .bool (decide (b < a)))
    | .geq => some ([], .bool (decide (b ≤ a)))
    | _ => none) none

theorem rng_two {k : IntKind} {a : Int} (h0 : 0 ≤ a) (h : rng k a) : a < 2 ^ (k.bits) ∧ (k.signed = true → a < 2 ^ (k.bits - 1)) := by
  cases k <;> simp only [rng] at h <;> simp [IntKind.bits, IntKind.signed] <;> omega

theorem bits_toNat {k : IntKind} {a : Int} (h0 : 0 ≤ a) (h : rng k a) : (BitVec.ofInt k.bits a).toNat = a.toNat := by
  have := (rng_two h0 h).1
  rw [BitVec.toNat_ofInt]
  congr 1
  have e : ((2 ^ k.bits : Nat) : Int) = 2 ^ k.bits := by simp
  rw [e]
  exact Int.emod_eq_of_lt h0 this

theorem rng_of_lt {k : IntKind} {n : Nat} (h : n < 2 ^ k.bits) (hs : k.signed = true → n < 2 ^ (k.bits - 1)) : rng k (n : Int) := by
  cases k <;> simp [IntKind.bits, IntKind.signed] at h hs <;> simp only [rng] <;> omega

theorem toNat_lt_two {a : Int} {n : Nat} (h0 : 0 ≤ a) (h : a < 2 ^ n) : a.toNat < 2 ^ n := by
  have e : ((2 ^ n : Nat) : Int) = 2 ^ n := by simp
  omega

theorem tint_ok {op : BinOp} {k k' : IntKind} {a b : Int} {cs : List Prop} {v : TV A} (h : tint op k a k' b = some (cs, v)) (hc : Conj cs) : lbin op (.int k a) (.int k' b) = some (emb R v) := by
  have two : ∀ n : Nat, (0 : Int) < 2 ^ n := fun n => Int.pow_pos (by decide)
  by_cases h1 : op = .shl
  · subst h1
    simp only [tint, Option.some.injEq, Prod.mk.injEq] at h
    obtain ⟨rfl, rfl⟩ := h
    have hw := arith_ok hc.2
    simp only [lbin]
    rw [if_neg (by have := hc.1; omega)]
    simp only [emb]
    rw [← hw]
    congr 2
    -- beyond the kind's bits nothing is left
    rcases Nat.le_total b.toNat k.bits with hb | hb
    · rw [Nat.min_eq_left hb]
    · rw [Nat.min_eq_right hb]
      obtain ⟨j, hj⟩ : ∃ j, b.toNat = k.bits + j := ⟨b.toNat - k.bits, by omega⟩
      rw [hj, Int.pow_add, ← Int.mul_assoc]
      have : ∀ m : Int, k.wrap (m * 2 ^ k.bits) = k.wrap 0 := by
        intro m
        cases k <;> simp [IntKind.wrap, IntKind.bits, IntKind.signed] <;> omega
      rw [this, show a * 2 ^ k.bits * 2 ^ j = a * 2 ^ j * 2 ^ k.bits by rw [Int.mul_assoc, Int.mul_comm (2 ^ k.bits), ← Int.mul_assoc], this]
  · by_cases h2 : op = .shr
    · subst h2
      simp only [tint, Option.some.injEq, Prod.mk.injEq] at h
      obtain ⟨rfl, rfl⟩ := h
      simp only [lbin]
      rw [if_neg (by have := hc.1; omega)]
      simp only [emb, Option.some.injEq, LV.int.injEq, true_and]
      rw [Int.fdiv_eq_ediv_of_nonneg _ (Int.le_of_lt (two _))]
      rcases Nat.le_total b.toNat k.bits with hb | hb
      · rw [Nat.min_eq_left hb]
      · rw [Nat.min_eq_right hb]
        have hr := hc.2.1
        have small : ∀ n : Nat, k.bits ≤ n → (0 ≤ a → a / 2 ^ n = 0) ∧ (a < 0 → a / 2 ^ n = -1) := by
          intro n hn
          have hp : (2 : Int) ^ k.bits ≤ 2 ^ n := by
            have := Nat.pow_le_pow_right (show 0 < 2 by decide) hn
            have e1 : ((2 ^ n : Nat) : Int) = 2 ^ n := by simp
            have e2 : ((2 ^ k.bits : Nat) : Int) = 2 ^ k.bits := by simp
            omega
          have hb2 : a < 2 ^ k.bits ∧ -(2 ^ k.bits) ≤ a := by cases k <;> simp only [rng] at hr <;> simp [IntKind.bits] <;> omega
          refine ⟨fun h0 => Int.ediv_eq_zero_of_lt h0 (by omega), fun h0 => ?_⟩
          have p := two n
          have := Int.ediv_lt_iff_lt_mul (a := a) (b := 0) p
          have h3 : a / 2 ^ n < 0 := this.2 (by simpa using h0)
          have h4 : -1 ≤ a / 2 ^ n := (Int.le_ediv_iff_mul_le p).2 (by omega)
          omega
        rcases Int.lt_or_le a 0 with ha | ha
        · rw [(small _ (Nat.le_refl _)).2 ha, (small _ hb).2 ha]
        · rw [(small _ (Nat.le_refl _)).1 ha, (small _ hb).1 ha]
    · have hk : kEq k k' = true := by
        cases hk : kEq k k' with
        | true => rfl
        | false => cases op <;> simp [tint, hk] at h h1 h2
      have := kEq_eq hk
      subst this
      have hbits : ∀ {f : Nat → Nat → Nat}, Conj [0 ≤ a, 0 ≤ b, rng k a, rng k b] → (∀ x y n, x < 2 ^ n → y < 2 ^ n → f x y < 2 ^ n) → k.wrap ((f a.toNat b.toNat : Nat) : Int) = ((f a.toNat b.toNat : Nat) : Int) := by
        intro f ⟨p1, p2, p3, p4, _⟩ hf
        obtain ⟨a1, a2⟩ := rng_two p1 p3
        obtain ⟨b1, b2⟩ := rng_two p2 p4
        exact wrap_rng (rng_of_lt (hf _ _ _ (toNat_lt_two p1 a1) (toNat_lt_two p2 b1)) fun hs => hf _ _ _ (toNat_lt_two p1 (a2 hs)) (toNat_lt_two p2 (b2 hs)))
      cases op <;> simp only [tint, hk, cond_true, Option.some.injEq, Prod.mk.injEq, reduceCtorEq, not_true_eq_false] at h h1 h2 <;> obtain ⟨rfl, rfl⟩ := h <;> simp only [lbin, ne_eq, not_true_eq_false, if_false, emb]
      case add => rw [arith_ok hc]
      case sub => rw [arith_ok hc]
      case mul => rw [arith_ok hc]
      case quo =>
        rw [if_neg hc.1]
        rw [wrap_rng (show rng k (a.tdiv b) from hc.2.1)]; rfl
      case rem => rw [if_neg hc.1]; rfl
      case and =>
        have := hbits (f := (· &&& ·)) hc (fun x y n hx hy => Nat.and_lt_two_pow _ hy)
        obtain ⟨p1, p2, p3, p4, _⟩ := hc
        rw [BitVec.toNat_and, bits_toNat p1 p3, bits_toNat p2 p4, this]; rfl
      case or =>
        have := hbits (f := (· ||| ·)) hc (fun x y n hx hy => Nat.or_lt_two_pow hx hy)
        obtain ⟨p1, p2, p3, p4, _⟩ := hc
        rw [BitVec.toNat_or, bits_toNat p1 p3, bits_toNat p2 p4, this]; rfl
      case xor =>
        have := hbits (f := (· ^^^ ·)) hc (fun x y n hx hy => Nat.xor_lt_two_pow hx hy)
        obtain ⟨p1, p2, p3, p4, _⟩ := hc
        rw [BitVec.toNat_xor, bits_toNat p1 p3, bits_toNat p2 p4, this]; rfl
      case eql => congr 2
      case neq =>
        first | rfl | (congr 2; done) | (congr 2; by_cases e : a = b <;> simp [e])
      all_goals rfl
end
end Go.Lite
