/- Lite, part TA: typed values: a slice holds a list of a plain type; an operation's value, what it asks, the rows that it lays. -/
import Derived.Test.YthmjeeamomfifaaLiteO
import Derived.Test.YthmjeeamomfifaaLiteP
namespace Go.Lite
open Go Go.RowKit
set_option linter.unusedVariables false

inductive TV (A : Nat → Type) where
  | dead
  | und
  | bool (b : Bool)
  | int (k : IntKind) (n : Int)
  | str (s : ByteArray)
  | nilp
  | nils
  | nilf
  | ptr (h off : Nat)
  | ptrE (sz h i off : Nat)
  | pel (cs : List (TV A))
  | sl (sz h off len : Nat)
  | sla (sz h off len : Nat)
  | lst (e : Nat) (xs : List (A e))
  | fn (f : Nat) (cap : List (TV A))
  | agg (cs : List (TV A))
  | tup (cs : List (TV A))
  | opt (g : Bool) (v : TV A)

instance {A : Nat → Type} : Inhabited (TV A) := ⟨.dead⟩

/-- The types of a program's slices' elements: their cells, and back. -/
structure Reg (A : Nat → Type) where
  sz : Nat → Nat
  d : ∀ e, A e
  encL : ∀ e, A e → List LV
  enc : ∀ e, A e → List (TV A)
  dec : ∀ e, List (TV A) → Option (A e)
  el : Nat → Option Nat

section
variable {A : Nat → Type} (R : Reg A)

mutual
def emb : TV A → LV
  | .dead => .dead
  | .und => .und
  | .bool b => .bool b
  | .int k n => .int k n
  | .str s => .str s
  | .nilp => .nilp
  | .nils => .nils
  | .nilf => .nilf
  | .ptr h o => .ptr h o
  | .ptrE sz h i o => .ptr h (i * sz + o)
  | .pel cs => .pp (embC cs)
  | .sl sz h o n => .sl sz h o n
  | .sla sz h o n => .sl sz h (o * sz) n
  | .lst e xs => .ps (R.sz e) xs.length (xs.flatMap (R.encL e))
  | .fn f cs => .fn f (embC cs)
  | .agg cs => .agg (embC cs)
  | .tup cs => .tup (embC cs)
  | .opt g v => cond g (emb v) .und
def embC : List (TV A) → List LV
  | [] => []
  | c :: r => emb c :: embC r
end

theorem embC_eq (cs : List (TV A)) : embC R cs = cs.map (emb R) := by
  induction cs with
  | nil => rfl
  | cons c r ih => simp [embC, ih]

structure Reg.Ok : Prop where
  pos : ∀ e, 0 < R.sz e
  len : ∀ e a, (R.encL e a).length = R.sz e
  ok : ∀ e a, embC R (R.enc e a) = R.encL e a
  dec : ∀ e cs a, R.dec e cs = some a → embC R cs = R.encL e a
  free : ∀ e a, hfreeL (R.encL e a) = true
  sol : ∀ e a, (R.encL e a).all solid = true

end

inductive TRow (A : Nat → Type) where
  | cells (cs : List (TV A))
  | arr (e : Nat) (xs : List (A e))

abbrev TH (A : Nat → Type) := List (Option (TRow A))
abbrev TF (A : Nat → Type) := List (Nat × TV A)

section
variable {A : Nat → Type} (R : Reg A)

def embR : TRow A → List LV
  | .cells cs => embC R cs
  | .arr e xs => xs.flatMap (R.encL e)
def embO : Option (TRow A) → Option (List LV)
  | none => none
  | some r => some (embR R r)
def embH : TH A → Hp
  | [] => []
  | r :: H => embO R r :: embH H
def embF : TF A → Fr
  | [] => []
  | (t, v) :: F => (t, emb R v) :: embF F
def embW : List (Nat × Option (TRow A)) → List (Nat × Option (List LV))
  | [] => []
  | (h, r) :: ws => (h, embO R r) :: embW ws

def tget : TF A → Nat → TV A
  | [], _ => .dead
  | (s, v) :: r, t => cond (Nat.beq s t) v (tget r t)

theorem fget_embF (F : TF A) (t : Nat) : fget (embF R F) t = emb R (tget F t) := by
  induction F with
  | nil => simp [embF, fget, tget, emb]
  | cons p r ih =>
    obtain ⟨s, v⟩ := p
    simp only [embF, fget, tget]
    cases Nat.beq s t <;> simp [ih]

mutual
def upC : LV → TV A
  | .und => .und
  | .bool b => .bool b
  | .int k n => .int k n
  | .str s => .str s
  | .nilp => .nilp
  | .nils => .nils
  | .nilf => .nilf
  | .ptr h o => .ptr h o
  | .sl sz h o n => .sl sz h o n
  | .fn f cs => .fn f (upL cs)
  | .agg cs => .agg (upL cs)
  | .tup cs => .tup (upL cs)
  | _ => .dead
def upL : List LV → List (TV A)
  | [] => []
  | c :: r => upC c :: upL r
end

mutual
/-- It holds no plain memory. -/
def flat : LV → Bool
  | .ps _ _ _ => false
  | .pp _ => false
  | .fn _ cs => flatL cs
  | .agg cs => flatL cs
  | .tup cs => flatL cs
  | _ => true
def flatL : List LV → Bool
  | [] => true
  | c :: r => flat c && flatL r
end

mutual
theorem emb_up : ∀ (x : LV), flat x = true → emb R (upC x) = x
  | .dead, _ => rfl
  | .und, _ => rfl
  | .bool _, _ => rfl
  | .int _ _, _ => rfl
  | .str _, _ => rfl
  | .nilp, _ => rfl
  | .nils, _ => rfl
  | .nilf, _ => rfl
  | .ptr _ _, _ => rfl
  | .sl _ _ _ _, _ => rfl
  | .fn f cs, h => by simp only [upC, emb]; rw [embC_up cs (by simpa [flat] using h)]
  | .agg cs, h => by simp only [upC, emb]; rw [embC_up cs (by simpa [flat] using h)]
  | .tup cs, h => by simp only [upC, emb]; rw [embC_up cs (by simpa [flat] using h)]
  | .ps _ _ _, h => by simp [flat] at h
  | .pp _, h => by simp [flat] at h
theorem embC_up : ∀ (cs : List LV), flatL cs = true → embC R (upL cs) = cs
  | [], _ => rfl
  | c :: r, h => by
    simp only [flatL, Bool.and_eq_true] at h
    simp only [upL, embC]
    rw [emb_up c h.1, embC_up r h.2]
end

theorem flat_scalar (v : Value) : flat (scalarLV v) = true := by
  unfold scalarLV; split <;> rfl
theorem flat_const (v : Value) : flat (constLV v) = true := by
  unfold constLV
  split
  · rename_i cs
    simp only [flat]
    have : ∀ (l : List Value), flatL (l.map scalarLV) = true := by
      intro l
      induction l with
      | nil => rfl
      | cons c r ih => simp [flatL, flat_scalar, ih]
    exact this _
  · exact flat_scalar v

def tO (F : TF A) : Operand → TV A
  | .tmp t => tget F t
  | .const v => upC (constLV v)
  | .global _ => .dead
  | .func f => .fn f []

theorem evalO_emb (F : TF A) (o : Operand) : evalO (embF R F) o = emb R (tO F o) := by
  cases o with
  | tmp t => exact fget_embF R F t
  | const v => exact (emb_up R _ (flat_const v)).symm
  | global g => rfl
  | func f => rfl

def nth {α : Type} : List α → Nat → Option α
  | [], _ => none
  | x :: _, 0 => some x
  | _ :: r, n + 1 => nth r n

theorem nth_eq {α : Type} : ∀ (l : List α) (n : Nat), nth l n = l[n]? := by
  intro l
  induction l with
  | nil => intro n; simp [nth]
  | cons x r ih => intro n; cases n <;> simp [nth, ih]

def trow (H : TH A) (h : Nat) : Option (TRow A) := match nth H h with
  | some (some r) => some r
  | _ => none

theorem embH_get (H : TH A) (h : Nat) : (embH R H)[h]? = (H[h]?).map (embO R) := by
  induction H generalizing h with
  | nil => simp [embH]
  | cons r H ih => cases h <;> simp [embH, ih]

theorem embH_length (H : TH A) : (embH R H).length = H.length := by
  induction H with
  | nil => rfl
  | cons r H ih => simp [embH, ih]

theorem row_emb {H : TH A} {h : Nat} {r : TRow A} (hr : trow H h = some r) : row (embH R H) h = some (embR R r) := by
  unfold trow at hr
  rw [nth_eq] at hr
  split at hr
  · rename_i r' h'
    obtain rfl := Option.some.inj hr
    unfold row
    rw [embH_get, h']
    rfl
  · cases hr

def tpart (agg : Bool) (size : Nat) (cs : List (TV A)) (off : Nat) : Option (TV A) :=
  cond agg (cond (Nat.ble (off + size) cs.length) (some (.agg ((cs.drop off).take size))) none) (nth cs off)

theorem embC_length (cs : List (TV A)) : (embC R cs).length = cs.length := by rw [embC_eq]; simp
theorem embC_drop (cs : List (TV A)) (n : Nat) : embC R (cs.drop n) = (embC R cs).drop n := by rw [embC_eq, embC_eq, List.map_drop]
theorem embC_take (cs : List (TV A)) (n : Nat) : embC R (cs.take n) = (embC R cs).take n := by rw [embC_eq, embC_eq, List.map_take]
theorem embC_append (cs ds : List (TV A)) : embC R (cs ++ ds) = embC R cs ++ embC R ds := by rw [embC_eq, embC_eq, embC_eq, List.map_append]
theorem embC_get (cs : List (TV A)) (n : Nat) : (embC R cs)[n]? = (cs[n]?).map (emb R) := by rw [embC_eq, List.getElem?_map]

theorem tpart_emb {agg : Bool} {size : Nat} {cs : List (TV A)} {off : Nat} {v : TV A} (h : tpart agg size cs off = some v) : lpart agg size (embC R cs) off = some (emb R v) := by
  unfold tpart at h
  unfold lpart
  cases agg
  · simp only [cond_false] at h
    rw [nth_eq] at h
    simp [embC_get, h]
  · simp only [cond_true] at h
    cases hb : Nat.ble (off + size) cs.length
    · rw [hb] at h; cases h
    · rw [hb] at h
      have hle : off + size ≤ cs.length := Nat.le_of_ble_eq_true hb
      simp only [cond_true, Option.some.injEq] at h
      subst h
      simp only [if_true]
      rw [if_pos (by rw [embC_length]; exact hle)]
      simp only [emb, embC_take, embC_drop]

end
end Go.Lite
