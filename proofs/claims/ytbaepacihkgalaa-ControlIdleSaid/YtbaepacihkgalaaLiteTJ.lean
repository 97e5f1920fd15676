/- Lite, parts TI TJ. -/
import Derived.Test.YtbaepacihkgalaaLiteTB
set_option linter.unusedVariables false
set_option linter.unusedSimpArgs false

/- Lite, part TC: the operations that compute or read, on typed values. -/
namespace Go.Lite
open Go Go.RowKit
set_option linter.unusedVariables false

section
variable {A : Nat → Type} (R : Reg A)

def decAll (e : Nat) : Nat → List (TV A) → Option (List (A e))
  | 0, _ => some []
  | k + 1, cs => match R.dec e (cs.take (R.sz e)), decAll e k (cs.drop (R.sz e)) with
    | some a, some r => some (a :: r)
    | _, _ => none

theorem decAll_ok (hR : R.Ok) {e : Nat} : ∀ (k : Nat) (cs : List (TV A)) (xs : List (A e)), cs.length = k * R.sz e → decAll R e k cs = some xs → embC R cs = xs.flatMap (R.encL e) ∧ xs.length = k := by
  intro k
  induction k with
  | zero =>
    intro cs xs hl h
    obtain rfl := Option.some.inj h
    have : cs = [] := List.eq_nil_of_length_eq_zero (by simpa using hl)
    subst this
    exact ⟨rfl, rfl⟩
  | succ k ih =>
    intro cs xs hl h
    simp only [decAll] at h
    split at h
    · rename_i a r h1 h2
      obtain rfl := Option.some.inj h
      obtain ⟨i1, i2⟩ := ih _ _ (by rw [List.length_drop, hl, Nat.add_mul]; omega) h2
      have := hR.dec e _ a h1
      refine ⟨?_, by simp [i2]⟩
      rw [List.flatMap_cons, ← this, ← i1, ← embC_append, List.take_append_drop]
    · cases h

def tcells : TV A → Option (List (TV A))
  | .agg cs => some cs
  | .dead => none
  | .und => none
  | .tup _ => none
  | .opt _ _ => none
  | v => some [v]

theorem tcells_emb {v : TV A} {cs : List (TV A)} (h : tcells v = some cs) : lcells (emb R v) = some (embC R cs) := by
  cases v <;> simp only [tcells, reduceCtorEq, Option.some.injEq] at h <;> subst h <;> simp [emb, embC, lcells]

/-- The byte at a place. -/
def sat (s : ByteArray) (i : Nat) : Nat := (s.data.toList.getD i 0).toNat

theorem sat_eq {s : ByteArray} {i : Nat} (h : i < s.size) : s[i]? = some (UInt8.ofNat (sat s i)) ∧ (UInt8.ofNat (sat s i)).toNat = sat s i := by
  have hd : i < s.data.size := h
  have e : s.data.toList.getD i 0 = s[i] := by
    rw [List.getD_eq_getElem?_getD, Array.getElem?_toList, Array.getElem?_eq_getElem hd]; rfl
  unfold sat
  rw [e]
  refine ⟨?_, by simp⟩
  rw [getElem?_pos s i h]
  simp

def gen (τ : TT) (F : TF A) (op : Op) : Option (List Prop × TV A) :=
  match pureOp τ (embF R F) op with
  | some x => cond (flat x) (some ([], upC x)) none
  | none => none

theorem gen_ok {τ : TT} {F : TF A} {op : Op} {cs : List Prop} {v : TV A} (h : gen R τ F op = some (cs, v)) : pureOp τ (embF R F) op = some (emb R v) := by
  unfold gen at h
  split at h
  · rename_i x hx
    cases hf : flat x with
    | false => rw [hf] at h; cases h
    | true =>
      rw [hf] at h
      simp only [cond_true, Option.some.injEq, Prod.mk.injEq] at h
      obtain ⟨_, rfl⟩ := h
      rw [hx, emb_up R x hf]
  · cases h

def loI (F : TF A) : Option Operand → Option Int
  | none => some 0
  | some o => match tO F o with
    | .int _ n => some n
    | _ => none
def hiI (F : TF A) (len : Int) : Option Operand → Option Int
  | none => some len
  | some o => match tO F o with
    | .int _ n => some n
    | _ => none

theorem loI_emb {F : TF A} {lo : Option Operand} {l : Int} (h : loI F lo = some l) : loOf (lo.map (evalO (embF R F))) = some l := by
  cases lo with
  | none => exact h
  | some o =>
    simp only [loI] at h
    split at h
    · rename_i k n e
      simp only [Option.map_some, loOf, evalO_emb R, e, emb, asI]; exact h
    · cases h
theorem hiI_emb {F : TF A} {len : Nat} {hi : Option Operand} {l : Int} (h : hiI F len hi = some l) : hiOf len (hi.map (evalO (embF R F))) = some l := by
  cases hi with
  | none => exact h
  | some o =>
    simp only [hiI] at h
    split at h
    · rename_i k n e
      simp only [Option.map_some, hiOf, evalO_emb R, e, emb, asI]; exact h
    · cases h

def isN {α : Type} : Option α → Bool
  | none => true
  | some _ => false

/-- The part of a list. -/
def sub {α : Type} (xs : List α) (lo hi : Bool) (l h : Int) : List α :=
  match lo, hi with
  | true, true => xs
  | true, false => xs.take h.toNat
  | false, true => xs.drop l.toNat
  | false, false => (xs.drop l.toNat).take (h.toNat - l.toNat)

theorem sub_eq {α : Type} {xs : List α} {F : TF A} {lo hi : Option Operand} {l h : Int} (h1 : loI F lo = some l) (h2 : hiI F xs.length hi = some h) (h3 : 0 ≤ l ∧ l ≤ h ∧ h ≤ xs.length) :
    sub xs (isN lo) (isN hi) l h = (xs.drop l.toNat).take (h.toNat - l.toNat) ∧ (sub xs (isN lo) (isN hi) l h).length = h.toNat - l.toNat := by
  have e : sub xs (isN lo) (isN hi) l h = (xs.drop l.toNat).take (h.toNat - l.toNat) := by
    cases lo with
    | none =>
      obtain rfl := Option.some.inj h1
      cases hi with
      | none =>
        obtain rfl := Option.some.inj h2
        simp [isN, sub]
      | some o => simp [isN, sub]
    | some o =>
      cases hi with
      | none =>
        obtain rfl := Option.some.inj h2
        simp only [isN, sub]
        rw [List.take_of_length_le (by simp)]
      | some o' => rfl
  refine ⟨e, ?_⟩
  rw [e, List.length_take, List.length_drop]
  omega

def subLen (len : Nat) (lo hi : Bool) (l h : Int) : Nat :=
  match lo, hi with
  | true, true => len
  | true, false => h.toNat
  | false, true => len - l.toNat
  | false, false => h.toNat - l.toNat
def subOff (o : Nat) (lo : Bool) (l : Int) : Nat := cond lo o (l.toNat + o)

def tmin : List (TV A) → TV A → Option (TV A)
  | [], x => some x
  | .int _ y :: r, .int k x => tmin r (.int k (min x y))
  | _, _ => none
def tmax : List (TV A) → TV A → Option (TV A)
  | [], x => some x
  | .int _ y :: r, .int k x => tmax r (.int k (max x y))
  | _, _ => none

theorem tmin_emb : ∀ (l : List (TV A)) (x v : TV A), tmin l x = some v → lmin (l.map (emb R)) (emb R x) = some (emb R v) := by
  intro l
  induction l with
  | nil => intro x v h; obtain rfl := Option.some.inj h; rfl
  | cons y r ih =>
    intro x v h
    cases y <;> cases x <;> simp only [tmin, reduceCtorEq] at h
    rename_i k' y k x
    have := ih _ _ h
    have e : min x y = (if y < x then y else x) := by
      rcases Int.lt_or_le y x with h | h
      · rw [if_pos h]; omega
      · rw [if_neg (by omega)]; omega
    rw [e] at this
    simpa only [List.map_cons, emb, lmin] using this
theorem tmax_emb : ∀ (l : List (TV A)) (x v : TV A), tmax l x = some v → lmax (l.map (emb R)) (emb R x) = some (emb R v) := by
  intro l
  induction l with
  | nil => intro x v h; obtain rfl := Option.some.inj h; rfl
  | cons y r ih =>
    intro x v h
    cases y <;> cases x <;> simp only [tmax, reduceCtorEq] at h
    rename_i k' y k x
    have := ih _ _ h
    have e : max x y = (if x < y then y else x) := by
      rcases Int.lt_or_le x y with h | h
      · rw [if_pos h]; omega
      · rw [if_neg (by omega)]; omega
    rw [e] at this
    simpa only [List.map_cons, emb, lmax] using this

def tput (cs : List (TV A)) (o : Nat) : List (TV A) → List (TV A)
  | [d] => cs.set o d
  | ds => cs.take o ++ ds ++ cs.drop (o + ds.length)

theorem tput_emb (cs : List (TV A)) (o : Nat) (ds : List (TV A)) : embC R (tput cs o ds) = putC (embC R cs) o (embC R ds) := by
  unfold tput putC
  split
  · simp only [embC, embC_eq, List.map_set]
  · rename_i hne
    split
    · rename_i d hd
      exfalso
      have : ds.length = 1 := by rw [← embC_length R, hd]; rfl
      match ds, this with
      | [x], _ => exact hne x rfl
    · simp only [putCells, embC_append, embC_take, embC_drop, embC_length]

def tfill (place : Nat → Option (Nat × Nat)) (cells : List (TV A)) : List (Nat × TV A) → Option (List (TV A))
  | [] => some cells
  | (i, v) :: rest =>
    match place i, tcells v with
    | some (off, size), some cs => cond (Nat.beq cs.length size && Nat.ble (off + cs.length) cells.length) (tfill place (cells.take off ++ cs ++ cells.drop (off + cs.length)) rest) none
    | _, _ => none

theorem tfill_emb (place : Nat → Option (Nat × Nat)) : ∀ (ps : List (Nat × TV A)) (cells r : List (TV A)), tfill place cells ps = some r → lfill place (embC R cells) (ps.map fun p => (p.1, emb R p.2)) = some (embC R r) := by
  intro ps
  induction ps with
  | nil => intro cells r h; obtain rfl := Option.some.inj h; rfl
  | cons p ps ih =>
    intro cells r h
    obtain ⟨i, v⟩ := p
    simp only [tfill] at h
    split at h
    · rename_i off size cs hp hc
      cases hb : Nat.beq cs.length size && Nat.ble (off + cs.length) cells.length with
      | false => rw [hb] at h; cases h
      | true =>
        rw [hb] at h
        simp only [Bool.and_eq_true] at hb
        have e1 := Nat.eq_of_beq_eq_true hb.1
        have e2 := Nat.le_of_ble_eq_true hb.2
        simp only [List.map_cons, lfill, hp, tcells_emb R hc]
        rw [if_neg (by rw [embC_length, embC_length]; omega)]
        have := ih _ _ h
        rw [embC_append, embC_append, embC_take, embC_drop] at this
        simp only [putCells, embC_length]
        exact this
    · cases h

/-- The part of a list from o on, of length m. -/
def cut {α : Type} (xs : List α) (o m : Nat) : List α := match o with
  | 0 => xs.take m
  | o + 1 => (xs.drop (o + 1)).take m

theorem cut_eq {α : Type} (xs : List α) (o m : Nat) : cut xs o m = (xs.drop o).take m := by
  cases o <;> rfl
theorem cut_length {α : Type} {xs : List α} {o m : Nat} (h : o + m ≤ xs.length) : (cut xs o m).length = m := by
  rw [cut_eq, List.length_take, List.length_drop]; omega

def tbytes (H : TH A) : TV A → Option (List Prop × TV A)
  | .nils => some ([], .str (strOfNums []))
  | .lst e xs => (match R.byt e with | some f => cond (Nat.beq (R.sz e) 1) (some ([], .str (strOfNums (f xs)))) none | none => none)
  | .sla sz h o n => (match trow H h with
    | some (.arr e xs) => (match R.byt e with | some f => cond (Nat.beq sz 1 && Nat.beq (R.sz e) 1) (some ([o + n ≤ xs.length], .str (strOfNums (f (cut xs o n))))) none | none => none)
    | _ => none)
  | _ => none
/-- Values that are computed or read; what is asked. -/
def tval (τ : TT) (F : TF A) (H : TH A) (op : Op) : Option (List Prop × TV A) :=
  match op with
  | .move x => some ([], tO F x)
  | .assign x => some ([], tO F x)
  | .binOp o t x y u => (match tO F x, tO F y with
    | .int k a, .int k' b => tint o k a k' b
    | .str a, .str b => (match o with
      | .add => some ([((a.size + b.size : Nat) : Int) ≤ 9223372036854775807], .str (a ++ b))
      | o => gen R τ F (.binOp o t x y u))
    | _, _ => gen R τ F (.binOp o t x y u))
  | .unOp .neg t x => (match tO F x with
    | .int k n => some ((arith k (-n)).1, .int k (arith k (-n)).2)
    | _ => none)
  | .unOp .not t x => (match tO F x with
    | .bool b => some ([], .bool (!b))
    | _ => none)
  | .convert s d x => (match τ s, τ d, tO F x with
    | some _, some ⟨.int k, _, _, _⟩, .int _ n => some ((arith k n).1, .int k (arith k n).2)
    | some _, some ⟨.str, _, _, _⟩, .str b => some ([], .str b)
    | _, some ⟨.str, _, _, _⟩, y => cond (Nat.beq (τ.nilk s) 3) (tbytes R H y) none
    | _, _, _ => none)
  | .makeFunc (.func f) first cap => cond (Nat.beq first.size 0) (match cap.toList.map (tO F) with | [] => some ([], .fn f []) | c :: r => cond (undT c) none (some ([], .fn f (c :: r)))) (cond (Nat.beq cap.size 0) (some ([], .fn f (.und :: first.toList.map (tO F)))) none)
  | .extract x i => (match tO F x with
    | .tup vs => (match nth vs i with | some v => some ([], v) | none => none)
    | _ => none)
  | .nilCheck x => (match tO F x with
    | .ptr h o => some ([], .ptr h o)
    | .ptrE sz h i o => some ([], .ptrE sz h i o)
    | .pel cs => some ([], .pel cs)
    | .fn f cs => some ([], .fn f cs)
    | _ => none)
  | .fieldAddr s x f => (match τ s, tO F x with
    | some ⟨.struct fs, _, _, _⟩, .ptr h o => (match nth fs f with | some (off, size, _) => cond (Nat.beq size 0) none (some ([], .ptr h (o + off))) | none => none)
    | some ⟨.struct fs, _, _, _⟩, .ptrE sz h i o => (match nth fs f with | some (off, size, _) => cond (Nat.beq size 0) none (some ([], .ptrE sz h i (o + off))) | none => none)
    | some ⟨.struct fs, _, _, _⟩, .pel cs => (match nth fs f with | some (off, size, _) => cond (Nat.beq size 0) none (some ([], .pel (cs.drop off))) | none => none)
    | _, _ => none)
  | .field s x f => (match τ s, tO F x with
    | some ⟨.struct fs, _, _, _⟩, .agg cs => (match nth fs f with | some (off, size, agg) => (match tpart agg size cs off with | some v => some ([], v) | none => none) | none => none)
    | _, _ => none)
  | .indexAddr t x i => (match τ t, tO F x, tO F i with
    | some ⟨.slice esz _ _, _, _, _⟩, .lst e xs, .int _ m => cond (Nat.beq (R.sz e) esz) (some ([0 ≤ m ∧ m < xs.length], .pel (R.enc e (xs.getD m.toNat (R.d e))))) none
    | some ⟨.slice esz _ _, _, _, _⟩, .sla sz h o len, .int _ m => cond (Nat.beq sz esz) (some ([0 ≤ m ∧ m < len], .ptrE sz h (m.toNat + o) 0)) none
    | some ⟨.slice esz _ _, _, _, _⟩, .sl sz h o len, .int _ m => cond (Nat.beq sz esz) (some ([0 ≤ m ∧ m < len], .ptr h (o + m.toNat * sz))) none
    | some ⟨.arr m esz _, _, _, _⟩, .ptr h o, .int _ n => (match trow H h with
      | some (.arr e _) => cond (Nat.beq (R.sz e) esz && Nat.beq o 0) (some ([0 ≤ n ∧ n < m], .ptrE esz h n.toNat 0)) (some ([0 ≤ n ∧ n < m], .ptr h (o + n.toNat * esz)))
      | _ => some ([0 ≤ n ∧ n < m], .ptr h (o + n.toNat * esz)))
    | some ⟨.arr m esz _, _, _, _⟩, .ptrE sz h i o, .int _ n => some ([0 ≤ n ∧ n < m], .ptrE sz h i (o + n.toNat * esz))
    | some ⟨.arr m esz _, _, _, _⟩, .pel cs, .int _ n => some ([0 ≤ n ∧ n < m], .pel (cs.drop (n.toNat * esz)))
    | _, _, _ => none)
  | .index t x i => (match τ t, tO F x, tO F i with
    | some ⟨.arr m esz eagg, _, _, _⟩, .agg cs, .int _ n => (match tpart eagg esz cs (n.toNat * esz) with | some v => some ([0 ≤ n ∧ n < m], v) | none => none)
    | some ⟨.str, _, _, _⟩, .str s, .int _ n => some ([0 ≤ n ∧ n < s.size], .int .u8 (sat s n.toNat))
    | _, _, _ => none)
  | .build t ps => (match τ t with
    | some ⟨.struct fs, _, _, z⟩ => cond (flatL z) (match tfill (fun i => (nth fs i).map fun f => (f.1, f.2.1)) (upL z) (ps.toList.map fun p => (p.1, tO F p.2)) with | some cs => some ([], .agg cs) | none => none) none
    | some ⟨.arr n esz _, _, _, z⟩ => cond (flatL z) (match tfill (fun i => some (i * esz, esz)) (upL z) (ps.toList.map fun p => (p.1, tO F p.2)) with | some cs => some ([], .agg cs) | none => none) none
    | _ => none)
  | .slice t x lo hi none => (match τ t, tO F x with
    | some ⟨.slice esz _ _, _, _, _⟩, .lst e xs => (match loI F lo, hiI F xs.length hi with
      | some l, some h => cond (Nat.beq (R.sz e) esz) (some ([0 ≤ l ∧ l ≤ h ∧ h ≤ xs.length], .lst e (sub xs (isN lo) (isN hi) l h))) none
      | _, _ => none)
    | some ⟨.slice esz _ _, _, _, _⟩, .sla sz r o len => (match loI F lo, hiI F len hi with
      | some l, some h => cond (Nat.beq sz esz) (some ([0 ≤ l ∧ l ≤ h ∧ h ≤ len], .sla sz r (subOff o (isN lo) l) (subLen len (isN lo) (isN hi) l h))) none
      | _, _ => none)
    | some ⟨.slice esz _ _, _, _, _⟩, .nils => (match loI F lo, hiI F (0 : Nat) hi with
      | some l, some h => some ([0 ≤ l ∧ l ≤ h ∧ h ≤ 0], .nils)
      | _, _ => none)
    | some ⟨.str, _, _, _⟩, .str s => (match loI F lo, hiI F s.size hi with
      | some l, some h => some ([0 ≤ l ∧ l ≤ h ∧ h ≤ s.size], .str (s.extract l.toNat h.toNat))
      | _, _ => none)
    | some ⟨.arr m esz _, _, _, _⟩, .ptr q o => (match loI F lo, hiI F m hi with
      | some l, some h => (match trow H q with
        | some (.arr e xs) => cond (Nat.beq (R.sz e) esz && Nat.beq o 0) (some ([0 ≤ l ∧ l ≤ h ∧ h ≤ m, l < m, m ≤ xs.length], .sla esz q (subOff 0 (isN lo) l) (subLen m (isN lo) (isN hi) l h))) none
        | some (.cells cs) => cond (Nat.ble (o + m * esz) cs.length) (some ([0 ≤ l ∧ l ≤ h ∧ h ≤ m, l < m], .sl esz q (o + l.toNat * esz) (h.toNat - l.toNat))) none
        | none => none)
      | _, _ => none)
    | some ⟨.arr m esz _, _, _, _⟩, .pel cs => (match lo, hi, R.el t with
      | none, none, some e => cond (Nat.beq (R.sz e) esz && Nat.beq cs.length (m * esz) && Nat.blt 0 m) (match decAll R e m cs with
        | some xs => some ([], .lst e xs)
        | none => none) none
      | _, _, _ => none)
    | _, _ => none)
  | .call ⟨.builtin .len, args, tys⟩ => (match tys[0]?, args[0]? with
    | some t, some x => (match τ t, tO F x with
      | some ⟨.str, _, _, _⟩, .str s => some ([], .int .i64 s.size)
      | some ⟨.slice _ _ _, _, _, _⟩, .lst e xs => some ([], .int .i64 xs.length)
      | some ⟨.slice _ _ _, _, _, _⟩, .sla _ _ _ n => some ([], .int .i64 n)
      | some ⟨.slice _ _ _, _, _, _⟩, .sl _ _ _ n => some ([], .int .i64 n)
      | some ⟨.slice _ _ _, _, _, _⟩, .nils => some ([], .int .i64 (0 : Nat))
      | some ⟨.arr n _ _, _, _, _⟩, _ => some ([], .int .i64 n)
      | _, _ => none)
    | _, _ => none)
  | .call ⟨.builtin .min, args, _⟩ => (match args.toList.map (tO F) with
    | x :: r => (match tmin r x with | some v => some ([], v) | none => none)
    | [] => none)
  | .call ⟨.builtin .max, args, _⟩ => (match args.toList.map (tO F) with
    | x :: r => (match tmax r x with | some v => some ([], v) | none => none)
    | [] => none)
  | .load t x => (match τ t, tO F x with
    | some ti, .ptr h o => (match trow H h with
      | some (.cells cs) => (match tpart ti.agg ti.size cs o with | some v => some ([], v) | none => none)
      | _ => none)
    | some ti, .ptrE sz h i o => (match trow H h with
      | some (.arr e xs) => cond (Nat.beq sz (R.sz e)) (match tpart ti.agg ti.size (R.enc e (xs.getD i (R.d e))) o with | some v => some ([i < xs.length], v) | none => none) none
      | _ => none)
    | some ti, .pel cs => (match tpart ti.agg ti.size cs 0 with | some v => some ([], v) | none => none)
    | _, _ => none)
  | .pick c (.const (.bool true)) b => (match tO F c, tO F b with
    | .bool p, .bool q => some ([], .bool (p || q))
    | .bool p, .opt g (.bool q) => some ([p = false → g = true], .bool (p || q))
    | .bool p, .und => some ([p = true], .bool true)
    | _, _ => none)
  | .pick c a (.const (.bool false)) => (match tO F c, tO F a with
    | .bool p, .bool q => some ([], .bool (p && q))
    | .bool p, .opt g (.bool q) => some ([p = true → g = true], .bool (p && q))
    | .bool p, .und => some ([p = false], .bool false)
    | _, _ => none)
  | op => gen R τ F op

end
end Go.Lite

/- Lite, part TD: values that are computed or read are as tval says. -/
namespace Go.Lite
open Go Go.RowKit
set_option linter.unusedVariables false

section
variable {A : Nat → Type} {R : Reg A}

theorem valP_pure {τ : TT} {F : Fr} {H : Hp} {op : Op} {x : LV} (h : pureOp τ F op = some x) : valP τ F H op = some x := by unfold valP; rw [h]
theorem valP_load {τ : TT} {F : Fr} {H : Hp} {t : TypeId} {a : Operand} {x : LV} (h : loadOp τ F H (.load t a) = some x) : valP τ F H (.load t a) = some x := h

theorem embL_eq (F : TF A) (l : List Operand) : l.map (evalO (embF R F)) = embC R (l.map (tO F)) := by
  rw [embC_eq, List.map_map]
  exact List.map_congr_left fun o _ => evalO_emb R F o

theorem parts_emb (F : TF A) (ps : List (Nat × Operand)) : (ps.map fun p => (p.1, evalO (embF R F) p.2)) = (ps.map fun p => (p.1, tO F p.2)).map fun p => (p.1, emb R p.2) := by
  rw [List.map_map]
  exact List.map_congr_left fun p _ => by simp [evalO_emb R F]

theorem subs_eq {F : TF A} {lo hi : Option Operand} {l h : Int} {o len : Nat} (h1 : loI F lo = some l) (h2 : hiI F len hi = some h) (h3 : 0 ≤ l ∧ l ≤ h ∧ h ≤ len) :
    subOff o (isN lo) l = l.toNat + o ∧ subLen len (isN lo) (isN hi) l h = h.toNat - l.toNat := by
  cases lo with
  | none =>
    obtain rfl := Option.some.inj h1
    cases hi with
    | none =>
      obtain rfl := Option.some.inj h2
      exact ⟨by simp [subOff, isN], by simp [subLen, isN]⟩
    | some o' => exact ⟨by simp [subOff, isN], by simp [subLen, isN]⟩
  | some o' =>
    cases hi with
    | none =>
      obtain rfl := Option.some.inj h2
      exact ⟨by simp [subOff, isN], by simp [subLen, isN]⟩
    | some o'' => exact ⟨by simp [subOff, isN], by simp [subLen, isN]⟩

theorem tbytes_ok (hR : R.Ok) {τ : TT} {F : TF A} {H : TH A} {s d : TypeId} {x : Operand} {sz : Nat} {ag : Bool} {z : List LV} {cs : List Prop} {v : TV A} (hno : ∀ (val : TI) (b : ByteArray), τ.ti s = some val → tO F x = .str b → False) (hk : Nat.beq (τ.nilk s) 3 = true) (h2 : τ d = some ⟨.str, sz, ag, z⟩)
    (h : tbytes R H (tO F x) = some (cs, v)) (hc : Conj cs) : valP τ (embF R F) (embH R H) (.convert s d x) = some (emb R v) := by
  have E := evalO_emb R F
  have hp : pureOp τ (embF R F) (.convert s d x) = none := by
    simp only [pureOp, E, h2]
    split
    · rename_i e _; simp at e
    · rename_i b e1 e2 e3
      exfalso
      cases hx : tO F x <;> rw [hx] at e3 h <;> simp only [emb, reduceCtorEq] at e3
      · exact hno _ _ (by assumption) hx
      · simp [tbytes] at h
    · rfl
  have fin : ∀ ns, bytesAt (embH R H) (emb R (tO F x)) = some ns → valP τ (embF R F) (embH R H) (.convert s d x) = some (.str (strOfNums ns)) := fun ns hb => by
    unfold valP
    rw [hp]
    simp only [loadOp, hk, if_true, h2, E, hb]
  have by1 : ∀ {e : Nat} {f : List (A e) → List Int} (xs : List (A e)), R.byt e = some f → u8s (xs.flatMap (R.encL e)) = some (f xs) := fun xs hf => by rw [hR.byt _ _ hf, u8s_map]
  unfold tbytes at h
  split at h
  · rename_i hx
    simp only [Option.some.injEq, Prod.mk.injEq] at h
    obtain ⟨_, rfl⟩ := h
    exact fin [] (by rw [hx]; rfl)
  · rename_i e xs hx
    split at h
    · rename_i f hf
      cases hb : Nat.beq (R.sz e) 1 with
      | false => rw [hb] at h; cases h
      | true =>
        rw [hb] at h
        simp only [cond_true, Option.some.injEq, Prod.mk.injEq] at h
        obtain ⟨_, rfl⟩ := h
        refine fin (f xs) ?_
        rw [hx]
        simp only [emb, bytesAt, Nat.eq_of_beq_eq_true hb, if_true]
        exact by1 xs hf
    · cases h
  · rename_i sz' h' o n hx
    split at h
    · rename_i e xs hr
      split at h
      · rename_i f hf
        cases hb : Nat.beq sz' 1 && Nat.beq (R.sz e) 1 with
        | false => rw [hb] at h; cases h
        | true =>
          rw [hb] at h
          simp only [cond_true, Option.some.injEq, Prod.mk.injEq] at h
          obtain ⟨rfl, rfl⟩ := h
          rw [Bool.and_eq_true] at hb
          obtain ⟨c1, _⟩ := hc
          have hz := Nat.eq_of_beq_eq_true hb.1
          have hre := Nat.eq_of_beq_eq_true hb.2
          refine fin _ ?_
          rw [hx]
          subst hz
          have hl : ∀ a, (R.encL e a).length = 1 := fun a => by rw [hR.len, hre]
          simp only [emb, bytesAt, if_true, row_emb R hr, embR, Nat.mul_one]
          rw [if_pos (by rw [fm_length hl]; omega)]
          have d1 := fm_drop hl o xs
          have d2 := fm_take hl n (xs.drop o)
          rw [Nat.mul_one] at d1 d2
          rw [d1, d2, cut_eq]
          exact by1 _ hf
      · cases h
    · cases h
  · cases h

theorem tval_ok (hR : R.Ok) {τ : TT} {F : TF A} {H : TH A} {op : Op} {cs : List Prop} {v : TV A} (h : tval R τ F H op = some (cs, v)) (hc : Conj cs) : valP τ (embF R F) (embH R H) op = some (emb R v) := by
  have hg : ∀ {op : Op}, gen R τ F op = some (cs, v) → valP τ (embF R F) (embH R H) op = some (emb R v) := fun h => valP_pure (gen_ok R h)
  have E := evalO_emb R F
  unfold tval at h
  split at h
  · simp only [Option.some.injEq, Prod.mk.injEq] at h
    obtain ⟨_, rfl⟩ := h
    exact valP_pure (by simp only [pureOp, E])
  · simp only [Option.some.injEq, Prod.mk.injEq] at h
    obtain ⟨_, rfl⟩ := h
    exact valP_pure (by simp only [pureOp, E])
  · split at h
    · rename_i k a k' b hx hy
      refine valP_pure ?_
      simp only [pureOp, E, hx, hy, emb]
      have := tint_ok R h hc
      unfold lbinT
      exact this
    · rename_i a b hx hy
      split at h
      · simp only [Option.some.injEq, Prod.mk.injEq] at h
        obtain ⟨rfl, rfl⟩ := h
        refine valP_pure ?_
        simp only [pureOp, E, hx, hy, emb]
        unfold lbinT
        simp only [lbin]
        rw [if_neg (by have := hc.1; have e : IntKind.max .i64 = 9223372036854775807 := rfl; rw [e]; omega)]
      · exact hg h
    · exact hg h
  · split at h
    · rename_i k n hx
      simp only [Option.some.injEq, Prod.mk.injEq] at h
      obtain ⟨rfl, rfl⟩ := h
      refine valP_pure ?_
      simp only [pureOp, E, hx, emb, lun]
      rw [show (0 : Int) - n = -n by omega, arith_ok hc]
    · cases h
  · split at h
    · rename_i b hx
      simp only [Option.some.injEq, Prod.mk.injEq] at h
      obtain ⟨rfl, rfl⟩ := h
      exact valP_pure (by simp only [pureOp, E, hx, emb, lun])
    · cases h
  · split at h
    · rename_i ti k sz ag z k0 n h1 h2 hx
      simp only [Option.some.injEq, Prod.mk.injEq] at h
      obtain ⟨rfl, rfl⟩ := h
      refine valP_pure ?_
      simp only [pureOp, E, h1, h2, hx, emb]
      rw [arith_ok hc]
    · rename_i ti sz ag z b h1 h2 hx
      simp only [Option.some.injEq, Prod.mk.injEq] at h
      obtain ⟨rfl, rfl⟩ := h
      exact valP_pure (by simp only [pureOp, E, h1, h2, hx, emb])
    · rename_i y sz ag z h2 hno
      cases hk : Nat.beq (τ.nilk _) 3 with
      | false => rw [hk] at h; cases h
      | true =>
        rw [hk] at h
        simp only [cond_true] at h
        exact tbytes_ok hR hno hk h2 h hc
    · cases h
  · rename_i f first cap
    cases hb : Nat.beq first.size 0 with
    | false =>
      rw [hb] at h
      simp only [cond_false] at h
      cases hb2 : Nat.beq cap.size 0 with
      | false => rw [hb2] at h; cases h
      | true =>
        rw [hb2] at h
        simp only [cond_true, Option.some.injEq, Prod.mk.injEq] at h
        obtain ⟨_, rfl⟩ := h
        refine valP_pure ?_
        simp only [pureOp]
        rw [if_neg (fun e => by rw [e] at hb; cases hb), if_pos (Nat.eq_of_beq_eq_true hb2), embL_eq]; rfl
    | true =>
      rw [hb] at h
      simp only [cond_true] at h
      generalize hcs : cap.toList.map (tO F) = cs0 at h
      have hu : isUnd (embC R cs0) = false ∧ v = .fn f cs0 := by
        cases cs0 with
        | nil =>
          simp only [Option.some.injEq, Prod.mk.injEq] at h
          exact ⟨rfl, h.2.symm⟩
        | cons c r =>
          dsimp only at h
          cases hc : undT c with
          | true => rw [hc] at h; cases h
          | false =>
            rw [hc] at h
            simp only [cond_false, Option.some.injEq, Prod.mk.injEq] at h
            exact ⟨undT_emb hc, h.2.symm⟩
      obtain ⟨hu, rfl⟩ := hu
      refine valP_pure ?_
      simp only [pureOp]
      rw [if_pos (Nat.eq_of_beq_eq_true hb), embL_eq, hcs, if_pos hu]; rfl
  · split at h
    · rename_i vs hx
      split at h
      · rename_i w hw
        simp only [Option.some.injEq, Prod.mk.injEq] at h
        obtain ⟨_, rfl⟩ := h
        refine valP_pure ?_
        simp only [pureOp, E, hx, emb]
        rw [nth_eq] at hw
        rw [embC_get, hw]; rfl
      · cases h
    · cases h
  · split at h
    all_goals first | (cases h; done) | skip
    all_goals
      rename_i hx
      simp only [Option.some.injEq, Prod.mk.injEq] at h
      obtain ⟨_, rfl⟩ := h
      exact valP_pure (by simp only [pureOp, E, hx, emb])
  · split at h
    · rename_i fs sz ag z r o h1 hx
      split at h
      · rename_i off size g hf
        cases hb : Nat.beq size 0 with
        | true => rw [hb] at h; cases h
        | false =>
          rw [hb] at h
          simp only [cond_false, Option.some.injEq, Prod.mk.injEq] at h
          obtain ⟨_, rfl⟩ := h
          rw [nth_eq] at hf
          refine valP_pure ?_
          simp only [pureOp, E, h1, hx, emb, hf]
          rw [if_neg (fun e => by subst e; simp at hb)]
      · cases h
    · rename_i fs sz ag z esz r i o h1 hx
      split at h
      · rename_i off size g hf
        cases hb : Nat.beq size 0 with
        | true => rw [hb] at h; cases h
        | false =>
          rw [hb] at h
          simp only [cond_false, Option.some.injEq, Prod.mk.injEq] at h
          obtain ⟨_, rfl⟩ := h
          rw [nth_eq] at hf
          refine valP_pure ?_
          simp only [pureOp, E, h1, hx, emb, hf]
          rw [if_neg (fun e => by subst e; simp at hb), Nat.add_assoc]
      · cases h
    · rename_i fs sz ag z ds h1 hx
      split at h
      · rename_i off size g hf
        cases hb : Nat.beq size 0 with
        | true => rw [hb] at h; cases h
        | false =>
          rw [hb] at h
          simp only [cond_false, Option.some.injEq, Prod.mk.injEq] at h
          obtain ⟨_, rfl⟩ := h
          rw [nth_eq] at hf
          refine valP_pure ?_
          simp only [pureOp, E, h1, hx, emb, hf]
          rw [if_neg (fun e => by subst e; simp at hb), embC_drop]
      · cases h
    · cases h
  · split at h
    · rename_i fs sz ag z ds h1 hx
      split at h
      · rename_i off size g hf
        split at h
        · rename_i w hw
          simp only [Option.some.injEq, Prod.mk.injEq] at h
          obtain ⟨_, rfl⟩ := h
          rw [nth_eq] at hf
          refine valP_pure ?_
          simp only [pureOp, E, h1, hx, emb, hf]
          exact tpart_emb R hw
        · cases h
      · cases h
    · cases h
  · -- indexAddr
    split at h
    · rename_i esz eb ez sz ag z e xs k m h1 hx hi
      cases hb : Nat.beq (R.sz e) esz with
      | false => rw [hb] at h; cases h
      | true =>
        rw [hb] at h
        simp only [cond_true, Option.some.injEq, Prod.mk.injEq] at h
        obtain ⟨rfl, rfl⟩ := h
        obtain ⟨⟨c1, c2⟩, _⟩ := hc
        have he := Nat.eq_of_beq_eq_true hb
        have hm : m.toNat < xs.length := by omega
        refine valP_pure ?_
        simp only [pureOp, E, h1, hx, hi, emb]
        rw [if_pos ⟨he, c1, c2⟩]
        obtain ⟨s1, s2⟩ := fm_split (hR.len e) hm
        rw [s1, List.drop_append, List.drop_eq_nil_of_le (by rw [s2]; exact Nat.le_refl _), List.nil_append, s2, Nat.sub_self, List.drop_zero, List.take_append, hR.len, Nat.sub_self, List.take_zero, List.append_nil,
          List.take_of_length_le (by rw [hR.len]; exact Nat.le_refl _), hR.ok, getD_get _ hm]
    · rename_i esz eb ez sz ag z ss r o len k m h1 hx hi
      cases hb : Nat.beq ss esz with
      | false => rw [hb] at h; cases h
      | true =>
        rw [hb] at h
        simp only [cond_true, Option.some.injEq, Prod.mk.injEq] at h
        obtain ⟨rfl, rfl⟩ := h
        obtain ⟨⟨c1, c2⟩, _⟩ := hc
        refine valP_pure ?_
        simp only [pureOp, E, h1, hx, hi, emb]
        rw [if_pos ⟨Nat.eq_of_beq_eq_true hb, c1, c2⟩, Nat.add_zero, Nat.add_mul, Nat.add_comm]
    · rename_i esz eb ez sz ag z ss r o len k m h1 hx hi
      cases hb : Nat.beq ss esz with
      | false => rw [hb] at h; cases h
      | true =>
        rw [hb] at h
        simp only [cond_true, Option.some.injEq, Prod.mk.injEq] at h
        obtain ⟨rfl, rfl⟩ := h
        obtain ⟨⟨c1, c2⟩, _⟩ := hc
        refine valP_pure ?_
        simp only [pureOp, E, h1, hx, hi, emb]
        rw [if_pos ⟨Nat.eq_of_beq_eq_true hb, c1, c2⟩]
    · rename_i m esz g sz ag z r o k n h1 hx hi
      refine valP_pure ?_
      cases hr : trow H r with
      | none =>
        rw [hr] at h
        simp only [Option.some.injEq, Prod.mk.injEq] at h
        obtain ⟨rfl, rfl⟩ := h
        simp only [pureOp, E, h1, hx, hi, emb]
        rw [if_pos hc.1]
      | some rw0 =>
        cases rw0 with
        | cells ds =>
          rw [hr] at h
          simp only [Option.some.injEq, Prod.mk.injEq] at h
          obtain ⟨rfl, rfl⟩ := h
          simp only [pureOp, E, h1, hx, hi, emb]
          rw [if_pos hc.1]
        | arr e ys =>
          rw [hr] at h
          simp only at h
          cases hb : Nat.beq (R.sz e) esz && Nat.beq o 0 with
          | false =>
            rw [hb] at h
            simp only [cond_false, Option.some.injEq, Prod.mk.injEq] at h
            obtain ⟨rfl, rfl⟩ := h
            simp only [pureOp, E, h1, hx, hi, emb]
            rw [if_pos hc.1]
          | true =>
            rw [hb] at h
            simp only [cond_true, Option.some.injEq, Prod.mk.injEq] at h
            obtain ⟨rfl, rfl⟩ := h
            simp only [Bool.and_eq_true] at hb
            have ho := Nat.eq_of_beq_eq_true hb.2
            simp only [pureOp, E, h1, hx, hi, emb]
            rw [if_pos hc.1, ho, Nat.zero_add, Nat.add_zero]
    · rename_i m esz g sz ag z ss r i o k n h1 hx hi
      simp only [Option.some.injEq, Prod.mk.injEq] at h
      obtain ⟨rfl, rfl⟩ := h
      obtain ⟨c1, _⟩ := hc
      refine valP_pure ?_
      simp only [pureOp, E, h1, hx, hi, emb]
      rw [if_pos c1, Nat.add_assoc]
    · rename_i m esz g sz ag z ds k n h1 hx hi
      simp only [Option.some.injEq, Prod.mk.injEq] at h
      obtain ⟨rfl, rfl⟩ := h
      obtain ⟨c1, _⟩ := hc
      refine valP_pure ?_
      simp only [pureOp, E, h1, hx, hi, emb]
      rw [if_pos c1, embC_drop]
    · cases h
  · -- index
    split at h
    · rename_i m esz g sz ag z ds k n h1 hx hi
      split at h
      · rename_i w hw
        simp only [Option.some.injEq, Prod.mk.injEq] at h
        obtain ⟨rfl, rfl⟩ := h
        obtain ⟨c1, _⟩ := hc
        refine valP_pure ?_
        simp only [pureOp, E, h1, hx, hi, emb]
        rw [if_pos c1]
        exact tpart_emb R hw
      · cases h
    · rename_i sz ag z s k n h1 hx hi
      simp only [Option.some.injEq, Prod.mk.injEq] at h
      obtain ⟨rfl, rfl⟩ := h
      obtain ⟨⟨c1, c2⟩, _⟩ := hc
      obtain ⟨e1, e2⟩ := sat_eq (s := s) (i := n.toNat) (by omega)
      refine valP_pure ?_
      simp only [pureOp, E, h1, hx, hi, emb]
      rw [if_pos c1, e1]
      simp only [e2]
    · cases h
  · -- build
    split at h
    · rename_i fs sz ag z h1
      cases hf : flatL z with
      | false => rw [hf] at h; cases h
      | true =>
        rw [hf] at h
        simp only [cond_true] at h
        split at h
        · rename_i ds hd
          simp only [Option.some.injEq, Prod.mk.injEq] at h
          obtain ⟨_, rfl⟩ := h
          refine valP_pure ?_
          have := tfill_emb R _ _ _ _ hd
          rw [embC_up R z hf] at this
          simp only [nth_eq] at this
          simp only [pureOp, h1, parts_emb (R := R), this]
          rfl
        · cases h
    · rename_i n esz g sz ag z h1
      cases hf : flatL z with
      | false => rw [hf] at h; cases h
      | true =>
        rw [hf] at h
        simp only [cond_true] at h
        split at h
        · rename_i ds hd
          simp only [Option.some.injEq, Prod.mk.injEq] at h
          obtain ⟨_, rfl⟩ := h
          refine valP_pure ?_
          have := tfill_emb R _ _ _ _ hd
          rw [embC_up R z hf] at this
          simp only [pureOp, h1, parts_emb (R := R), this]
          rfl
        · cases h
    · cases h
  · -- slice
    split at h
    · rename_i esz eb ez sz ag z e xs h1 hx
      split at h
      · rename_i l r hl hr
        cases hb : Nat.beq (R.sz e) esz with
        | false => rw [hb] at h; cases h
        | true =>
          rw [hb] at h
          simp only [cond_true, Option.some.injEq, Prod.mk.injEq] at h
          obtain ⟨rfl, rfl⟩ := h
          obtain ⟨c1, _⟩ := hc
          obtain ⟨s1, s2⟩ := sub_eq hl hr c1
          refine valP_pure ?_
          simp only [pureOp, E, h1, hx, emb]
          rw [if_neg (by rw [Nat.eq_of_beq_eq_true hb]; simp)]
          unfold sliceBnds
          rw [loI_emb R hl, hiI_emb R hr]
          simp only
          rw [if_pos c1]
          simp only [Option.some.injEq, LV.ps.injEq, true_and]
          rw [s2, s1]
          refine ⟨rfl, ?_⟩
          rw [fm_drop (hR.len e), fm_take (hR.len e)]
      · cases h
    · rename_i esz eb ez sz ag z ss q o len h1 hx
      split at h
      · rename_i l r hl hr
        cases hb : Nat.beq ss esz with
        | false => rw [hb] at h; cases h
        | true =>
          rw [hb] at h
          simp only [cond_true, Option.some.injEq, Prod.mk.injEq] at h
          obtain ⟨rfl, rfl⟩ := h
          obtain ⟨c1, _⟩ := hc
          refine valP_pure ?_
          simp only [pureOp, E, h1, hx, emb]
          rw [if_neg (by rw [Nat.eq_of_beq_eq_true hb]; simp)]
          unfold sliceBnds
          rw [loI_emb R hl, hiI_emb R hr]
          simp only
          rw [if_pos c1]
          simp only [Option.some.injEq, LV.sl.injEq, true_and]
          obtain ⟨k1, k2⟩ := subs_eq (o := o) hl hr c1
          rw [k1, k2, Nat.add_mul]
          exact ⟨by omega, rfl⟩
      · cases h
    · rename_i esz eb ez sz ag z h1 hx
      split at h
      · rename_i l r hl hr
        simp only [Option.some.injEq, Prod.mk.injEq] at h
        obtain ⟨rfl, rfl⟩ := h
        obtain ⟨c1, _⟩ := hc
        refine valP_pure ?_
        simp only [pureOp, E, h1, hx, emb]
        unfold sliceBnds
        rw [loI_emb R hl, hiI_emb R hr]
        simp only
        rw [if_pos (by simpa using c1)]
      · cases h
    · rename_i sz ag z s h1 hx
      split at h
      · rename_i l r hl hr
        simp only [Option.some.injEq, Prod.mk.injEq] at h
        obtain ⟨rfl, rfl⟩ := h
        obtain ⟨c1, _⟩ := hc
        refine valP_pure ?_
        simp only [pureOp, E, h1, hx, emb]
        unfold sliceBnds
        rw [loI_emb R hl, hiI_emb R hr]
        simp only
        rw [if_pos c1]
      · cases h
    · rename_i m esz g sz ag z q o h1 hx
      split at h
      · rename_i l r hl hr
        unfold valP
        split
        · rename_i hy
          simp only [pureOp, E, h1, hx, emb] at hy
          cases hy
        cases hrow : trow H q with
        | none => rw [hrow] at h; cases h
        | some rw0 =>
          cases rw0 with
          | arr e xs =>
            rw [hrow] at h
            simp only at h
            cases hb : Nat.beq (R.sz e) esz && Nat.beq o 0 with
            | false => rw [hb] at h; cases h
            | true =>
              rw [hb] at h
              simp only [cond_true, Option.some.injEq, Prod.mk.injEq] at h
              obtain ⟨rfl, rfl⟩ := h
              obtain ⟨c1, c2, c3, _⟩ := hc
              simp only [Bool.and_eq_true] at hb
              have he := Nat.eq_of_beq_eq_true hb.1
              have ho := Nat.eq_of_beq_eq_true hb.2
              obtain ⟨k1, k2⟩ := subs_eq (o := 0) hl hr c1
              simp only [loadOp, E, h1, hx, emb, row_emb R hrow, embR]
              unfold sliceBnds
              rw [loI_emb R hl, hiI_emb R hr]
              simp only
              rw [if_pos c1]
              simp only
              rw [if_pos ⟨by rw [fm_length (hR.len e), he, ho, Nat.zero_add]; exact Nat.mul_le_mul_right _ c3, by omega⟩, k1, k2, ho, Nat.zero_add, Nat.add_zero]
          | cells cs' =>
            rw [hrow] at h
            simp only at h
            cases hb : Nat.ble (o + m * esz) cs'.length with
            | false => rw [hb] at h; cases h
            | true =>
              rw [hb] at h
              simp only [cond_true, Option.some.injEq, Prod.mk.injEq] at h
              obtain ⟨rfl, rfl⟩ := h
              obtain ⟨c1, c2, _⟩ := hc
              have hle := Nat.le_of_ble_eq_true hb
              simp only [loadOp, E, h1, hx, emb, row_emb R hrow, embR]
              unfold sliceBnds
              rw [loI_emb R hl, hiI_emb R hr]
              simp only
              rw [if_pos c1]
              simp only [embC_length]
              rw [if_pos ⟨hle, by omega⟩]
      · cases h
    · rename_i m esz g sz ag z cs1 h1 hx
      split at h
      · rename_i e he
        cases hb : Nat.beq (R.sz e) esz && Nat.beq cs1.length (m * esz) && Nat.blt 0 m with
        | false => rw [hb] at h; cases h
        | true =>
          rw [hb] at h
          simp only [cond_true] at h
          split at h
          · rename_i xs hd
            simp only [Option.some.injEq, Prod.mk.injEq] at h
            obtain ⟨_, rfl⟩ := h
            simp only [Bool.and_eq_true] at hb
            have b1 := Nat.eq_of_beq_eq_true hb.1.1
            have b2 := Nat.eq_of_beq_eq_true hb.1.2
            have b3 : 0 < m := by simpa using hb.2
            obtain ⟨d1, d2⟩ := decAll_ok R hR m cs1 xs (by rw [b1]; exact b2) hd
            unfold valP
            split
            · rename_i hy
              simp only [pureOp, E, h1, hx, emb] at hy
              cases hy
            · simp only [loadOp, E, h1, hx, emb, Option.map_none]
              have sb : sliceBnds m (none : Option LV) none = some (0, m) := by
                show (if (0 : Int) ≤ 0 ∧ (0 : Int) ≤ (m : Int) ∧ (m : Int) ≤ (m : Int) then some ((0 : Int).toNat, (m : Int).toNat) else none) = some (0, m)
                rw [if_pos ⟨by omega, by omega, by omega⟩, Int.toNat_natCast]; rfl
              rw [sb]
              simp only
              rw [if_pos ⟨by rw [embC_length, b2]; exact Nat.le_refl _, b3⟩, d1, d2, b1]
              have hl : (xs.flatMap (R.encL e)).length = m * esz := by rw [← d1, embC_length, b2]
              simp only [Nat.sub_zero, Nat.zero_mul, List.drop_zero]
              rw [List.take_of_length_le (by rw [hl]; exact Nat.le_refl _)]
          · cases h
      · cases h
    · cases h
  · -- len
    split at h
    · rename_i t x ht hx0
      split at h
      all_goals first | (cases h; done) | skip
      all_goals
        simp only [Option.some.injEq, Prod.mk.injEq] at h
        obtain ⟨rfl, rfl⟩ := h
        refine valP_pure ?_
        simp only [pureOp, ht, hx0, Option.bind_some, Option.map_some, E]
      all_goals first
        | (rename_i h1 hx; simp only [h1, hx, emb]; done)
        | (rename_i h1; simp only [h1, emb]; done)
        | (rename_i h1 _; simp only [h1, emb]; done)
        | (rename_i h1 hx; simp only [h1, hx, emb]; simp; done)
    · cases h
  · split at h
    · rename_i x r hl
      split at h
      · rename_i w hw
        simp only [Option.some.injEq, Prod.mk.injEq] at h
        obtain ⟨_, rfl⟩ := h
        refine valP_pure ?_
        simp only [pureOp, embL_eq (R := R), hl, embC, embC_eq]
        exact tmin_emb R _ _ _ hw
      · cases h
    · cases h
  · split at h
    · rename_i x r hl
      split at h
      · rename_i w hw
        simp only [Option.some.injEq, Prod.mk.injEq] at h
        obtain ⟨_, rfl⟩ := h
        refine valP_pure ?_
        simp only [pureOp, embL_eq (R := R), hl, embC, embC_eq]
        exact tmax_emb R _ _ _ hw
      · cases h
    · cases h
  · -- load
    refine valP_load ?_
    split at h
    · rename_i ti r o h1 hx
      split at h
      · rename_i ds hr
        split at h
        · rename_i w hw
          simp only [Option.some.injEq, Prod.mk.injEq] at h
          obtain ⟨_, rfl⟩ := h
          simp only [loadOp, E, h1, hx, emb, row_emb R hr, embR]
          exact tpart_emb R hw
        · cases h
      · cases h
    · rename_i ti ss r i o h1 hx
      split at h
      · rename_i e xs hr
        cases hb : Nat.beq ss (R.sz e) with
        | false => rw [hb] at h; cases h
        | true =>
          rw [hb] at h
          simp only [cond_true] at h
          split at h
          · rename_i w hw
            simp only [Option.some.injEq, Prod.mk.injEq] at h
            obtain ⟨rfl, rfl⟩ := h
            obtain ⟨c1, _⟩ := hc
            have he := Nat.eq_of_beq_eq_true hb
            simp only [loadOp, E, h1, hx, emb, row_emb R hr, embR]
            obtain ⟨s1, s2⟩ := fm_split (hR.len e) c1
            rw [s1, he, ← s2]
            refine lpart_mid ?_
            have := tpart_emb R hw
            rwa [hR.ok, getD_get _ c1] at this
          · cases h
      · cases h
    · rename_i ti ds h1 hx
      split at h
      · rename_i w hw
        simp only [Option.some.injEq, Prod.mk.injEq] at h
        obtain ⟨_, rfl⟩ := h
        simp only [loadOp, E, h1, hx, emb]
        exact tpart_emb R hw
      · cases h
    · cases h
  · -- pick, or
    split at h
    · rename_i p q hp hq
      simp only [Option.some.injEq, Prod.mk.injEq] at h
      obtain ⟨rfl, rfl⟩ := h
      refine valP_pure ?_
      simp only [pureOp, E, hp, hq, emb]
      cases p <;> simp [tO, constLV, scalarLV, upC, emb]
    · rename_i p g q hp hq
      simp only [Option.some.injEq, Prod.mk.injEq] at h
      obtain ⟨rfl, rfl⟩ := h
      refine valP_pure ?_
      simp only [pureOp, E, hp, hq, emb]
      cases p
      · have := hc.1 rfl; subst this; simp
      · simp [tO, constLV, scalarLV, upC, emb]
    · rename_i p hp hq
      simp only [Option.some.injEq, Prod.mk.injEq] at h
      obtain ⟨rfl, rfl⟩ := h
      obtain ⟨rfl, _⟩ := hc
      refine valP_pure ?_
      simp only [pureOp, E, hp, hq, emb]
      simp [tO, constLV, scalarLV, upC, emb]
    · cases h
  · -- pick, and
    split at h
    · rename_i p q hp hq
      simp only [Option.some.injEq, Prod.mk.injEq] at h
      obtain ⟨rfl, rfl⟩ := h
      refine valP_pure ?_
      simp only [pureOp, E, hp, hq, emb]
      cases p <;> simp [tO, constLV, scalarLV, upC, emb]
    · rename_i p g q hp hq
      simp only [Option.some.injEq, Prod.mk.injEq] at h
      obtain ⟨rfl, rfl⟩ := h
      refine valP_pure ?_
      simp only [pureOp, E, hp, hq, emb]
      cases p
      · simp [tO, constLV, scalarLV, upC, emb]
      · have := hc.1 rfl; subst this; simp
    · rename_i p hp hq
      simp only [Option.some.injEq, Prod.mk.injEq] at h
      obtain ⟨rfl, rfl⟩ := h
      obtain ⟨rfl, _⟩ := hc
      refine valP_pure ?_
      simp only [pureOp, E, hp, hq, emb]
      simp [tO, constLV, scalarLV, upC, emb]
    · cases h
  · exact hg h

end
end Go.Lite
set_option linter.unusedVariables false
set_option linter.unusedSimpArgs false

/- Lite, part TE: the operations that make or write memory, on typed values. -/
namespace Go.Lite
open Go Go.RowKit
set_option linter.unusedVariables false

section
variable {A : Nat → Type} (R : Reg A)

def tsolid : TV A → Bool
  | .dead | .und | .agg _ | .tup _ | .opt _ _ => false
  | _ => true

theorem tsolid_emb {v : TV A} (h : tsolid v = true) : solid (emb R v) = true := by
  cases v <;> simp [tsolid] at h <;> rfl

theorem tsolid_all {cs : List (TV A)} (h : cs.all tsolid = true) : (embC R cs).all solid = true := by
  rw [embC_eq, List.all_map, List.all_eq_true]
  exact fun x hx => tsolid_emb R (List.all_eq_true.1 h x hx)

def zerosT (n : Nat) (zs : List (TV A)) : List (TV A) := (List.replicate n zs).flatten

theorem zerosT_emb (n : Nat) {ez : List LV} (h : flatL ez = true) : embC R (zerosT n (upL ez)) = zerosL n ez := by
  have e : ∀ n, embC R (zerosT n (upL ez)) = (List.replicate n ez).flatten := by
    intro n
    induction n with
    | zero => rfl
    | succ n ih =>
      have : zerosT (n + 1) (upL (A := A) ez) = upL ez ++ zerosT n (upL ez) := by simp [zerosT, List.replicate_succ]
      rw [this, embC_append, ih, embC_up R ez h, List.replicate_succ, List.flatten_cons]
  rw [e]
  unfold zerosL
  split
  · rename_i z
    induction n with
    | zero => rfl
    | succ n ih => rw [List.replicate_succ, List.flatten_cons, ih, List.replicate_succ]; rfl
  · rfl

/-- The elements of a source of append or copy. -/
def tsrc (H : TH A) (t esz : Nat) : TV A → Option (List Prop × (Σ e, List (A e)))
  | .nils => (match R.el t with | some e => cond (Nat.beq (R.sz e) esz) (some ([], ⟨e, []⟩)) none | none => none)
  | .lst e ys => cond (Nat.beq (R.sz e) esz) (some ([], ⟨e, ys⟩)) none
  | .sla sz h o m => (match trow H h with
    | some (.arr e ys) => cond (Nat.beq (R.sz e) esz && Nat.beq sz esz) (some ([o + m ≤ ys.length], ⟨e, cut ys o m⟩)) none
    | _ => none)
  | _ => none

theorem tsrc_ok (hR : R.Ok) {H : TH A} {t esz : Nat} {y : TV A} {cs : List Prop} {p : Σ e, List (A e)} (h : tsrc R H t esz y = some (cs, p)) (hc : Conj cs) :
    R.sz p.1 = esz ∧ srcCells (embH R H) esz (emb R y) = some (p.2.length, p.2.flatMap (R.encL p.1)) := by
  unfold tsrc at h
  split at h
  · split at h
    · rename_i e he
      cases hb : Nat.beq (R.sz e) esz with
      | false => rw [hb] at h; cases h
      | true =>
        rw [hb] at h
        simp only [cond_true, Option.some.injEq, Prod.mk.injEq] at h
        obtain ⟨_, rfl⟩ := h
        exact ⟨Nat.eq_of_beq_eq_true hb, rfl⟩
    · cases h
  · rename_i e ys
    cases hb : Nat.beq (R.sz e) esz with
    | false => rw [hb] at h; cases h
    | true =>
      rw [hb] at h
      simp only [cond_true, Option.some.injEq, Prod.mk.injEq] at h
      obtain ⟨_, rfl⟩ := h
      refine ⟨Nat.eq_of_beq_eq_true hb, ?_⟩
      simp only [emb, srcCells]
      rw [if_pos (Nat.eq_of_beq_eq_true hb)]
  · rename_i sz r o m
    split at h
    · rename_i e ys hr
      cases hb : Nat.beq (R.sz e) esz && Nat.beq sz esz with
      | false => rw [hb] at h; cases h
      | true =>
        rw [hb] at h
        simp only [Bool.and_eq_true] at hb
        simp only [cond_true, Option.some.injEq, Prod.mk.injEq] at h
        obtain ⟨rfl, rfl⟩ := h
        have e1 := Nat.eq_of_beq_eq_true hb.1
        have e2 := Nat.eq_of_beq_eq_true hb.2
        obtain ⟨c1, _⟩ := hc
        refine ⟨e1, ?_⟩
        simp only [emb, srcCells, row_emb R hr, embR]
        rw [if_pos e2, if_pos]
        · simp only [cut_length c1, Option.some.injEq, Prod.mk.injEq, true_and]
          rw [cut_eq, ← fm_take (hR.len e), ← fm_drop (hR.len e), e1, e2]
        · rw [fm_length (hR.len e), e1, e2, ← Nat.add_mul]
          exact Nat.mul_le_mul_right _ c1
    · cases h
  · cases h

/-- The element of a new slice, if it is a plain one. -/
def tmk (t esz : Nat) (zs : List (TV A)) : Option (Σ e, A e) :=
  match R.el t with
  | some e => cond (Nat.beq (R.sz e) esz) (match R.dec e zs with | some d => some ⟨e, d⟩ | none => none) none
  | none => none
theorem tmk_ok {t esz : Nat} {zs : List (TV A)} {p : Σ e, A e} (h : tmk R t esz zs = some p) : R.sz p.1 = esz ∧ R.dec p.1 zs = some p.2 := by
  unfold tmk at h
  split at h
  · rename_i e he
    cases hb : Nat.beq (R.sz e) esz with
    | false => rw [hb] at h; cases h
    | true =>
      rw [hb] at h
      simp only [cond_true] at h
      split at h
      · rename_i d hd
        obtain rfl := Option.some.inj h
        exact ⟨Nat.eq_of_beq_eq_true hb, hd⟩
      · cases h
  · cases h
/-- The same where the elements stand as cells. -/
def csrc (H : TH A) (esz : Nat) : TV A → Option (Nat × List (TV A))
  | .sl sz h o m => (match trow H h with
    | some (.cells cs) => cond (Nat.beq sz esz && Nat.ble (o + m * sz) cs.length) (some (m, (cs.drop o).take (m * sz))) none
    | _ => none)
  | _ => none
theorem csrc_ok {H : TH A} {esz : Nat} {y : TV A} {m : Nat} {ds : List (TV A)} (h : csrc H esz y = some (m, ds)) : srcCells (embH R H) esz (emb R y) = some (m, embC R ds) := by
  unfold csrc at h
  split at h
  · rename_i sz r o n
    split at h
    · rename_i cs hr
      cases hb : Nat.beq sz esz && Nat.ble (o + n * sz) cs.length with
      | false => rw [hb] at h; cases h
      | true =>
        rw [hb] at h
        simp only [Bool.and_eq_true] at hb
        simp only [cond_true, Option.some.injEq, Prod.mk.injEq] at h
        obtain ⟨rfl, rfl⟩ := h
        simp only [emb, srcCells, row_emb R hr, embR]
        rw [if_pos (Nat.eq_of_beq_eq_true hb.1), if_pos (by rw [embC_length]; exact Nat.le_of_ble_eq_true hb.2), embC_take, embC_drop]
    · cases h
  · cases h
def capp (H : TH A) (esz eb n : Nat) (y x : TV A) : Option (List Prop × TV A × List (Nat × Option (TRow A))) :=
  match csrc H esz y with
  | some (m, ds) => (match x with
    | .nils => some ([m * eb ≤ 140737488355328 ∧ m ≤ 140737488355328], .sl esz n 0 m, [(n, some (.cells ds))])
    | .sl sz h o k => (match trow H h with
      | some (.cells cs) => cond (Nat.beq sz esz && Nat.ble (o + k * sz) cs.length && ds.all tsolid)
          (some ([(k + m) * eb ≤ 140737488355328 ∧ k + m ≤ 140737488355328], .sl sz n 0 (k + m), [(h, none), (n, some (.cells ((cs.drop o).take (k * sz) ++ ds)))])) none
      | _ => none)
    | _ => none)
  | none => none
def teff (τ : TT) (F : TF A) (H : TH A) (n : Nat) (op : Op) : Option (List Prop × TV A × List (Nat × Option (TRow A))) :=
  match op with
  | .store t x y => (match τ t, tO F x, tcells (tO F y) with
    | some ti, .ptr h o, some ds => (match trow H h with
      | some (.cells cs) => cond (Nat.beq ds.length ti.size && Nat.ble (o + ds.length) cs.length && ds.all tsolid) (some ([], .und, [(h, some (.cells (tput cs o ds)))])) none
      | _ => none)
    | some ti, .ptrE sz h i o, some ds => (match trow H h with
      | some (.arr e xs) => cond (Nat.beq sz (R.sz e) && Nat.beq ds.length ti.size && Nat.ble (o + ds.length) (R.sz e) && ds.all tsolid)
          (match R.dec e (tput (R.enc e (xs.getD i (R.d e))) o ds) with
          | some a => some ([i < xs.length], .und, [(h, some (.arr e (xs.set i a)))])
          | none => none) none
      | _ => none)
    | _, _, _ => none)
  | .alloc t => (match τ t with
    | some ti => cond (flatL ti.zero) (some ([], .ptr n 0, [(n, some (.cells (upL ti.zero)))])) none
    | none => none)
  | .box t x => (match tcells (tO F x) with
    | some cs => some ([], .ptr n 0, [(n, some (.cells cs))])
    | none => none)
  | .buildSlice t len ps => (match τ t with
    | some ⟨.slice esz _ ez, _, _, _⟩ => cond (Nat.ble (len * esz) 16777216 && flatL ez)
        (match tfill (fun i => some (i * esz, esz)) (zerosT len (upL ez)) (ps.toList.map fun p => (p.1, tO F p.2)) with
        | some cs => (match R.el t with
          | some e => cond (Nat.beq (R.sz e) esz && Nat.beq cs.length (len * esz))
              (match decAll R e len cs with
              | some xs => some ([], .sla esz n 0 len, [(n, some (.arr e xs))])
              | none => some ([], .sl esz n 0 len, [(n, some (.cells cs))])) none
          | none => some ([], .sl esz n 0 len, [(n, some (.cells cs))]))
        | none => none) none
    | _ => none)
  | .makeSlice t l c => (match τ t, tO F l, tO F c with
    | some ⟨.slice esz eb ez, _, _, _⟩, .int _ a, .int _ b => cond (flatL ez) (match tmk R t esz (upL ez) with
        | some ⟨e, d⟩ => some ([0 ≤ a ∧ a ≤ b ∧ b ≤ 281474976710656 ∧ eb * b ≤ 281474976710656], .sla esz n 0 a.toNat, [(n, some (.arr e (List.replicate a.toNat d)))])
        | none => some ([0 ≤ a ∧ a ≤ b ∧ b ≤ 281474976710656 ∧ eb * b ≤ 281474976710656], .sl esz n 0 a.toNat, [(n, some (.cells (zerosT a.toNat (upL ez))))])) none
    | _, _, _ => none)
  | .call ⟨.builtin .append, args, tys⟩ => (match tys[0]?, tys[1]?, args[0]?, args[1]? with
    | some t, some u, some x, some y => (match τ t, τ u with
      | some ⟨.slice esz eb _, _, _, _⟩, some ⟨ud, _, _, _⟩ => (match ud with
        | .int _ => none
        | _ => (match tsrc R H t esz (tO F y), tO F x with
          | some (cs, ⟨e, ys⟩), .nils => some (cs ++ [ys.length * eb ≤ 140737488355328 ∧ ys.length ≤ 140737488355328], .sla esz n 0 ys.length, [(n, some (.arr e ys))])
          | some (cs, ⟨e, ys⟩), .sla sz h o m => (match trow H h with
            | some (.arr e' xs) => (match Nat.decEq e e' with
              | .isTrue p => cond (Nat.beq sz esz) (some (cs ++ [o + m ≤ xs.length, (m + ys.length) * eb ≤ 140737488355328 ∧ m + ys.length ≤ 140737488355328], .sla sz n 0 (m + ys.length),
                  [(h, none), (n, some (.arr e' (cut xs o m ++ p ▸ ys)))])) none
              | .isFalse _ => none)
            | _ => none)
          | _, _ => capp H esz eb n (tO F y) (tO F x)))
      | _, _ => none)
    | _, _, _, _ => none)
  | .call ⟨.builtin .copy, args, tys⟩ => (match tys[0]?, args[0]?, args[1]? with
    | some t, some x, some y => (match τ t with
      | some ⟨.slice esz eb _, _, _, _⟩ => (match tsrc R H t esz (tO F y), tO F x with
        | some (cs, ⟨e, ys⟩), .sla sz h o m => (match trow H h with
          | some (.arr e' xs) => (match Nat.decEq e e' with
            | .isTrue p => cond (Nat.beq sz esz) (some (cs ++ [o + m ≤ xs.length], .int .i64 (Nat.min ys.length m),
                [(h, some (.arr e' (xs.take o ++ (p ▸ ys : List (A e')).take (Nat.min ys.length m) ++ xs.drop (o + Nat.min ys.length m))))])) none
            | .isFalse _ => none)
          | _ => none)
        | _, _ => none)
      | _ => none)
    | _, _, _ => none)
  | .call ⟨.builtin .clear, args, tys⟩ => (match tys[0]?, args[0]? with
    | some t, some x => (match τ t, tO F x with
      | some ⟨.slice esz _ ez, _, _, _⟩, .sla sz h o m => (match trow H h, tmk R t esz (upL ez) with
        | some (.arr e xs), some ⟨e', d⟩ => (match Nat.decEq e' e with
          | .isTrue p => cond (Nat.beq sz esz && ez.all solid && flatL ez) (some ([o + m ≤ xs.length], .tup [], [(h, some (.arr e (xs.take o ++ List.replicate m (p ▸ d : A e) ++ xs.drop (o + m))))])) none
          | .isFalse _ => none)
        | _, _ => none)
      | _, _ => none)
    | _, _ => none)
  | _ => none

theorem putCells_fm {α : Type} {f : α → List LV} {c : Nat} (hf : ∀ a, (f a).length = c) {xs ys : List α} {o : Nat} : putCells (xs.flatMap f) (o * c) (ys.flatMap f) = (xs.take o ++ ys ++ xs.drop (o + ys.length)).flatMap f := by
  unfold putCells
  rw [fm_take hf, fm_length hf, ← Nat.add_mul, fm_drop hf, List.flatMap_append, List.flatMap_append]

theorem replicate_fm {α : Type} {f : α → List LV} (d : α) (n : Nat) : (List.replicate n d).flatMap f = (List.replicate n (f d)).flatten := by
  induction n with
  | zero => rfl
  | succ n ih => rw [List.replicate_succ, List.flatMap_cons, ih, List.replicate_succ, List.flatten_cons]

theorem zerosL_flatten (n : Nat) (ez : List LV) : zerosL n ez = (List.replicate n ez).flatten := by
  unfold zerosL
  split
  · induction n with
    | zero => rfl
    | succ n ih => rw [List.replicate_succ, List.replicate_succ, List.flatten_cons, ← ih]; rfl
  · rfl

theorem teff_ok (hR : R.Ok) {τ : TT} {F : TF A} {H : TH A} {n : Nat} {op : Op} {cs : List Prop} {x : TV A} {ws : List (Nat × Option (TRow A))} (h : teff R τ F H n op = some (cs, x, ws)) (hc : Conj cs) :
    effOp τ (embF R F) (embH R H) n op = some (emb R x, embW R ws) := by
  have E := evalO_emb R F
  unfold teff at h
  split at h
  · -- store
    split at h
    · rename_i ti r o ds h1 hx hy
      split at h
      · rename_i rc hr
        cases hb : Nat.beq ds.length ti.size && Nat.ble (o + ds.length) rc.length && ds.all tsolid with
        | false => rw [hb] at h; cases h
        | true =>
          rw [hb] at h
          simp only [cond_true, Option.some.injEq, Prod.mk.injEq] at h
          obtain ⟨_, rfl, rfl⟩ := h
          simp only [Bool.and_eq_true] at hb
          obtain ⟨⟨b1, b2⟩, b3⟩ := hb
          simp only [effOp, E, h1, hx, emb, tcells_emb R hy, row_emb R hr, embR]
          rw [if_pos ⟨by rw [embC_length]; exact Nat.eq_of_beq_eq_true b1, by rw [embC_length, embC_length]; exact Nat.le_of_ble_eq_true b2, tsolid_all R b3⟩]
          simp only [embW, embO, embR, tput_emb]
      · cases h
    · rename_i ti ss r i o ds h1 hx hy
      split at h
      · rename_i e xs hr
        cases hb : Nat.beq ss (R.sz e) && Nat.beq ds.length ti.size && Nat.ble (o + ds.length) (R.sz e) && ds.all tsolid with
        | false => rw [hb] at h; cases h
        | true =>
          rw [hb] at h
          simp only [cond_true] at h
          split at h
          · rename_i a ha
            simp only [Option.some.injEq, Prod.mk.injEq] at h
            obtain ⟨rfl, rfl, rfl⟩ := h
            obtain ⟨c1, _⟩ := hc
            simp only [Bool.and_eq_true] at hb
            obtain ⟨⟨⟨b0, b1⟩, b2⟩, b3⟩ := hb
            have e0 := Nat.eq_of_beq_eq_true b0
            have e2 := Nat.le_of_ble_eq_true b2
            obtain ⟨s1, s2⟩ := fm_split (hR.len e) c1
            have hmul : i * R.sz e + (o + ds.length) ≤ xs.length * R.sz e := by
              have : (i + 1) * R.sz e ≤ xs.length * R.sz e := Nat.mul_le_mul_right _ c1
              rw [Nat.add_mul, Nat.one_mul] at this
              omega
            simp only [effOp, E, h1, hx, emb, tcells_emb R hy, row_emb R hr, embR]
            rw [if_pos ⟨by rw [embC_length]; exact Nat.eq_of_beq_eq_true b1, by rw [embC_length, fm_length (hR.len e), e0]; omega, tsolid_all R b3⟩]
            simp only [embW, embO, embR, Option.some.injEq, Prod.mk.injEq, true_and, List.cons.injEq, and_true]
            rw [s1, e0, ← s2, putC_mid (by rw [embC_length, hR.len]; exact e2)]
            have hd := hR.dec e _ a ha
            rw [tput_emb, hR.ok, getD_get _ c1] at hd
            rw [hd]
            have e1 : (xs.set i a).take i = xs.take i := by rw [List.take_set_of_le (Nat.le_refl _)]
            have e3 : (xs.set i a).drop (i + 1) = xs.drop (i + 1) := by rw [List.drop_set_of_lt (by omega)]
            obtain ⟨t1, _⟩ := fm_split (hR.len e) (xs := xs.set i a) (i := i) (by simpa using c1)
            rw [t1, e1, e3]
            simp
          · cases h
      · cases h
    · cases h
  · -- alloc
    split at h
    · rename_i ti h1
      cases hf : flatL ti.zero with
      | false => rw [hf] at h; cases h
      | true =>
        rw [hf] at h
        simp only [cond_true, Option.some.injEq, Prod.mk.injEq] at h
        obtain ⟨_, rfl, rfl⟩ := h
        simp only [effOp, h1, emb, embW, embO, embR, embC_up R _ hf]
    · cases h
  · -- box
    split at h
    · rename_i ds h1
      simp only [Option.some.injEq, Prod.mk.injEq] at h
      obtain ⟨_, rfl, rfl⟩ := h
      simp only [effOp, E, tcells_emb R h1, emb, embW, embO, embR]
    · cases h
  · -- buildSlice
    rename_i t len ps
    split at h
    · rename_i esz eb ez sz ag z h1
      cases hb : Nat.ble (len * esz) 16777216 && flatL ez with
      | false => rw [hb] at h; cases h
      | true =>
        rw [hb] at h
        simp only [Bool.and_eq_true] at hb
        simp only [cond_true] at h
        split at h
        · rename_i ds hd
          have hfill := tfill_emb R _ _ _ _ hd
          rw [zerosT_emb R len hb.2] at hfill
          have raw : effOp τ (embF R F) (embH R H) n (.buildSlice t len ps) = some (.sl esz n 0 len, [(n, some (embC R ds))]) := by
            simp only [effOp, h1]
            rw [if_pos (Nat.le_of_ble_eq_true hb.1), parts_emb (R := R), hfill]
          have plain : some (([] : List Prop), TV.sl (A := A) esz n 0 len, [(n, some (TRow.cells ds))]) = some (cs, x, ws) → effOp τ (embF R F) (embH R H) n (.buildSlice t len ps) = some (emb R x, embW R ws) := by
            intro h
            simp only [Option.some.injEq, Prod.mk.injEq] at h
            obtain ⟨_, rfl, rfl⟩ := h
            rw [raw]; rfl
          split at h
          · rename_i e he
            cases hb2 : Nat.beq (R.sz e) esz && Nat.beq ds.length (len * esz) with
            | false => rw [hb2] at h; cases h
            | true =>
              rw [hb2] at h
              simp only [Bool.and_eq_true] at hb2
              simp only [cond_true] at h
              split at h
              · rename_i xs hxs
                simp only [Option.some.injEq, Prod.mk.injEq] at h
                obtain ⟨_, rfl, rfl⟩ := h
                have e1 := Nat.eq_of_beq_eq_true hb2.1
                have := (decAll_ok R hR _ _ _ (by rw [e1]; exact Nat.eq_of_beq_eq_true hb2.2) hxs).1
                rw [raw, this]
                simp [emb, embW, embO, embR]
              · exact plain h
          · exact plain h
        · cases h
    · cases h
  · -- makeSlice
    split at h
    · rename_i esz eb ez sz ag z k a k' b h1 hl hcc
      cases hb : flatL ez with
      | false => rw [hb] at h; cases h
      | true =>
        rw [hb] at h
        simp only [cond_true] at h
        split at h
        · rename_i e d hd
          simp only [Option.some.injEq, Prod.mk.injEq] at h
          obtain ⟨rfl, rfl, rfl⟩ := h
          obtain ⟨c1, _⟩ := hc
          obtain ⟨_, hd2⟩ := tmk_ok R hd
          have := hR.dec e _ d hd2
          rw [embC_up R ez hb] at this
          simp only [effOp, E, h1, hl, hcc, emb]
          rw [if_pos c1]
          simp only [emb, embW, embO, embR, Nat.zero_mul]
          rw [replicate_fm, ← this, zerosL_flatten]
        · simp only [Option.some.injEq, Prod.mk.injEq] at h
          obtain ⟨rfl, rfl, rfl⟩ := h
          obtain ⟨c1, _⟩ := hc
          simp only [effOp, E, h1, hl, hcc, emb]
          rw [if_pos c1]
          simp only [emb, embW, embO, embR]
          rw [zerosT_emb R _ hb]
    · cases h
  · -- append
    split at h
    · rename_i t u ox oy ht hu hox hoy
      split at h
      · rename_i esz eb ez _ _ _ ud _ _ _ h1 h2
        split at h
        · cases h
        · rename_i hni
          have redi : ∀ {α : Type} (f : α) , True := fun _ => trivial
          split at h
          · rename_i ds e ys hs hx
            simp only [Option.some.injEq, Prod.mk.injEq] at h
            obtain ⟨rfl, rfl, rfl⟩ := h
            obtain ⟨c0, c1⟩ := Conj.app hc
            obtain ⟨s1, s2⟩ := tsrc_ok R hR hs c0
            cases ud with
            | int k => exact absurd rfl (hni k)
            | _ =>
              simp only [effOp, ht, hu, hox, hoy, h1, h2]
              rw [E, E, hx, s2]
              simp only [emb]
              rw [if_pos c1.1]
              simp [emb, embW, embO, embR]
          · rename_i ds e ys sz r o m hs hx
            split at h
            · rename_i e' xs hr
              split at h
              · rename_i p hdec
                subst p
                cases hb : Nat.beq sz esz with
                | false => rw [hb] at h; cases h
                | true =>
                  rw [hb] at h
                  simp only [cond_true, Option.some.injEq, Prod.mk.injEq] at h
                  obtain ⟨rfl, rfl, rfl⟩ := h
                  obtain ⟨c0, c1⟩ := Conj.app hc
                  obtain ⟨s1, s2⟩ := tsrc_ok R hR hs c0
                  obtain ⟨d1, d2, _⟩ := c1
                  have e1 := Nat.eq_of_beq_eq_true hb
                  subst e1
                  cases ud with
                  | int k => exact absurd rfl (hni k)
                  | _ =>
                    simp only [effOp, ht, hu, hox, hoy, h1, h2]
                    rw [E, E, hx, s2]
                    simp only at s1
                    simp only [emb, row_emb R hr, embR]
                    rw [if_pos]
                    · simp only [emb, embW, embO, embR, Nat.zero_mul]
                      rw [List.flatMap_append, cut_eq, ← s1, fm_drop (hR.len e), fm_take (hR.len e)]
                    · refine ⟨trivial, ?_, d2.1, d2.2, ?_⟩
                      · rw [fm_length (hR.len e), s1, ← Nat.add_mul]
                        exact Nat.mul_le_mul_right _ d1
                      · rw [List.all_flatMap, List.all_eq_true]
                        exact fun a _ => hR.sol e a
              · cases h
            · cases h
          · have hcp : capp H esz eb n (tO F oy) (tO F ox) = some (cs, x, ws) := h
            clear h
            unfold capp at hcp
            split at hcp
            · rename_i m ds hds
              have s2 := csrc_ok R hds
              split at hcp
              · rename_i hx
                simp only [Option.some.injEq, Prod.mk.injEq] at hcp
                obtain ⟨rfl, rfl, rfl⟩ := hcp
                cases ud with
                | int k => exact absurd rfl (hni k)
                | _ =>
                  simp only [effOp, ht, hu, hox, hoy, h1, h2]
                  rw [E, E, hx, s2]
                  simp only [emb]
                  rw [if_pos hc.1]
                  simp [emb, embW, embO, embR]
              · rename_i sz r o k hx
                split at hcp
                · rename_i rc hr
                  cases hb : Nat.beq sz esz && Nat.ble (o + k * sz) rc.length && ds.all tsolid with
                  | false => rw [hb] at hcp; cases hcp
                  | true =>
                    rw [hb] at hcp
                    simp only [Bool.and_eq_true] at hb
                    simp only [cond_true, Option.some.injEq, Prod.mk.injEq] at hcp
                    obtain ⟨rfl, rfl, rfl⟩ := hcp
                    have b1 := Nat.eq_of_beq_eq_true hb.1.1
                    have b2 := Nat.le_of_ble_eq_true hb.1.2
                    cases ud with
                    | int k => exact absurd rfl (hni k)
                    | _ =>
                      simp only [effOp, ht, hu, hox, hoy, h1, h2]
                      rw [E, E, hx, s2]
                      simp only [emb, row_emb R hr, embR]
                      rw [if_pos ⟨b1, by rw [embC_length]; exact b2, hc.1.1, hc.1.2, tsolid_all R hb.2⟩]
                      simp only [emb, embW, embO, embR, embC_append, embC_take, embC_drop]
                · cases hcp
              · cases hcp
            · cases hcp
      · cases h
    · cases h
  · -- copy
    split at h
    · rename_i t ox oy ht hox hoy
      split at h
      · rename_i esz eb ez _ _ _ h1
        split at h
        · rename_i ds e ys sz r o m hs hx
          split at h
          · rename_i e' xs hr
            split at h
            · rename_i p hdec
              subst p
              cases hb : Nat.beq sz esz with
              | false => rw [hb] at h; cases h
              | true =>
                rw [hb] at h
                simp only [cond_true, Option.some.injEq, Prod.mk.injEq] at h
                obtain ⟨rfl, rfl, rfl⟩ := h
                obtain ⟨c0, c1⟩ := Conj.app hc
                obtain ⟨s1, s2⟩ := tsrc_ok R hR hs c0
                obtain ⟨d1, _⟩ := c1
                have e1 := Nat.eq_of_beq_eq_true hb
                subst e1
                simp only at s1
                simp only [effOp, ht, hox, hoy, h1]
                rw [E, E, hx, s2]
                simp only [emb, row_emb R hr, embR]
                rw [if_pos]
                · simp only [emb, embW, embO, embR]
                  have hk : (ys.take (Nat.min ys.length m)).length = Nat.min ys.length m := by
                    rw [List.length_take]; have : Nat.min ys.length m ≤ ys.length := Nat.min_le_left _ _; omega
                  rw [← s1, fm_take (hR.len e), putCells_fm (hR.len e), hk]
                · refine ⟨trivial, ?_, ?_⟩
                  · rw [fm_length (hR.len e), s1, ← Nat.add_mul]
                    exact Nat.mul_le_mul_right _ d1
                  · rw [List.all_flatMap, List.all_eq_true]
                    exact fun a _ => hR.sol e a
            · cases h
          · cases h
        · cases h
      · cases h
    · cases h
  · -- clear
    split at h
    · rename_i t ox ht hox
      split at h
      · rename_i esz eb ez _ _ _ sz r o m h1 hx
        split at h
        · rename_i e xs e' d hr hd
          split at h
          · rename_i p hdec
            subst p
            cases hb : Nat.beq sz esz && ez.all solid && flatL ez with
            | false => rw [hb] at h; cases h
            | true =>
              rw [hb] at h
              simp only [Bool.and_eq_true] at hb
              simp only [cond_true, Option.some.injEq, Prod.mk.injEq] at h
              obtain ⟨rfl, rfl, rfl⟩ := h
              obtain ⟨c1, _⟩ := hc
              have e1 := Nat.eq_of_beq_eq_true hb.1.1
              subst e1
              obtain ⟨s1, s2⟩ := tmk_ok R hd
              have s3 := hR.dec e' _ d s2
              rw [embC_up R ez hb.2] at s3
              simp only at s1 s3
              simp only [effOp, ht, hox, h1]
              rw [E, hx]
              simp only [emb, row_emb R hr, embR]
              rw [if_pos]
              · have e2 : zerosL m ez = (List.replicate m d).flatMap (R.encL e') := by rw [zerosL_flatten, replicate_fm, ← s3]
                simp only [embC, embW, embO, embR]
                rw [e2, ← s1, putCells_fm (hR.len e'), List.length_replicate]
              · refine ⟨trivial, ?_, hb.1.2⟩
                rw [fm_length (hR.len e'), s1, ← Nat.add_mul]
                exact Nat.mul_le_mul_right _ c1
          · cases h
        · cases h
      · cases h
    · cases h
  · cases h

end
end Go.Lite

/- Lite, part TF: lists of operations on typed values, in the order of the text and in any order. -/
namespace Go.Lite
open Go Go.RowKit
set_option linter.unusedVariables false

section
variable {A : Nat → Type} (R : Reg A)

def tlput : Option Nat → TV A → TF A → TF A
  | none, _, F => F
  | some d, x, F => (d, x) :: F
theorem tlput_emb (d : Option Nat) (x : TV A) (F : TF A) : embF R (tlput d x F) = lput d (emb R x) (embF R F) := by cases d <;> rfl

def tapply (H : TH A) : List (Nat × Option (TRow A)) → TH A
  | [] => H
  | (h, r) :: ws => tapply (H.set h r) ws
theorem embH_set (H : TH A) (h : Nat) (r : Option (TRow A)) : embH R (H.set h r) = (embH R H).set h (embO R r) := by
  induction H generalizing h with
  | nil => rfl
  | cons x H ih => cases h <;> simp [embH, ih]
theorem tapply_emb : ∀ (ws : List (Nat × Option (TRow A))) (H : TH A), embH R (tapply H ws) = applyWs (embH R H) (embW R ws) := by
  intro ws
  induction ws with
  | nil => intro H; rfl
  | cons p r ih => intro H; obtain ⟨h, x⟩ := p; simp only [tapply, embW, applyWs]; rw [ih, embH_set]

def tmore (op : Op) (H : TH A) : TH A := cond (makes op) (H ++ [none]) H
theorem embH_append (H G : TH A) : embH R (H ++ G) = embH R H ++ embH R G := by
  induction H with
  | nil => rfl
  | cons r H ih => simp [embH, ih]
theorem tmore_emb (op : Op) (H : TH A) : embH R (tmore op H) = more op (embH R H) := by
  unfold tmore more
  cases makes op <;> simp [embH_append, embH, embO]

/-- The frame where values that are there under a condition are taken for what they are. -/
def strip (g : Bool) (F : TF A) : List Nat → List Prop × TF A
  | [] => ([], F)
  | t :: r => match tget F t with
    | .opt g' v => (match strip g F r with | (cs, F') => ((g = true → g' = true) :: cs, (t, v) :: F'))
    | _ => strip g F r

theorem strip_ok (g : Bool) (F : TF A) (hg : g = true) : ∀ (l : List Nat), Conj (strip g F l).1 → ∀ t, (t ∈ l → emb R (tget (strip g F l).2 t) = emb R (tget F t)) ∧ (t ∉ l → tget (strip g F l).2 t = tget F t) := by
  intro l
  induction l with
  | nil => intro _ t; exact ⟨fun h => by simp at h, fun _ => rfl⟩
  | cons s r ih =>
    intro hc t
    simp only [strip] at hc ⊢
    split at hc
    · rename_i g' v e
      generalize hs : strip g F r = q at *
      obtain ⟨cs, F'⟩ := q
      obtain ⟨c1, c2⟩ := hc
      obtain ⟨i1, i2⟩ := ih c2 t
      have hg' := c1 hg
      by_cases hst : Nat.beq s t = true
      · have := Nat.eq_of_beq_eq_true hst
        subst this
        refine ⟨fun _ => ?_, fun h => by simp at h⟩
        simp only [tget, hst, cond_true, e, emb, hg']
      · have hb : Nat.beq s t = false := by
          cases hb : Nat.beq s t with
          | false => rfl
          | true => exact absurd hb hst
        have hne : s ≠ t := fun e => by subst e; simp at hst
        simp only [tget, hb, cond_false]
        exact ⟨fun h => i1 ((List.mem_cons.1 h).resolve_left fun e => hne e.symm), fun h => i2 (by simp at h; exact h.2)⟩
    · rename_i hn
      obtain ⟨i1, i2⟩ := ih hc t
      refine ⟨fun h => ?_, fun h => i2 (by simp at h; exact h.2)⟩
      by_cases hr : t ∈ r
      · exact i1 hr
      · rw [i2 hr]

/-- The operands that must be there: of a choice the condition alone. -/
def slotsU : Op → List Nat
  | .pick (.tmp c) _ _ => [c]
  | .pick _ _ _ => []
  | op => slotsOf op

/-- One operation: what is asked, its value, the rows that it lays. -/
def tbase (τ : TT) (F : TF A) (H : TH A) (op : Op) : Option (List Prop × TV A × List (Nat × Option (TRow A))) :=
  match strip true F (slotsU op) with
  | (sc, F') => match tval R τ F' H op with
    | some (cs, v) => some (sc ++ cs, v, [])
    | none => match teff R τ F' H H.length op with
      | some (cs, v, ws) => some (sc ++ cs, v, ws)
      | none => none

def tguard (τ : TT) (g : Bool) (F : TF A) (H : TH A) (op : Op) : Option (List Prop × TV A × List (Nat × Option (TRow A))) :=
  match strip g F (slotsU op) with
  | (sc, F') => match tval R τ F' H op with
    | some (cs, v) => some (sc ++ cs.map (fun p => g = true → p), .opt g v, [])
    | none => none

def tone (τ : TT) (s : SO) (F : TF A) (H : TH A) : Option (List Prop × TV A × List (Nat × Option (TRow A))) :=
  match s.g with
  | none => tbase R τ F H s.op
  | some (t, want) => match tget F t with
    | .und => some ([], .und, [])
    | .bool b => tguard R τ (cond want b (!b)) F H s.op
    | .opt g0 (.bool b) => tguard R τ (g0 && cond want b (!b)) F H s.op
    | _ => none

theorem strip_slots (g : Bool) (F : TF A) (hg : g = true) {op : Op} (hc : Conj (strip g F (slotsU op)).1) : ∀ t ∈ slotsOf op, fget (embF R (strip g F (slotsU op)).2) t = fget (embF R F) t := by
  intro t ht
  rw [fget_embF, fget_embF]
  obtain ⟨h1, h2⟩ := strip_ok R g F hg _ hc t
  by_cases hm : t ∈ slotsU op
  · exact h1 hm
  · rw [h2 hm]

theorem Conj.imp {g : Prop} (hg : g) : ∀ {cs : List Prop}, Conj (cs.map (fun p => g → p)) → Conj cs
  | [], _ => trivial
  | _ :: _, h => ⟨h.1 hg, Conj.imp hg h.2⟩

/-- What one operation comes to. -/
def OneOk (τ : TT) (s : SO) (F : TF A) (H : TH A) (x : TV A) (ws : List (Nat × Option (TRow A))) : Prop :=
  (ws = [] ∧ ((wantS s.g (embF R F) = some true ∧ valP τ (embF R F) (embH R H) s.op = some (emb R x)) ∨ (wantS s.g (embF R F) = some false ∧ emb R x = .und))) ∨
  (wantS s.g (embF R F) = some true ∧ s.g = none ∧ effOp τ (embF R F) (embH R H) H.length s.op = some (emb R x, embW R ws))

theorem tone_ok (hR : R.Ok) {τ : TT} {s : SO} {F : TF A} {H : TH A} {cs : List Prop} {x : TV A} {ws : List (Nat × Option (TRow A))} (h : tone R τ s F H = some (cs, x, ws)) (hc : Conj cs) : OneOk R τ s F H x ws := by
  have gd : ∀ {g : Bool}, wantS s.g (embF R F) = some g → tguard R τ g F H s.op = some (cs, x, ws) → OneOk R τ s F H x ws := by
    intro g hw h
    unfold tguard at h
    generalize hs : strip g F (slotsU s.op) = q at h
    obtain ⟨sc, F'⟩ := q
    simp only at h
    split at h
    · rename_i cs' v hv
      simp only [Option.some.injEq, Prod.mk.injEq] at h
      obtain ⟨rfl, rfl, rfl⟩ := h
      obtain ⟨c1, c2⟩ := Conj.app hc
      refine .inl ⟨rfl, ?_⟩
      cases g with
      | false => exact .inr ⟨hw, rfl⟩
      | true =>
        refine .inl ⟨hw, ?_⟩
        have h1 := tval_ok hR hv (Conj.imp rfl c2)
        have h2 := strip_slots R true F rfl (op := s.op) (by rw [hs]; exact c1)
        rw [hs] at h2
        have h3 := valP_congr (τ := τ) (F := embF R F') (F' := embF R F) (H := embH R H) (H' := embH R H) (op := s.op) (fun t ht => (h2 t ht).symm) (fun _ _ => rfl)
        rw [h3, h1]; rfl
    · cases h
  unfold tone at h
  split at h
  · rename_i hg
    have hw : wantS s.g (embF R F) = some true := by rw [hg]; rfl
    unfold tbase at h
    generalize hs : strip true F (slotsU s.op) = q at h
    obtain ⟨sc, F'⟩ := q
    simp only at h
    split at h
    · rename_i cs' v hv
      simp only [Option.some.injEq, Prod.mk.injEq] at h
      obtain ⟨rfl, rfl, rfl⟩ := h
      obtain ⟨c1, c2⟩ := Conj.app hc
      have h2 := strip_slots R true F rfl (op := s.op) (by rw [hs]; exact c1)
      rw [hs] at h2
      have h3 := valP_congr (τ := τ) (F := embF R F') (F' := embF R F) (H := embH R H) (H' := embH R H) (op := s.op) (fun t ht => (h2 t ht).symm) (fun _ _ => rfl)
      exact .inl ⟨rfl, .inl ⟨hw, by rw [h3]; exact tval_ok hR hv c2⟩⟩
    · split at h
      · rename_i cs' v ws' hv
        simp only [Option.some.injEq, Prod.mk.injEq] at h
        obtain ⟨rfl, rfl, rfl⟩ := h
        obtain ⟨c1, c2⟩ := Conj.app hc
        have h2 := strip_slots R true F rfl (op := s.op) (by rw [hs]; exact c1)
        rw [hs] at h2
        have h3 := eff_congr (τ := τ) (F := embF R F') (F' := embF R F) (H := embH R H) (H' := embH R H) (n := H.length) (op := s.op) (evalO_congr fun t ht => (h2 t ht).symm) (fun _ _ => rfl)
        exact .inr ⟨hw, hg, by rw [h3]; exact teff_ok R hR hv c2⟩
      · cases h
  · rename_i t want hg
    split at h
    · rename_i e
      simp only [Option.some.injEq, Prod.mk.injEq] at h
      obtain ⟨_, rfl, rfl⟩ := h
      exact .inl ⟨rfl, .inr ⟨by rw [hg]; simp [wantS, fget_embF, e, emb], rfl⟩⟩
    · rename_i b e
      exact gd (by rw [hg]; simp only [wantS, fget_embF, e, emb]; cases b <;> cases want <;> rfl) h
    · rename_i g0 b e
      exact gd (by rw [hg]; simp only [wantS, fget_embF, e, emb]; cases g0 <;> cases b <;> cases want <;> rfl) h
    · cases h

end

/-! ### In the order of the text -/
section
variable {A : Nat → Type} {R : Reg A} {P : Program} {N : Dim}

/-- What is to be shown of a list of operations. -/
def TOps (R : Reg A) (P : Program) (N : Dim) (l : List SO) (Q : TF A → TH A → Prop) (F : TF A) (H : TH A) : Prop :=
  OpsW P N l (fun F' H' => ∃ G X, Q G X ∧ F' = embF R G ∧ H' = embH R X) (embF R F) (embH R H)

theorem TOps.nil {Q : TF A → TH A → Prop} {F : TF A} {H : TH A} (h : Q F H) : TOps R P N [] Q F H := OpsW.nil ⟨F, H, h, rfl, rfl⟩

theorem stepOp_val {op : Op} {F : Fr} {H : Hp} {x : LV} {K : LV → Fr → Hp → Prop} (h : valP (ttOf P) F H op = some x) (k : K x F H) : stepOp P op K F H := by
  unfold valP at h
  unfold stepOp
  split at h
  · rename_i y hy
    obtain rfl := Option.some.inj h
    rw [hy]; exact k
  · rename_i hy
    rw [hy, h]; exact k

theorem eff_kind {τ : TT} {F : Fr} {H H2 : Hp} {n : Nat} {op : Op} {r : LV × List (Nat × Option (List LV))} (h : effOp τ F H n op = some r) : pureOp τ F op = none ∧ loadOp τ F H2 op = none := by
  cases op with
  | alloc t => exact ⟨rfl, rfl⟩
  | box t x => exact ⟨rfl, rfl⟩
  | buildSlice t len ps => exact ⟨rfl, rfl⟩
  | makeSlice t l c => exact ⟨rfl, rfl⟩
  | store t x y => exact ⟨rfl, rfl⟩
  | call c =>
    obtain ⟨callee, args, tys⟩ := c
    cases callee with
    | builtin b => cases b <;> first | exact ⟨rfl, rfl⟩ | cases h
    | _ => cases h
  | _ => cases h

theorem stepOp_eff {op : Op} {F : Fr} {H : Hp} {x : LV} {ws : List (Nat × Option (List LV))} {K : LV → Fr → Hp → Prop} (h : effOp (ttOf P) F (more op H) H.length op = some (x, ws)) (k : K x F (applyWs (more op H) ws)) : stepOp P op K F H := by
  obtain ⟨h1, h2⟩ := eff_kind (H2 := H) h
  unfold stepOp
  rw [h1, h2]
  unfold effN
  rw [h]
  exact k

/-- The rows that are looked at are there: one more makes no difference. -/
theorem eff_more {τ : TT} {F : Fr} {H : Hp} {n : Nat} {op : Op} {r : LV × List (Nat × Option (List LV))} (h : effOp τ F H n op = some r) : effOp τ F (more op H) n op = some r := by
  unfold more
  split
  · rename_i hm
    have rowm : ∀ {k : Nat} {cs : List LV}, row H k = some cs → row (H ++ [none]) k = some cs := by
      intro k cs hk
      unfold row at *
      split at hk
      · rename_i c hc
        rw [List.getElem?_append_left (lt_row hc), hc]; exact hk
      · cases hk
    have srcm : ∀ {esz : Nat} {x : LV} {p : Nat × List LV}, srcCells H esz x = some p → srcCells (H ++ [none]) esz x = some p := by
      intro esz x p hp
      cases x with
      | sl sz k o m =>
        simp only [srcCells] at hp ⊢
        split at hp
        · rename_i e
          rw [if_pos e]
          split at hp
          · rename_i cs hcs; rw [rowm hcs]; exact hp
          · cases hp
        · cases hp
      | _ => exact hp
    cases op with
    | alloc t => exact h
    | box t x => exact h
    | buildSlice t len ps => exact h
    | makeSlice t l c => exact h
    | call c =>
      obtain ⟨callee, args, tys⟩ := c
      cases callee with
      | builtin b =>
        cases b with
        | append =>
          simp only [effOp] at h ⊢
          split at h
          · rename_i t u x y h1 h2 h3 h4
            split at h
            · rename_i esz eb ez _ _ _ ud _ _ _ g1 g2
              split at h
              · cases h
              · split at h
                · rename_i n' xs hs hx
                  rw [srcm hs, hx]; exact h
                · rename_i n' xs sz k o m hs hx
                  split at h
                  · rename_i cs hcs
                    rw [srcm hs, hx]
                    simp only [rowm hcs]
                    exact h
                  · cases h
                · cases h
            · cases h
          · cases h
        | _ => simp [makes] at hm
      | _ => simp [makes] at hm
    | _ => simp [makes] at hm
  · exact h

theorem TOps.one (hR : R.Ok) {τ : TT} (hτ : τ = ttOf P) {s : SO} {r : List SO} {Q : TF A → TH A → Prop} {F : TF A} {H : TH A} {cs : List Prop} {x : TV A} {ws : List (Nat × Option (TRow A))}
    (h : tone R τ s F H = some (cs, x, ws)) (hc : Conj cs) (k : TOps R P N r Q (tlput s.dst x F) (tapply (cond (Nat.beq ws.length 0) H (tmore s.op H)) ws)) : TOps R P N (s :: r) Q F H := by
  subst hτ
  unfold TOps at k ⊢
  rw [tlput_emb, tapply_emb] at k
  rcases tone_ok R hR h hc with ⟨rfl, ⟨hw, hv⟩ | ⟨hw, hv⟩⟩ | ⟨hw, hg, hv⟩
  · exact .step hw (stepOp_val hv k)
  · rw [hv] at k
    exact .skip hw k
  · refine .step hw (stepOp_eff (x := emb R x) (ws := embW R ws) (by rw [embH_length]; exact eff_more hv) ?_)
    cases hl : Nat.beq ws.length 0 with
    | false => rw [hl] at k; simp only [cond_false] at k; rw [tmore_emb] at k; exact k
    | true =>
      rw [hl] at k
      have : ws = [] := List.eq_nil_of_length_eq_zero (Nat.eq_of_beq_eq_true hl)
      subst this
      exfalso
      -- an operation that lays nothing is none of these
      cases hop : s.op <;> rw [hop] at hv
      all_goals first
        | (simp only [effOp] at hv; (repeat' split at hv) <;> simp [embW] at hv; done)
        | cases hv

/-- The operations up to the first that is not one of these. -/
def trun (R : Reg A) (τ : TT) : List SO → TF A → TH A → List Prop → List Prop × List SO × TF A × TH A
  | [], F, H, acc => (acc, [], F, H)
  | s :: r, F, H, acc => match tone R τ s F H with
    | some (cs, x, ws) => trun R τ r (tlput s.dst x F) (tapply (cond (Nat.beq ws.length 0) H (tmore s.op H)) ws) (acc ++ cs)
    | none => (acc, s :: r, F, H)

theorem trun_ok (hR : R.Ok) {τ : TT} (hτ : τ = ttOf P) {Q : TF A → TH A → Prop} : ∀ (l : List SO) (F F' : TF A) (H H' : TH A) (acc cs : List Prop) (rest : List SO), trun R τ l F H acc = (cs, rest, F', H') → Conj cs → TOps R P N rest Q F' H' → Conj acc ∧ TOps R P N l Q F H := by
  intro l
  induction l with
  | nil =>
    intro F F' H H' acc cs rest h hc k
    simp only [trun, Prod.mk.injEq] at h
    obtain ⟨rfl, rfl, rfl, rfl⟩ := h
    exact ⟨hc, k⟩
  | cons s r ih =>
    intro F F' H H' acc cs rest h hc k
    simp only [trun] at h
    split at h
    · rename_i c x ws h1
      obtain ⟨c1, c2⟩ := ih _ _ _ _ _ _ _ h hc k
      obtain ⟨c3, c4⟩ := Conj.app c1
      exact ⟨c3, .one hR hτ h1 c4 c2⟩
    · simp only [Prod.mk.injEq] at h
      obtain ⟨rfl, rfl, rfl, rfl⟩ := h
      exact ⟨hc, k⟩

theorem TOps.run (hR : R.Ok) {τ : TT} (hτ : τ = ttOf P) {Q : TF A → TH A → Prop} {l rest : List SO} {F F' : TF A} {H H' : TH A} {cs : List Prop} (h : trun R τ l F H [] = (cs, rest, F', H')) (hc : Conj cs) (k : TOps R P N rest Q F' H') : TOps R P N l Q F H :=
  (trun_ok hR hτ l F F' H H' [] cs rest h hc k).2

end
end Go.Lite
set_option linter.unusedVariables false
set_option linter.unusedSimpArgs false

/- Lite, part TG: rows renamed, forgotten, shown and frozen, on typed values. -/
namespace Go.Lite
open Go Go.RowKit
set_option linter.unusedVariables false

theorem ren_free (g : Nat → Nat) (x : LV) (hx : hfree x = true) : ren g x = x := by
  have key : ∀ (n : Nat) (g : Nat → Nat) (x : LV), SizeOf.sizeOf x < n → hfree x = true → ren g x = x := by
    intro n
    induction n with
    | zero => intro g x h; omega
    | succ n ih =>
      intro g x hs hx
      have keyL : ∀ (cs : List LV), SizeOf.sizeOf cs < n → hfreeL cs = true → renL g cs = cs := by
        intro cs hcs hf
        rw [renL_eq]
        have : ∀ c ∈ cs, ren g c = c := fun c hc => by
          obtain ⟨i, hi, rfl⟩ := List.getElem_of_mem hc
          have := List.sizeOf_lt_of_mem hc
          exact ih g _ (by omega) (hfreeL_get hf i hi)
        rw [List.map_congr_left this]; simp
      cases x <;> simp only [hfree, reduceCtorEq] at hx <;> simp only [ren]
      · rw [keyL _ (by simp at hs; omega) hx]
      · rw [keyL _ (by simp at hs; omega) hx]
      · rw [keyL _ (by simp at hs; omega) hx]
  exact key _ g x (Nat.lt_succ_self _) hx

theorem hfreeL_flat {α : Type} {f : α → List LV} (h : ∀ a, hfreeL (f a) = true) (xs : List α) : hfreeL (xs.flatMap f) = true := by
  have app : ∀ (a b : List LV), hfreeL a = true → hfreeL b = true → hfreeL (a ++ b) = true := by
    intro a
    induction a with
    | nil => intro b _ hb; exact hb
    | cons c r ih =>
      intro b ha hb
      simp only [hfreeL, Bool.and_eq_true, List.cons_append] at *
      exact ⟨ha.1, ih b ha.2 hb⟩
  induction xs with
  | nil => rfl
  | cons x r ih => rw [List.flatMap_cons]; exact app _ _ (h x) ih

theorem renL_free (g : Nat → Nat) {cs : List LV} (h : hfreeL cs = true) : renL g cs = cs := by
  rw [renL_eq]
  have : ∀ c ∈ cs, ren g c = c := fun c hc => by
    obtain ⟨i, hi, rfl⟩ := List.getElem_of_mem hc
    exact ren_free g _ (hfreeL_get h i hi)
  rw [List.map_congr_left this]; simp

section
variable {A : Nat → Type} (R : Reg A)

mutual
def tren (g : Nat → Nat) : TV A → TV A
  | .ptr h o => .ptr (g h) o
  | .ptrE sz h i o => .ptrE sz (g h) i o
  | .sl sz h o n => .sl sz (g h) o n
  | .sla sz h o n => .sla sz (g h) o n
  | .fn f cs => .fn f (trenL g cs)
  | .agg cs => .agg (trenL g cs)
  | .tup cs => .tup (trenL g cs)
  | .opt b v => .opt b (tren g v)
  | .dead => .dead
  | .und => .und
  | .bool b => .bool b
  | .int k n => .int k n
  | .str s => .str s
  | .nilp => .nilp
  | .nils => .nils
  | .nilf => .nilf
  | .yld l => .yld l
  | .pel cs => .pel cs
  | .lst e xs => .lst e xs
def trenL (g : Nat → Nat) : List (TV A) → List (TV A)
  | [] => []
  | c :: r => tren g c :: trenL g r
end

mutual
theorem tren_emb (g : Nat → Nat) : ∀ (v : TV A), emb R (tren g v) = ren g (emb R v)
  | .ptr _ _ => rfl
  | .ptrE _ _ _ _ => rfl
  | .sl _ _ _ _ => rfl
  | .sla _ _ _ _ => rfl
  | .fn f cs => by simp only [tren, emb, ren]; rw [trenL_emb g cs]
  | .agg cs => by simp only [tren, emb, ren]; rw [trenL_emb g cs]
  | .tup cs => by simp only [tren, emb, ren]; rw [trenL_emb g cs]
  | .opt b v => by
    simp only [tren, emb]
    cases b
    · rfl
    · exact tren_emb g v
  | .dead => rfl
  | .und => rfl
  | .bool _ => rfl
  | .int _ _ => rfl
  | .str _ => rfl
  | .nilp => rfl
  | .nils => rfl
  | .nilf => rfl
  | .yld _ => rfl
  | .pel _ => rfl
  | .lst _ _ => rfl
theorem trenL_emb (g : Nat → Nat) : ∀ (cs : List (TV A)), embC R (trenL g cs) = renL g (embC R cs)
  | [] => rfl
  | c :: r => by simp only [trenL, embC, renL]; rw [tren_emb g c, trenL_emb g r]
end

def trenR (g : Nat → Nat) : Option (TRow A) → Option (TRow A)
  | none => none
  | some (.cells cs) => some (.cells (trenL g cs))
  | some (.arr e xs) => some (.arr e xs)

theorem trenR_emb (hR : R.Ok) (g : Nat → Nat) (r : Option (TRow A)) : embO R (trenR g r) = renR g (embO R r) := by
  cases r with
  | none => rfl
  | some r =>
    cases r with
    | cells cs => simp only [trenR, embO, embR, renR, trenL_emb]
    | arr e xs => simp only [trenR, embO, embR, renR, renL_free g (hfreeL_flat (hR.free e) xs)]

def trenH (g : Nat → Nat) : TH A → TH A
  | [] => []
  | r :: H => trenR g r :: trenH g H
theorem trenH_emb (hR : R.Ok) (g : Nat → Nat) (H : TH A) : embH R (trenH g H) = (embH R H).map (renR g) := by
  induction H with
  | nil => rfl
  | cons r H ih => simp only [trenH, embH, List.map_cons, trenR_emb R hR, ih]

mutual
def thfree : TV A → Bool
  | .ptr _ _ | .ptrE _ _ _ _ | .sl _ _ _ _ | .sla _ _ _ _ => false
  | .fn _ cs => thfreeL cs
  | .agg cs => thfreeL cs
  | .tup cs => thfreeL cs
  | .opt _ v => thfree v
  | .dead | .und | .bool _ | .int _ _ | .str _ | .nilp | .nils | .nilf | .yld _ | .pel _ | .lst _ _ => true
def thfreeL : List (TV A) → Bool
  | [] => true
  | c :: r => thfree c && thfreeL r
end

mutual
theorem thfree_emb : ∀ (v : TV A), thfree v = true → hfree (emb R v) = true
  | .ptr _ _, h => by simp [thfree] at h
  | .ptrE _ _ _ _, h => by simp [thfree] at h
  | .sl _ _ _ _, h => by simp [thfree] at h
  | .sla _ _ _ _, h => by simp [thfree] at h
  | .fn f cs, h => by simp only [thfree] at h; simp only [emb, hfree]; exact thfreeL_emb cs h
  | .agg cs, h => by simp only [thfree] at h; simp only [emb, hfree]; exact thfreeL_emb cs h
  | .tup cs, h => by simp only [thfree] at h; simp only [emb, hfree]; exact thfreeL_emb cs h
  | .opt b v, h => by
    simp only [thfree] at h
    simp only [emb]
    cases b
    · rfl
    · exact thfree_emb v h
  | .dead, _ => rfl
  | .und, _ => rfl
  | .bool _, _ => rfl
  | .int _ _, _ => rfl
  | .str _, _ => rfl
  | .nilp, _ => rfl
  | .nils, _ => rfl
  | .nilf, _ => rfl
  | .yld _, _ => rfl
  | .pel _, _ => rfl
  | .lst _ _, _ => rfl
theorem thfreeL_emb : ∀ (cs : List (TV A)), thfreeL cs = true → hfreeL (embC R cs) = true
  | [], _ => rfl
  | c :: r, h => by
    simp only [thfreeL, Bool.and_eq_true] at h
    simp only [embC, hfreeL, Bool.and_eq_true]
    exact ⟨thfree_emb c h.1, thfreeL_emb r h.2⟩
end

mutual
/-- It holds no plain memory. -/
def tpfree : TV A → Bool
  | .pel _ | .lst _ _ => false
  | .fn _ cs => tpfreeL cs
  | .agg cs => tpfreeL cs
  | .tup cs => tpfreeL cs
  | .opt _ v => tpfree v
  | _ => true
def tpfreeL : List (TV A) → Bool
  | [] => true
  | c :: r => tpfree c && tpfreeL r
end

mutual
theorem tpfree_emb : ∀ (v : TV A), tpfree v = true → psfree (emb R v) = true
  | .pel _, h => by simp [tpfree] at h
  | .lst _ _, h => by simp [tpfree] at h
  | .fn f cs, h => by simp only [tpfree] at h; simp only [emb, psfree]; exact tpfreeL_emb cs h
  | .agg cs, h => by simp only [tpfree] at h; simp only [emb, psfree]; exact tpfreeL_emb cs h
  | .tup cs, h => by simp only [tpfree] at h; simp only [emb, psfree]; exact tpfreeL_emb cs h
  | .opt b v, h => by
    simp only [tpfree] at h
    simp only [emb]
    cases b
    · rfl
    · exact tpfree_emb v h
  | .dead, _ => rfl
  | .und, _ => rfl
  | .bool _, _ => rfl
  | .int _ _, _ => rfl
  | .str _, _ => rfl
  | .nilp, _ => rfl
  | .nils, _ => rfl
  | .nilf, _ => rfl
  | .yld _, _ => rfl
  | .ptr _ _, _ => rfl
  | .ptrE _ _ _ _, _ => rfl
  | .sl _ _ _ _, _ => rfl
  | .sla _ _ _ _, _ => rfl
theorem tpfreeL_emb : ∀ (cs : List (TV A)), tpfreeL cs = true → psfreeL (embC R cs) = true
  | [], _ => rfl
  | c :: r, h => by
    simp only [tpfreeL, Bool.and_eq_true] at h
    simp only [embC, psfreeL, Bool.and_eq_true]
    exact ⟨tpfree_emb c h.1, tpfreeL_emb r h.2⟩
end

/-- The element types whose cells are plain numbers, bools and strings. -/
def tpfreeH (fl : Nat → Bool) : TH A → Bool
  | [] => true
  | none :: H => tpfreeH fl H
  | some (.cells cs) :: H => tpfreeL cs && tpfreeH fl H
  | some (.arr e xs) :: H => fl e && tpfreeH fl H

theorem tpfreeH_emb {fl : Nat → Bool} (hfl : ∀ e, fl e = true → ∀ a, psfreeL (R.encL e a) = true) : ∀ (H : TH A), tpfreeH fl H = true → psfreeH (embH R H) = true
  | [], _ => rfl
  | none :: H, h => by simp only [embH, embO, psfreeH]; exact tpfreeH_emb hfl H (by simpa [tpfreeH] using h)
  | some (.cells cs) :: H, h => by
    simp only [tpfreeH, Bool.and_eq_true] at h
    simp only [embH, embO, embR, psfreeH, Bool.and_eq_true]
    exact ⟨tpfreeL_emb R cs h.1, tpfreeH_emb hfl H h.2⟩
  | some (.arr e xs) :: H, h => by
    simp only [tpfreeH, Bool.and_eq_true] at h
    simp only [embH, embO, embR, psfreeH, Bool.and_eq_true]
    refine ⟨?_, tpfreeH_emb hfl H h.2⟩
    have app : ∀ (a b : List LV), psfreeL a = true → psfreeL b = true → psfreeL (a ++ b) = true := by
      intro a
      induction a with
      | nil => intro b _ hb; exact hb
      | cons c r ih =>
        intro b ha hb
        simp only [psfreeL, Bool.and_eq_true, List.cons_append] at *
        exact ⟨ha.1, ih b ha.2 hb⟩
    induction xs with
    | nil => rfl
    | cons x r ih => rw [List.flatMap_cons]; exact app _ _ (hfl e h.1 x) ih

/-! ### What a reader is shown -/
def tsnap (H : TH A) : Nat → TV A → List Prop × TV A
  | 0, v => cond (thfree v) ([], v) ([], .dead)
  | k + 1, v => match v with
    | .sla sz h o n => (match trow H h with
      | some (.arr e xs) => cond (Nat.beq sz (R.sz e)) ([o + n ≤ xs.length], .lst e (cut xs o n)) ([], .dead)
      | _ => ([], .dead))
    | .fn f cs => cond (fnB ((cs.map (tsnap H k)).map (·.2)) cs) ((cs.map (tsnap H k)).flatMap (·.1), .fn f ((cs.map (tsnap H k)).map (·.2))) ([], .dead)
    | .agg cs => ((cs.map (tsnap H k)).flatMap (·.1), .agg ((cs.map (tsnap H k)).map (·.2)))
    | .und => ([], .und)
    | .bool b => ([], .bool b)
    | .int k n => ([], .int k n)
    | .str s => ([], .str s)
    | .nilp => ([], .nilp)
    | .nils => ([], .nils)
    | .nilf => ([], .nilf)
    | .yld l => ([], .yld l)
    | .pel cs => ([], .pel cs)
    | .lst e xs => ([], .lst e xs)
    | .ptr h o => (match trow H h with
      | some (.cells cs) => (((cs.drop o).map (tsnap H k)).flatMap (·.1), .pel (((cs.drop o).map (tsnap H k)).map (·.2)))
      | _ => ([], .dead))
    | .ptrE sz h i o => (match trow H h with
      | some (.arr e xs) => cond (Nat.beq sz (R.sz e)) ([i < xs.length], .pel ((R.enc e (xs.getD i (R.d e))).drop o)) ([], .dead)
      | _ => ([], .dead))
    | .opt g w => (match w with
      | .int kd n => ([g = true], .int kd n)
      | .bool b => ([g = true], .bool b)
      | .str s => ([g = true], .str s)
      | .lst e xs => ([g = true], .lst e xs)
      | .pel cs => ([g = true], .pel cs)
      | .agg cs => ((g = true) :: (cs.map (tsnap H k)).flatMap (·.1), .agg ((cs.map (tsnap H k)).map (·.2)))
      | _ => ([], .dead))
    | _ => ([], .dead)

theorem Conj.flat {α : Type _} {f : α → List Prop} : ∀ {l : List α}, Conj (l.flatMap f) → ∀ x ∈ l, Conj (f x)
  | [], _, x, hx => by simp at hx
  | a :: r, h, x, hx => by
    rw [List.flatMap_cons] at h
    obtain ⟨h1, h2⟩ := Conj.app h
    rcases List.mem_cons.1 hx with rfl | hx
    · exact h1
    · exact Conj.flat h2 x hx

/-- A value that says no more than the other, whatever the rows. -/
def Less (x y : LV) : Prop := ∀ (w : World) (per : Nat → Prop) (ι ι' : Pl) (v : Value), VR w per ι y v → VR w per ι' x v
theorem Less.dead {y : LV} : Less .dead y := fun _ _ _ _ v _ => .dead v
theorem Less.free {x : LV} (h : hfree x = true) : Less x x := fun _ _ _ _ _ hv => hv.hfree h

theorem snap_free {H : Hp} : ∀ (k : Nat) (x : LV), hfree x = true → (k = 0 ∨ ∀ cs, x ≠ .tup cs) → snap H k x = x := by
  intro k
  cases k with
  | zero => intro x hx _; simp [snap, hx]
  | succ k =>
    intro x hx ht
    have ht := ht.resolve_left (by omega)
    cases x <;> simp only [hfree, reduceCtorEq] at hx <;> simp only [snap]
    · simp [snL, hx]
    · simp [snL, hx]
    · exact absurd rfl (ht _)

theorem Less.agg {cs ds : List LV} (hl : cs.length = ds.length) (h : ∀ i (h1 : i < cs.length) (h2 : i < ds.length), Less cs[i] ds[i]) : Less (.agg cs) (.agg ds) := fun w per ι ι' v hv => by
  obtain ⟨vs, rfl, hvl⟩ := hv.agg_inv
  exact .agg (by rw [hl]; exact hvl.1) fun i hi2 => h i hi2 (by rw [← hl]; exact hi2) w per ι ι' _ (hvl.2 i (by rw [← hl]; exact hi2))
theorem Less.fn {f : Nat} {cs ds : List LV} (hu : isUnd cs = isUnd ds) (hl : cs.length = ds.length) (h : ∀ i (h1 : i < cs.length) (h2 : i < ds.length), Less cs[i] ds[i]) : Less (.fn f cs) (.fn f ds) := fun w per ι ι' v hv => by
  cases hv with
  | fn hn hvv => exact .fnC (by rw [hl]; exact hn) (fun i hi2 => h i hi2 (by rw [← hl]; exact hi2) w per ι ι' _ (hvv i (by rw [← hl]; exact hi2))) hu

theorem Less.pp {cs ds : List LV} (hl : cs.length ≤ ds.length) (h : ∀ i (h1 : i < cs.length) (h2 : i < ds.length), Less cs[i] ds[i]) : Less (.pp cs) (.pp ds) := fun w per ι ι' v hv => by
  obtain ⟨b, o, vs, hp, hc, hvv, rfl⟩ := hv.pp_inv
  exact .pp vs hp (fun i hi => hc i (by omega)) fun i hi => h i hi (by omega) w per [] [] _ (hvv i (by omega))

theorem snL_get {f : LV → LV} {l : List LV} : (snL f l).length = l.length ∧ ∀ i (h1 : i < (snL f l).length) (h2 : i < l.length), (snL f l)[i] = f l[i] ∨ (hfree l[i] = true ∧ (snL f l)[i] = l[i]) := by
  unfold snL
  split
  · rename_i hf
    exact ⟨rfl, fun i h1 h2 => .inr ⟨hfreeL_get hf i h2, rfl⟩⟩
  · exact ⟨by simp, fun i h1 h2 => .inl (by simp)⟩

theorem tsnap_ok (hR : R.Ok) (H : TH A) : ∀ (k : Nat) (v : TV A), Conj (tsnap R H k v).1 → Less (emb R (tsnap R H k v).2) (snap (embH R H) k (emb R v)) := by
  intro k
  induction k with
  | zero =>
    intro v _
    simp only [tsnap]
    cases hf : thfree v with
    | false => exact .dead
    | true =>
      simp only [cond_true, snap]
      rw [if_pos (thfree_emb R v hf)]
      exact .free (thfree_emb R v hf)
  | succ k ih =>
    have ihL : ∀ (cs : List (TV A)), Conj ((cs.map (tsnap R H k)).flatMap (·.1)) → (embC R ((cs.map (tsnap R H k)).map (·.2))).length = (snL (snap (embH R H) k) (embC R cs)).length ∧
        ∀ i (h1 : i < (embC R ((cs.map (tsnap R H k)).map (·.2))).length) (h2 : i < (snL (snap (embH R H) k) (embC R cs)).length), Less (embC R ((cs.map (tsnap R H k)).map (·.2)))[i] (snL (snap (embH R H) k) (embC R cs))[i] := by
      intro cs hc
      obtain ⟨g1, g2⟩ := snL_get (f := snap (embH R H) k) (l := embC R cs)
      refine ⟨by rw [g1, embC_length, embC_length]; simp, fun i h1 h2 => ?_⟩
      have hi : i < cs.length := by rw [embC_length] at h1; simpa using h1
      have hi2 : i < (embC R cs).length := by rw [embC_length]; exact hi
      have e1 : (embC R ((cs.map (tsnap R H k)).map (·.2)))[i] = emb R (tsnap R H k cs[i]).2 := by simp [embC_eq]
      have e2 : (embC R cs)[i] = emb R cs[i] := by simp [embC_eq]
      have hci := Conj.flat hc (tsnap R H k cs[i]) (List.mem_map.2 ⟨cs[i], List.getElem_mem hi, rfl⟩)
      rw [e1]
      rcases g2 i h2 hi2 with h | ⟨hf, h⟩
      · rw [h, e2]; exact ih _ hci
      · rw [h, e2]
        rw [e2] at hf
        by_cases ht : k = 0 ∨ ∀ ds, emb R cs[i] ≠ .tup ds
        · have := ih _ hci
          rwa [snap_free k _ hf ht] at this
        · -- a tuple is not shown
          have hk : ∃ j, k = j + 1 := ⟨k - 1, by omega⟩
          obtain ⟨j, rfl⟩ := hk
          have : ∃ ds, emb R cs[i] = .tup ds := by
            refine Classical.byContradiction fun hn => ht (.inr fun ds e => hn ⟨ds, e⟩)
          obtain ⟨ds, hds⟩ := this
          generalize cs[i] = v at *
          cases v <;> simp only [emb, reduceCtorEq] at hds <;> simp only [tsnap] <;> first | exact .dead | skip
          all_goals first
            | (rename_i g w; cases w <;> first | exact .dead | (cases g <;> simp [emb] at hds); done)
            | skip
    intro v hc
    cases v with
    | sla sz h o n =>
      simp only [tsnap] at hc ⊢
      split at hc
      · rename_i e xs hr
        cases hb : Nat.beq sz (R.sz e) with
        | false => simp only [cond_false]; exact .dead
        | true =>
          rw [hb] at hc
          simp only [cond_true] at hc ⊢
          obtain ⟨c1, _⟩ := hc
          have hs := Nat.eq_of_beq_eq_true hb
          subst hs
          simp only [emb, snap, row_emb R hr, embR]
          have hle : o * R.sz e + n * R.sz e ≤ (xs.flatMap (R.encL e)).length := by
            rw [fm_length (hR.len e), ← Nat.add_mul]; exact Nat.mul_le_mul_right _ c1
          rw [if_pos hle, fm_drop (hR.len e), fm_take (hR.len e), ← cut_eq]
          unfold snL
          rw [if_pos (hfreeL_flat (hR.free e) _), cut_length c1]
          exact .free rfl
      · exact .dead
    | fn f cs =>
      simp only [tsnap] at hc ⊢
      cases hb : fnB ((cs.map (tsnap R H k)).map (·.2)) cs with
      | false => simp only [cond_false]; exact .dead
      | true =>
        rw [hb] at hc
        simp only [cond_true] at hc ⊢
        simp only [emb, snap]
        exact .fn ((fnB_ok hb).trans (isUnd_snL _).symm) (ihL cs hc).1 (ihL cs hc).2
    | agg cs =>
      simp only [tsnap] at hc ⊢
      simp only [emb, snap]
      exact .agg (ihL cs hc).1 (ihL cs hc).2
    | opt b v =>
      cases v <;> simp only [tsnap] at hc ⊢ <;> first | exact .dead | skip
      all_goals
        obtain ⟨rfl, hc⟩ := hc
        simp only [emb, cond_true, snap]
        first | exact .agg (ihL _ hc).1 (ihL _ hc).2 | exact .free rfl | exact .free (by simp [hfree])
    | ptr h o =>
      simp only [tsnap] at hc ⊢
      split at hc
      · rename_i cs hr
        simp only [emb, snap, row_emb R hr, embR]
        have := ihL (cs.drop o) hc
        rw [embC_drop] at this
        exact .pp (Nat.le_of_eq this.1) this.2
      · exact .dead
    | ptrE sz h i o =>
      simp only [tsnap] at hc ⊢
      split at hc
      · rename_i e xs hr
        cases hb : Nat.beq sz (R.sz e) with
        | false => simp only [cond_false]; exact .dead
        | true =>
          rw [hb] at hc
          simp only [cond_true] at hc ⊢
          obtain ⟨c1, _⟩ := hc
          have hs := Nat.eq_of_beq_eq_true hb
          subst hs
          simp only [emb, snap, row_emb R hr, embR]
          obtain ⟨e1, e2⟩ := fm_split (hR.len e) c1
          have hsn : snL (snap (embH R H) k) ((xs.flatMap (R.encL e)).drop (i * R.sz e + o)) = (xs.flatMap (R.encL e)).drop (i * R.sz e + o) := by
            unfold snL
            rw [if_pos]
            have gen : ∀ (l : List LV), (∀ c ∈ l, hfree c = true) → hfreeL l = true := by
              intro l
              induction l with
              | nil => intro _; rfl
              | cons c r ih => intro h; simp only [hfreeL, Bool.and_eq_true]; exact ⟨h c (by simp), ih fun d hd => h d (by simp [hd])⟩
            refine gen _ fun c hc => ?_
            obtain ⟨j, hj, rfl⟩ := List.getElem_of_mem (List.mem_of_mem_drop hc)
            exact hfreeL_get (hfreeL_flat (hR.free e) xs) j hj
          rw [hsn]
          have ed : (xs.flatMap (R.encL e)).drop (i * R.sz e + o) = (R.encL e xs[i] ++ (xs.drop (i + 1)).flatMap (R.encL e)).drop o := by
            rw [e1, ← List.drop_drop, List.drop_left' e2]
          rw [ed, embC_drop, hR.ok, getD_get _ c1]
          refine .pp (by simp; omega) fun j h1 h2 => ?_
          have h1' : o + j < (R.encL e xs[i]).length := by simp at h1; omega
          rw [List.getElem_drop, List.getElem_drop, List.getElem_append_left h1']
          exact .free (hfreeL_get (hR.free e _) _ h1')
      · exact .dead
    | _ => simp only [tsnap, emb, snap]; first | exact .dead | exact .free rfl

end

/-- Arguments that say less. -/
theorem LC.args {P : Program} {f : Nat} {as bs : List LV} {Q : LV → Hp → Prop} (hl : as.length = bs.length) (h : ∀ i (h1 : i < as.length) (h2 : i < bs.length), Less as[i] bs[i]) (hc : LC P f as [] Q) : LC P f bs [] Q :=
  ⟨hc.1, fun kp per ι w vs h1 h2 h3 h4 => hc.2 kp per ι w vs h1 h2 h3 ⟨by rw [hl]; exact h4.1, fun i hi => h i hi (by rw [← hl]; exact hi) w per ι ι _ (h4.2 i (by rw [← hl]; exact hi))⟩⟩

end Go.Lite

/- Lite, part TH: what is known is forgotten, renumbered, frozen. -/
namespace Go.Lite
open Go Go.RowKit
set_option linter.unusedVariables false

/-- x says no more than y. -/
def WeakS (x y : LV) : Prop := ∀ (w : World) (per : Nat → Prop) (ι : Pl) (v : Value), VR w per ι y v → VR w per ι x v
theorem WeakS.refl (x : LV) : WeakS x x := fun _ _ _ _ h => h
theorem WeakS.dead {y : LV} : WeakS .dead y := fun _ _ _ v _ => .dead v

theorem WeakS.agg {cs ds : List LV} (hl : cs.length = ds.length) (h : ∀ i (h1 : i < cs.length) (h2 : i < ds.length), WeakS cs[i] ds[i]) : WeakS (.agg cs) (.agg ds) := fun w per ι v hv => by
  obtain ⟨vs, rfl, hvl⟩ := hv.agg_inv
  exact .agg (by rw [hl]; exact hvl.1) fun i hi2 => h i hi2 (by rw [← hl]; exact hi2) w per ι _ (hvl.2 i (by rw [← hl]; exact hi2))
theorem WeakS.tup {cs ds : List LV} (hl : cs.length = ds.length) (h : ∀ i (h1 : i < cs.length) (h2 : i < ds.length), WeakS cs[i] ds[i]) : WeakS (.tup cs) (.tup ds) := fun w per ι v hv => by
  obtain ⟨vs, rfl, hvl⟩ := hv.tup_inv
  exact .tup (by rw [hl]; exact hvl.1) fun i hi2 => h i hi2 (by rw [← hl]; exact hi2) w per ι _ (hvl.2 i (by rw [← hl]; exact hi2))
theorem WeakS.fn {f : Nat} {cs ds : List LV} (hu : isUnd cs = isUnd ds) (hl : cs.length = ds.length) (h : ∀ i (h1 : i < cs.length) (h2 : i < ds.length), WeakS cs[i] ds[i]) : WeakS (.fn f cs) (.fn f ds) := fun w per ι v hv => by
  cases hv with
  | fn hn hvv => exact .fnC (by rw [hl]; exact hn) (fun i hi2 => h i hi2 (by rw [← hl]; exact hi2) w per ι _ (hvv i (by rw [← hl]; exact hi2))) hu

theorem Wk.weak {N : Dim} {F F' : Fr} {H H' : Hp} (hl : H'.length = H.length) (hF : ∀ t, WeakS (fget F' t) (fget F t))
    (hH : ∀ (j : Nat) (cs' : List LV), H'[j]? = some (some cs') → ∃ cs, H[j]? = some (some cs) ∧ cs'.length = cs.length ∧ ∀ i (h1 : i < cs'.length) (h2 : i < cs.length), WeakS cs'[i] cs[i]) : Wk N F' H' F H := by
  intro cx a w hsr
  obtain ⟨ι, per, hst⟩ := hsr.st
  refine .of (ι := ι) (per := per) ⟨⟨by rw [hst.rep.len, hl], hst.rep.perlt, fun j cs' hj => ?_, fun j j' cs cs' b o b' o' hj hj' hi hi' hbb => ?_⟩, hst.p1, hst.p2, fun t => hF t w per ι _ (hst.fr t), hst.size, hst.defers, hst.below, hst.bs, hst.grow⟩
  · obtain ⟨cs, h1, h2, h3⟩ := hH j cs' hj
    rcases hst.rep.live j cs h1 with ⟨k1, k2⟩ | ⟨b, o, c, e, k1, k2, k3, k4, k5, k6⟩
    · subst k2; exact .inl ⟨k1, List.eq_nil_of_length_eq_zero (by simpa using h2)⟩
    · exact .inr ⟨b, o, c, e, k1, k2, k3, k4, by omega, fun i hi => h3 i hi (by omega) w per ι _ (k6 i (by omega))⟩
  · obtain ⟨d, h1, _⟩ := hH j cs hj
    obtain ⟨d', h1', _⟩ := hH j' cs' hj'
    exact hst.rep.inj j j' d d' b o b' o' h1 h1' hi hi' hbb

section
variable {A : Nat → Type} (R : Reg A)

def sgB (σ : List (Option Nat)) (j h : Nat) : Bool := match nth σ j with
  | some (some k) => Nat.beq k h
  | _ => false
theorem sgB_ok {σ : List (Option Nat)} {j h : Nat} (hb : sgB σ j h = true) : sgOf σ j = some h := by
  unfold sgB at hb
  rw [nth_eq] at hb
  unfold sgOf
  split at hb
  · rename_i k e
    rw [e, Nat.eq_of_beq_eq_true hb]
  · cases hb

mutual
/-- The new value says no more than the old one, the rows renumbered: what is asked. -/
def tfit (σ : List (Option Nat)) : TV A → TV A → Option (List Prop)
  | .dead, _ => some []
  | .und, .und => some []
  | .bool b', .bool b => some [b' = b]
  | .int k' n', .int k n => cond (kEq k' k) (some [n' = n]) none
  | .str s', .str s => some [s' = s]
  | .nilp, .nilp => some []
  | .nils, .nils => some []
  | .nilf, .nilf => some []
  | .yld l', .yld l => some [l' = l]
  | .ptr j o', .ptr h o => cond (sgB σ j h && Nat.beq o' o) (some []) none
  | .ptrE sz' j i' o', .ptrE sz h i o => cond (sgB σ j h && Nat.beq o' o && Nat.beq sz' sz) (some [i' = i]) none
  | .sl sz' j o' n', .sl sz h o n => cond (sgB σ j h && Nat.beq sz' sz) (some [o' = o, n' = n]) none
  | .sla sz' j o' n', .sla sz h o n => cond (sgB σ j h && Nat.beq sz' sz) (some [o' = o, n' = n]) none
  | .sla sz' j o' n', .sl sz h o n => cond (sgB σ j h && Nat.beq sz' sz) (some [o' * sz = o, n' = n]) none
  | .sla sz' j o' n', .nils => some [n' = 0]
  | .lst e' xs', .lst e xs => (match Nat.decEq e e' with
    | .isTrue p => some [xs' = p ▸ xs]
    | .isFalse _ => none)
  | .lst e' xs', .nils => some [xs' = []]
  | .pel cs', .pel cs => some [cs' = cs]
  | .fn f' cs', .fn f cs => cond (Nat.beq f' f && fnB cs' cs) (tfitL σ cs' cs) none
  | .agg cs', .agg cs => tfitL σ cs' cs
  | .tup cs', .tup cs => tfitL σ cs' cs
  | _, _ => none
def tfitL (σ : List (Option Nat)) : List (TV A) → List (TV A) → Option (List Prop)
  | [], [] => some []
  | c' :: r', c :: r => (match tfit σ c' c, tfitL σ r' r with
    | some a, some b => some (a ++ b)
    | _, _ => none)
  | _, _ => none
end

theorem tfitL_len {σ : List (Option Nat)} : ∀ (cs' cs : List (TV A)) (p : List Prop), tfitL σ cs' cs = some p → cs'.length = cs.length := by
  intro cs'
  induction cs' with
  | nil => intro cs p h; cases cs <;> simp [tfitL] at h; rfl
  | cons c r ih =>
    intro cs p h
    cases cs with
    | nil => simp [tfitL] at h
    | cons d r' =>
      simp only [tfitL] at h
      split at h
      · rename_i a b _ h2; simp [ih _ _ h2]
      · cases h

mutual
theorem tfit_ok {σ : List (Option Nat)} : ∀ (v' v : TV A) (p : List Prop), tfit σ v' v = some p → Conj p → FitS σ (emb R v') (emb R v)
  | .dead, v, _, _, _ => .dead
  | .und, v, p, h, hc => by cases v <;> simp only [tfit, reduceCtorEq] at h; exact .free rfl
  | .bool b', v, p, h, hc => by
    cases v <;> simp only [tfit, reduceCtorEq, Option.some.injEq] at h
    subst h; have := hc.1; subst this; exact .free rfl
  | .int k' n', v, p, h, hc => by
    cases v <;> simp only [tfit, reduceCtorEq] at h
    rename_i k n
    cases hk : kEq k' k with
    | false => rw [hk] at h; cases h
    | true =>
      rw [hk] at h
      obtain rfl := Option.some.inj h
      have := hc.1; subst this; have := kEq_eq hk; subst this; exact .free rfl
  | .str s', v, p, h, hc => by
    cases v <;> simp only [tfit, reduceCtorEq, Option.some.injEq] at h
    subst h; have := hc.1; subst this; exact .free rfl
  | .nilp, v, p, h, hc => by cases v <;> simp only [tfit, reduceCtorEq] at h; exact .free rfl
  | .nils, v, p, h, hc => by cases v <;> simp only [tfit, reduceCtorEq] at h; exact .free rfl
  | .nilf, v, p, h, hc => by cases v <;> simp only [tfit, reduceCtorEq] at h; exact .free rfl
  | .yld l', v, p, h, hc => by
    cases v <;> simp only [tfit, reduceCtorEq, Option.some.injEq] at h
    subst h; have := hc.1; subst this; exact .free rfl
  | .ptr j o', v, p, h, hc => by
    cases v <;> simp only [tfit, reduceCtorEq] at h
    rename_i k o
    cases hk : sgB σ j k && Nat.beq o' o with
    | false => rw [hk] at h; cases h
    | true =>
      simp only [Bool.and_eq_true] at hk
      have := Nat.eq_of_beq_eq_true hk.2; subst this
      exact .ptr (sgB_ok hk.1)
  | .ptrE sz' j i' o', v, p, h, hc => by
    cases v <;> simp only [tfit, reduceCtorEq] at h
    rename_i sz k i o
    cases hk : sgB σ j k && Nat.beq o' o && Nat.beq sz' sz with
    | false => rw [hk] at h; cases h
    | true =>
      rw [hk] at h
      obtain rfl := Option.some.inj h
      simp only [Bool.and_eq_true] at hk
      have := Nat.eq_of_beq_eq_true hk.1.2; subst this
      have := Nat.eq_of_beq_eq_true hk.2; subst this
      have := hc.1; subst this
      exact .ptr (sgB_ok hk.1.1)
  | .sl sz' j o' n', v, p, h, hc => by
    cases v <;> simp only [tfit, reduceCtorEq] at h
    rename_i sz k o n
    cases hk : sgB σ j k && Nat.beq sz' sz with
    | false => rw [hk] at h; cases h
    | true =>
      rw [hk] at h
      obtain rfl := Option.some.inj h
      simp only [Bool.and_eq_true] at hk
      have := Nat.eq_of_beq_eq_true hk.2; subst this
      obtain ⟨rfl, rfl, _⟩ := hc
      exact .sl (sgB_ok hk.1)
  | .sla sz' j o' n', v, p, h, hc => by
    cases v <;> simp only [tfit, reduceCtorEq] at h
    · obtain rfl := Option.some.inj h
      obtain ⟨rfl, _⟩ := hc
      exact .slnil
    · rename_i sz k o n
      cases hk : sgB σ j k && Nat.beq sz' sz with
      | false => rw [hk] at h; cases h
      | true =>
        rw [hk] at h
        obtain rfl := Option.some.inj h
        simp only [Bool.and_eq_true] at hk
        have := Nat.eq_of_beq_eq_true hk.2; subst this
        obtain ⟨rfl, rfl, _⟩ := hc
        exact .sl (sgB_ok hk.1)
    · rename_i sz k o n
      cases hk : sgB σ j k && Nat.beq sz' sz with
      | false => rw [hk] at h; cases h
      | true =>
        rw [hk] at h
        obtain rfl := Option.some.inj h
        simp only [Bool.and_eq_true] at hk
        have := Nat.eq_of_beq_eq_true hk.2; subst this
        obtain ⟨rfl, rfl, _⟩ := hc
        exact .sl (sgB_ok hk.1)
  | .lst e' xs', v, p, h, hc => by
    cases v <;> simp only [tfit, reduceCtorEq] at h
    · obtain rfl := Option.some.inj h
      obtain ⟨rfl, _⟩ := hc
      exact .psnil
    · rename_i e xs
      split at h
      · rename_i q _
        subst q
        obtain rfl := Option.some.inj h
        obtain ⟨rfl, _⟩ := hc
        exact .free rfl
      · cases h
  | .pel cs', v, p, h, hc => by
    cases v <;> simp only [tfit, reduceCtorEq, Option.some.injEq] at h
    subst h; have := hc.1; subst this; exact .free rfl
  | .fn f' cs', v, p, h, hc => by
    cases v <;> simp only [tfit, reduceCtorEq] at h
    rename_i f cs
    cases hk : Nat.beq f' f && fnB cs' cs with
    | false => rw [hk] at h; cases h
    | true =>
      rw [hk] at h
      rw [Bool.and_eq_true] at hk
      have := Nat.eq_of_beq_eq_true hk.1; subst this
      exact .fn (fnB_ok hk.2) (by rw [embC_length, embC_length]; exact tfitL_len _ _ _ h) (tfitL_ok cs' cs p h hc)
  | .agg cs', v, p, h, hc => by
    cases v <;> simp only [tfit, reduceCtorEq] at h
    rename_i cs
    exact .agg (by rw [embC_length, embC_length]; exact tfitL_len _ _ _ h) (tfitL_ok cs' cs p h hc)
  | .tup cs', v, p, h, hc => by
    cases v <;> simp only [tfit, reduceCtorEq] at h
    rename_i cs
    exact .tup (by rw [embC_length, embC_length]; exact tfitL_len _ _ _ h) (tfitL_ok cs' cs p h hc)
  | .opt g w, v, p, h, hc => by cases v <;> simp only [tfit, reduceCtorEq] at h
theorem tfitL_ok {σ : List (Option Nat)} : ∀ (cs' cs : List (TV A)) (p : List Prop), tfitL σ cs' cs = some p → Conj p → ∀ i (h1 : i < (embC R cs').length) (h2 : i < (embC R cs).length), FitS σ (embC R cs')[i] (embC R cs)[i]
  | [], cs, p, h, hc => fun i h1 => by simp [embC] at h1
  | c' :: r', [], p, h, hc => by simp [tfitL] at h
  | c' :: r', c :: r, p, h, hc => by
    simp only [tfitL] at h
    split at h
    · rename_i a b ha hb
      obtain rfl := Option.some.inj h
      obtain ⟨c1, c2⟩ := Conj.app hc
      intro i h1 h2
      cases i with
      | zero => exact tfit_ok c' c a ha c1
      | succ i =>
        simp only [embC, List.getElem_cons_succ]
        exact tfitL_ok r' r b hb c2 i (by simpa [embC] using h1) (by simpa [embC] using h2)
    · cases h
end

def trfit (σ : List (Option Nat)) : TRow A → TRow A → Option (List Prop)
  | .cells cs', .cells cs => tfitL σ cs' cs
  | .arr e' xs', .arr e xs => (match Nat.decEq e e' with
    | .isTrue p => some [xs' = p ▸ xs]
    | .isFalse _ => none)
  | .arr e' xs', .cells cs => some [xs'.flatMap (R.encL e') = embC R cs]
  | _, _ => none

theorem trfit_ok (hR : R.Ok) {σ : List (Option Nat)} {r' r : TRow A} {p : List Prop} (h : trfit R σ r' r = some p) (hc : Conj p) :
    (embR R r').length = (embR R r).length ∧ ∀ i (h1 : i < (embR R r').length) (h2 : i < (embR R r).length), FitS σ (embR R r')[i] (embR R r)[i] := by
  cases r' with
  | cells cs' =>
    cases r with
    | cells cs =>
      simp only [trfit] at h
      exact ⟨by simp only [embR, embC_length]; exact tfitL_len _ _ _ h, tfitL_ok R cs' cs p h hc⟩
    | arr e xs => cases h
  | arr e' xs' =>
    have fr : ∀ i (h1 : i < (embR R (.arr e' xs')).length), hfree (embR R (.arr e' xs'))[i] = true := fun i h1 => hfreeL_get (hfreeL_flat (hR.free e') xs') i h1
    cases r with
    | cells cs =>
      obtain rfl := Option.some.inj h
      obtain ⟨c1, _⟩ := hc
      refine ⟨by simp only [embR]; rw [c1], fun i h1 h2 => ?_⟩
      have e1 : (embR R (TRow.cells cs))[i] = (embR R (.arr e' xs'))[i] := by simp only [embR, c1]
      rw [e1]
      exact .free (fr i h1)
    | arr e xs =>
      simp only [trfit] at h
      split at h
      · rename_i q _
        subst q
        obtain rfl := Option.some.inj h
        obtain ⟨c1, _⟩ := hc
        simp only at c1
        subst c1
        exact ⟨rfl, fun i h1 h2 => .free (fr i h1)⟩
      · cases h

def fitF (σ : List (Option Nat)) (F : TF A) : TF A → Option (List Prop)
  | [] => some []
  | (t, v) :: r => (match tfit σ v (tget F t), fitF σ F r with
    | some a, some b => some (a ++ b)
    | _, _ => none)

theorem fitF_ok {σ : List (Option Nat)} {F : TF A} : ∀ (F' : TF A) (p : List Prop), fitF σ F F' = some p → Conj p → ∀ t, FitS σ (fget (embF R F') t) (fget (embF R F) t) := by
  intro F'
  induction F' with
  | nil => intro p _ _ t; exact .dead
  | cons q r ih =>
    intro p h hc t
    obtain ⟨s, v⟩ := q
    simp only [fitF] at h
    split at h
    · rename_i a b ha hb
      obtain rfl := Option.some.inj h
      obtain ⟨c1, c2⟩ := Conj.app hc
      rw [fget_embF, fget_embF]
      simp only [tget]
      cases hst : Nat.beq s t with
      | true =>
        have := Nat.eq_of_beq_eq_true hst; subst this
        exact tfit_ok R v _ a ha c1
      | false =>
        have := ih b hb c2 t
        rwa [fget_embF, fget_embF] at this
    · cases h

def fitH (σ : List (Option Nat)) (H : TH A) : Nat → TH A → Option (List Prop)
  | _, [] => some []
  | j, none :: r => fitH σ H (j + 1) r
  | j, some x :: r => (match (match nth σ j with
      | some (some h) => (match trow H h with | some y => trfit R σ x y | none => none)
      | some none => (match x with | .arr e xs => some [xs = []] | .cells _ => none)
      | none => none), fitH σ H (j + 1) r with
    | some a, some b => some (a ++ b)
    | _, _ => none)

theorem fitH_ok (hR : R.Ok) {σ : List (Option Nat)} {H : TH A} : ∀ (H' : TH A) (k : Nat) (p : List Prop), fitH R σ H k H' = some p → Conj p → ∀ (j : Nat) (cs' : List LV), (embH R H')[j]? = some (some cs') →
    (sgOf σ (k + j) = none ∧ cs' = []) ∨ ∃ h cs, sgOf σ (k + j) = some h ∧ (embH R H)[h]? = some (some cs) ∧ cs'.length ≤ cs.length ∧ ∀ i (h1 : i < cs'.length) (h2 : i < cs.length), FitS σ cs'[i] cs[i] := by
  intro H'
  induction H' with
  | nil => intro k p _ _ j cs' h; simp [embH] at h
  | cons x r ih =>
    intro k p h hc j cs' hj
    cases x with
    | none =>
      simp only [fitH] at h
      cases j with
      | zero => simp [embH, embO] at hj
      | succ j =>
        have := ih (k + 1) p h hc j cs' (by simpa [embH] using hj)
        rwa [show k + 1 + j = k + (j + 1) by omega] at this
    | some x =>
      simp only [fitH] at h
      split at h
      · rename_i a b ha hb
        obtain rfl := Option.some.inj h
        obtain ⟨c1, c2⟩ := Conj.app hc
        cases j with
        | succ j =>
          have := ih (k + 1) b hb c2 j cs' (by simpa [embH] using hj)
          rwa [show k + 1 + j = k + (j + 1) by omega] at this
        | zero =>
          simp only [embH, embO, List.getElem?_cons_zero, Option.some.injEq] at hj
          subst hj
          rw [Nat.add_zero]
          split at ha
          · rename_i h' hs
            rw [nth_eq] at hs
            split at ha
            · rename_i y hy
              obtain ⟨t1, t2⟩ := trfit_ok R hR ha c1
              refine .inr ⟨h', embR R y, by simp [sgOf, hs], ?_, by omega, t2⟩
              have := row_emb R hy
              unfold row at this
              split at this
              · rename_i z hz; rw [hz]; exact congrArg some this
              · cases this
            · cases ha
          · rename_i hs
            rw [nth_eq] at hs
            split at ha
            · obtain rfl := Option.some.inj ha
              obtain ⟨c3, _⟩ := c1
              subst c3
              exact .inl ⟨by simp [sgOf, hs], rfl⟩
            · cases ha
          · cases ha
      · cases h

def memO (h : Nat) : List (Option Nat) → Bool
  | [] => false
  | none :: r => memO h r
  | some k :: r => Nat.beq k h || memO h r
def sgNd : List (Option Nat) → Bool
  | [] => true
  | none :: r => sgNd r
  | some h :: r => !(memO h r) && sgNd r

theorem memO_get {h : Nat} : ∀ {σ : List (Option Nat)} {j : Nat}, σ[j]? = some (some h) → memO h σ = true := by
  intro σ
  induction σ with
  | nil => intro j hj; simp at hj
  | cons x r ih =>
    intro j hj
    cases j with
    | zero => simp at hj; subst hj; simp [memO]
    | succ j =>
      have := ih (j := j) (by simpa using hj)
      cases x <;> simp [memO, this]

theorem sgNd_ok : ∀ {σ : List (Option Nat)}, sgNd σ = true → ∀ (j j' h : Nat), σ[j]? = some (some h) → σ[j']? = some (some h) → j = j' := by
  intro σ
  induction σ with
  | nil => intro _ j j' h hj; simp at hj
  | cons x r ih =>
    intro hn j j' h hj hj'
    have hr : sgNd r = true := by cases x <;> simp [sgNd] at hn <;> first | exact hn | exact hn.2
    cases j with
    | zero =>
      cases j' with
      | zero => rfl
      | succ j' =>
        simp at hj hj'
        subst hj
        simp [sgNd] at hn
        rw [memO_get hj'] at hn
        simp at hn
    | succ j =>
      cases j' with
      | zero =>
        simp at hj hj'
        subst hj'
        simp [sgNd] at hn
        rw [memO_get hj] at hn
        simp at hn
      | succ j' => rw [ih hr j j' h (by simpa using hj) (by simpa using hj')]

def keepB (σ : List (Option Nat)) : Nat → Bool
  | 0 => true
  | m + 1 => sgB σ m m && keepB σ m
theorem keepB_ok {σ : List (Option Nat)} : ∀ (m : Nat), keepB σ m = true → ∀ j, j < m → sgOf σ j = some j := by
  intro m
  induction m with
  | zero => intro _ j hj; omega
  | succ m ih =>
    intro h j hj
    simp only [keepB, Bool.and_eq_true] at h
    rcases Nat.lt_or_ge j m with h1 | h1
    · exact ih h.2 j h1
    · have : j = m := by omega
      subst this; exact sgB_ok h.1

/-- From what is known to less, the rows renumbered: what is asked. -/
def tcanon (m : Nat) (σ : List (Option Nat)) (F' : TF A) (H' : TH A) (F : TF A) (H : TH A) : Option (List Prop) :=
  cond (Nat.beq σ.length H'.length && sgNd σ && keepB σ m) (match fitF σ F F', fitH R σ H 0 H' with
    | some a, some b => some (a ++ b)
    | _, _ => none) none

theorem tcanon_ok (hR : R.Ok) {N : Dim} {σ : List (Option Nat)} {F F' : TF A} {H H' : TH A} {p : List Prop} (h : tcanon R N.m σ F' H' F H = some p) (hc : Conj p) : Wk N (embF R F') (embH R H') (embF R F) (embH R H) := by
  unfold tcanon at h
  cases hb : Nat.beq σ.length H'.length && sgNd σ && keepB σ N.m with
  | false => rw [hb] at h; cases h
  | true =>
    rw [hb] at h
    simp only [cond_true] at h
    simp only [Bool.and_eq_true] at hb
    split at h
    · rename_i a b ha hb2
      obtain rfl := Option.some.inj h
      obtain ⟨c1, c2⟩ := Conj.app hc
      refine .canon σ (by rw [embH_length]; exact Nat.eq_of_beq_eq_true hb.1.1) (fun j j' h hj hj' => ?_) (keepB_ok _ hb.2) (fitF_ok R F' a ha c1) (fun j cs' hj => ?_)
      · have sg : ∀ j, sgOf σ j = some h → σ[j]? = some (some h) := by
          intro j hj
          unfold sgOf at hj
          split at hj
          · rename_i x hx; rw [hx, hj]
          · cases hj
        exact sgNd_ok hb.1.2 j j' h (sg j hj) (sg j' hj')
      · have := fitH_ok R hR H' 0 b hb2 c2 j cs' hj
        rwa [Nat.zero_add] at this
    · cases h

/-! ### Freezing -/
def tfz (r e : Nat) (xs : List (A e)) : Nat → TV A → List Prop × TV A
  | 0, _ => ([], .dead)
  | k + 1, v => match v with
    | .sla sz h o n => cond (Nat.beq h r) (cond (Nat.beq sz (R.sz e)) ([o + n ≤ xs.length], .lst e (cut xs o n)) ([], .dead)) ([], .sla sz h o n)
    | .ptrE sz h i o => cond (Nat.beq h r) ([], .dead) ([], .ptrE sz h i o)
    | .ptr h o => cond (Nat.beq h r) ([], .dead) ([], .ptr h o)
    | .sl sz h o n => cond (Nat.beq h r) ([], .dead) ([], .sl sz h o n)
    | .fn f cs => cond (fnB ((cs.map (tfz r e xs k)).map (·.2)) cs) ((cs.map (tfz r e xs k)).flatMap (·.1), .fn f ((cs.map (tfz r e xs k)).map (·.2))) ([], .dead)
    | .agg cs => ((cs.map (tfz r e xs k)).flatMap (·.1), .agg ((cs.map (tfz r e xs k)).map (·.2)))
    | .tup cs => ((cs.map (tfz r e xs k)).flatMap (·.1), .tup ((cs.map (tfz r e xs k)).map (·.2)))
    | .opt _ _ => ([], .dead)
    | v => ([], v)

theorem beq_ne {a b : Nat} (h : Nat.beq a b = false) : a ≠ b := fun e => by subst e; simp at h

theorem tfz_ok (hR : R.Ok) {r e : Nat} {xs : List (A e)} : ∀ (k : Nat) (v : TV A), Conj (tfz R r e xs k v).1 → WeakS (emb R (tfz R r e xs k v).2) (fz r (xs.flatMap (R.encL e)) (emb R v)) := by
  intro k
  induction k with
  | zero => intro v _; exact .dead
  | succ k ih =>
    have ihL : ∀ (cs : List (TV A)), Conj ((cs.map (tfz R r e xs k)).flatMap (·.1)) → (embC R ((cs.map (tfz R r e xs k)).map (·.2))).length = (fzL r (xs.flatMap (R.encL e)) (embC R cs)).length ∧
        ∀ i (h1 : i < (embC R ((cs.map (tfz R r e xs k)).map (·.2))).length) (h2 : i < (fzL r (xs.flatMap (R.encL e)) (embC R cs)).length), WeakS (embC R ((cs.map (tfz R r e xs k)).map (·.2)))[i] (fzL r (xs.flatMap (R.encL e)) (embC R cs))[i] := by
      intro cs hc
      refine ⟨by rw [fzL_eq, List.length_map, embC_length, embC_length]; simp, fun i h1 h2 => ?_⟩
      have hi : i < cs.length := by rw [embC_length] at h1; simpa using h1
      have hci := Conj.flat hc (tfz R r e xs k cs[i]) (List.mem_map.2 ⟨cs[i], List.getElem_mem hi, rfl⟩)
      have := ih _ hci
      simp only [fzL_eq, embC_eq, List.getElem_map] at *
      exact this
    intro v hc
    cases v with
    | sla sz h o n =>
      simp only [tfz] at hc ⊢
      cases hb : Nat.beq h r with
      | false =>
        simp only [cond_false, emb, fz]
        rw [if_neg (beq_ne hb)]
        exact .refl _
      | true =>
        rw [hb] at hc
        simp only [cond_true] at hc ⊢
        cases hs : Nat.beq sz (R.sz e) with
        | false => exact .dead
        | true =>
          rw [hs] at hc
          simp only [cond_true] at hc ⊢
          obtain ⟨c1, _⟩ := hc
          have := Nat.eq_of_beq_eq_true hs; subst this
          have hle : o * R.sz e + n * R.sz e ≤ (xs.flatMap (R.encL e)).length := by
            rw [fm_length (hR.len e), ← Nat.add_mul]; exact Nat.mul_le_mul_right _ c1
          simp only [emb, fz]
          rw [if_pos (Nat.eq_of_beq_eq_true hb), if_pos hle, fm_drop (hR.len e), fm_take (hR.len e), ← cut_eq, cut_length c1]
          exact .refl _
    | ptrE sz h i o =>
      simp only [tfz]
      cases hb : Nat.beq h r with
      | false => simp only [cond_false, emb, fz]; rw [if_neg (beq_ne hb)]; exact .refl _
      | true => exact .dead
    | ptr h o =>
      simp only [tfz]
      cases hb : Nat.beq h r with
      | false => simp only [cond_false, emb, fz]; rw [if_neg (beq_ne hb)]; exact .refl _
      | true => exact .dead
    | sl sz h o n =>
      simp only [tfz]
      cases hb : Nat.beq h r with
      | false => simp only [cond_false, emb, fz]; rw [if_neg (beq_ne hb)]; exact .refl _
      | true => exact .dead
    | fn f cs =>
      simp only [tfz] at hc ⊢
      cases hb : fnB ((cs.map (tfz R r e xs k)).map (·.2)) cs with
      | false => simp only [cond_false]; exact .dead
      | true =>
        rw [hb] at hc
        simp only [cond_true] at hc ⊢
        simp only [emb, fz]
        exact .fn (by rw [fnB_ok hb, fzL_eq]; exact (isUnd_map fz_und _).symm) (ihL cs hc).1 (ihL cs hc).2
    | agg cs => simp only [tfz] at hc ⊢; simp only [emb, fz]; exact .agg (ihL cs hc).1 (ihL cs hc).2
    | tup cs => simp only [tfz] at hc ⊢; simp only [emb, fz]; exact .tup (ihL cs hc).1 (ihL cs hc).2
    | opt g v => exact .dead
    | _ => simp only [tfz, emb, fz]; exact .refl _

def tfzF (r e : Nat) (xs : List (A e)) : TF A → List Prop × TF A
  | [] => ([], [])
  | (t, v) :: F => (match tfz R r e xs 3 v, tfzF r e xs F with | (p, v'), (q, F') => (p ++ q, (t, v') :: F'))
def tfzH (r e : Nat) (xs : List (A e)) : Nat → TH A → List Prop × TH A
  | _, [] => ([], [])
  | j, none :: H => (match tfzH r e xs (j + 1) H with | (q, H') => (q, none :: H'))
  | j, some (.arr e' ys) :: H => (match tfzH r e xs (j + 1) H with | (q, H') => (q, cond (Nat.beq j r) none (some (.arr e' ys)) :: H'))
  | j, some (.cells cs) :: H => (match tfzH r e xs (j + 1) H with | (q, H') => ((cs.map (tfz R r e xs 3)).flatMap (·.1) ++ q, some (.cells ((cs.map (tfz R r e xs 3)).map (·.2))) :: H'))

theorem tfzF_ok (hR : R.Ok) {r e : Nat} {xs : List (A e)} : ∀ (F : TF A), Conj (tfzF R r e xs F).1 → ∀ t, WeakS (fget (embF R (tfzF R r e xs F).2) t) (fget (fzF r (xs.flatMap (R.encL e)) (embF R F)) t) := by
  intro F
  induction F with
  | nil => intro _ t; exact .dead
  | cons q F ih =>
    intro hc t
    obtain ⟨s, v⟩ := q
    simp only [tfzF] at hc ⊢
    obtain ⟨c1, c2⟩ := Conj.app hc
    simp only [embF, fzF, fget]
    cases Nat.beq s t with
    | true => exact tfz_ok R hR 3 v c1
    | false => exact ih c2 t

theorem tfzH_len {r e : Nat} {xs : List (A e)} : ∀ (H : TH A) (k : Nat), (tfzH R r e xs k H).2.length = H.length := by
  intro H
  induction H with
  | nil => intro k; rfl
  | cons x H ih =>
    intro k
    cases x with
    | none => simp [tfzH, ih]
    | some x => cases x <;> simp [tfzH, ih]

theorem tfzH_ok (hR : R.Ok) {r e : Nat} {xs : List (A e)} : ∀ (H : TH A) (k : Nat), Conj (tfzH R r e xs k H).1 → (∀ cs : List (TV A), k ≤ r → H[r - k]? ≠ some (some (TRow.cells cs))) →
    ∀ (j : Nat) (cs' : List LV), (embH R (tfzH R r e xs k H).2)[j]? = some (some cs') → k + j ≠ r ∧ ∃ cs, (embH R H)[j]? = some (some cs) ∧ cs'.length = (fzL r (xs.flatMap (R.encL e)) cs).length ∧
      ∀ i (h1 : i < cs'.length) (h2 : i < (fzL r (xs.flatMap (R.encL e)) cs).length), WeakS cs'[i] (fzL r (xs.flatMap (R.encL e)) cs)[i] := by
  intro H
  induction H with
  | nil => intro k _ _ j cs' h; simp [tfzH, embH] at h
  | cons x H ih =>
    intro k hc hnc j cs' hj
    have next : ∀ {j}, Conj (tfzH R r e xs (k + 1) H).1 → (embH R (tfzH R r e xs (k + 1) H).2)[j]? = some (some cs') → k + (j + 1) ≠ r ∧ ∃ cs, (embH R (x :: H))[j + 1]? = some (some cs) ∧ cs'.length = (fzL r (xs.flatMap (R.encL e)) cs).length ∧
        ∀ i (h1 : i < cs'.length) (h2 : i < (fzL r (xs.flatMap (R.encL e)) cs).length), WeakS cs'[i] (fzL r (xs.flatMap (R.encL e)) cs)[i] := by
      intro j hc hj
      obtain ⟨h1, cs, h2, h3⟩ := ih (k + 1) hc (fun cs hk => by
        have := hnc cs (by omega)
        rwa [show r - k = (r - (k + 1)) + 1 by omega, List.getElem?_cons_succ] at this) j cs' hj
      exact ⟨by omega, cs, by simpa [embH] using h2, h3⟩
    cases x with
    | none =>
      simp only [tfzH] at hc hj
      cases j with
      | zero => simp [embH, embO] at hj
      | succ j => exact next hc (by simpa [embH] using hj)
    | some x =>
      cases x with
      | arr e' ys =>
        simp only [tfzH] at hc hj
        cases j with
        | succ j => exact next hc (by simpa [embH] using hj)
        | zero =>
          simp only [embH, List.getElem?_cons_zero, Option.some.injEq] at hj
          cases hb : Nat.beq k r with
          | true => rw [hb] at hj; simp [embO] at hj
          | false =>
            rw [hb] at hj
            simp only [cond_false, embO, Option.some.injEq, embR] at hj
            subst hj
            refine ⟨by have := beq_ne hb; omega, ys.flatMap (R.encL e'), by simp [embH, embO, embR], ?_⟩
            have fr := hfreeL_flat (hR.free e') ys
            have : fzL r (xs.flatMap (R.encL e)) (ys.flatMap (R.encL e')) = ys.flatMap (R.encL e') := by
              rw [fzL_eq]
              have key : ∀ (n : Nat) (x : LV), SizeOf.sizeOf x < n → hfree x = true → fz r (xs.flatMap (R.encL e)) x = x := by
                intro n
                induction n with
                | zero => intro x h; omega
                | succ n ih =>
                  intro x hs hx
                  have keyL : ∀ (cs : List LV), SizeOf.sizeOf cs < n → hfreeL cs = true → fzL r (xs.flatMap (R.encL e)) cs = cs := by
                    intro cs hcs hf
                    rw [fzL_eq]
                    have : ∀ c ∈ cs, fz r (xs.flatMap (R.encL e)) c = c := fun c hc => by
                      obtain ⟨i, hi, rfl⟩ := List.getElem_of_mem hc
                      have := List.sizeOf_lt_of_mem hc
                      exact ih _ (by omega) (hfreeL_get hf i hi)
                    rw [List.map_congr_left this]; simp
                  cases x <;> simp only [hfree, reduceCtorEq] at hx <;> simp only [fz]
                  · rw [keyL _ (by simp at hs; omega) hx]
                  · rw [keyL _ (by simp at hs; omega) hx]
                  · rw [keyL _ (by simp at hs; omega) hx]
              have : ∀ c ∈ ys.flatMap (R.encL e'), fz r (xs.flatMap (R.encL e)) c = c := fun c hc => by
                obtain ⟨i, hi, rfl⟩ := List.getElem_of_mem hc
                exact key _ _ (Nat.lt_succ_self _) (hfreeL_get fr i hi)
              rw [List.map_congr_left this]; simp
            exact ⟨by rw [this], fun i h1 h2 => by simp only [this]; exact .refl _⟩
      | cells cs =>
        simp only [tfzH] at hc hj
        obtain ⟨c1, c2⟩ := Conj.app hc
        cases j with
        | succ j => exact next c2 (by simpa [embH] using hj)
        | zero =>
          simp only [embH, embO, embR, List.getElem?_cons_zero, Option.some.injEq] at hj
          subst hj
          refine ⟨fun e => ?_, embC R cs, by simp [embH, embO, embR], by rw [fzL_eq, List.length_map, embC_length, embC_length]; simp, fun i h1 h2 => ?_⟩
          · have := hnc cs (by omega)
            rw [show r - k = 0 by omega] at this
            simp at this
          · have hi : i < cs.length := by rw [embC_length] at h1; simpa using h1
            have hci := Conj.flat c1 (tfz R r e xs 3 cs[i]) (List.mem_map.2 ⟨cs[i], List.getElem_mem hi, rfl⟩)
            have := tfz_ok R hR 3 _ hci
            simp only [fzL_eq, embC_eq, List.getElem_map] at *
            exact this

/-- A row that nobody writes any more becomes plain. -/
theorem tfreeze_ok (hR : R.Ok) {N : Dim} {F : TF A} {H : TH A} {r e : Nat} {xs : List (A e)} (hm : Nat.ble N.m r = true) (hr : trow H r = some (.arr e xs)) (hcF : Conj (tfzF R r e xs F).1) (hcH : Conj (tfzH R r e xs 0 H).1) :
    Wk N (embF R (tfzF R r e xs F).2) (embH R (tfzH R r e xs 0 H).2) (embF R F) (embH R H) := by
  have hrow : (embH R H)[r]? = some (some (xs.flatMap (R.encL e))) := by
    have := row_emb R hr
    unfold row at this
    split at this
    · rename_i z hz; rw [hz]; exact congrArg some this
    · cases this
  have hrr : H[r]? = some (some (.arr e xs)) := by
    unfold trow at hr
    rw [nth_eq] at hr
    split at hr
    · rename_i z hz; rw [hz]; exact congrArg some hr
    · cases hr
  refine .trans (.weak ?_ (tfzF_ok R hR F hcF) (fun j cs' hj => ?_)) (.freeze (Nat.le_of_ble_eq_true hm) hrow (hfreeL_flat (hR.free e) xs))
  · rw [embH_length, tfzH_len, List.length_set, List.length_map, embH_length]
  · obtain ⟨h1, cs, h2, h3, h4⟩ := tfzH_ok R hR H 0 hcH (fun cs _ => by rw [Nat.sub_zero, hrr]; simp) j cs' hj
    refine ⟨_, ?_, h3, h4⟩
    rw [List.getElem?_set_ne (by omega), List.getElem?_map, h2]
    rfl

end
end Go.Lite
set_option linter.unusedVariables false
set_option linter.unusedSimpArgs false

/- Lite, part TI: code walked with typed values; contracts; calls; regions that draw their order. -/
namespace Go.Lite
open Go Go.RowKit
set_option linter.unusedVariables false

/-- What an equation of types and the registry of elements give. -/
structure Env (A : Nat → Type) (R : Reg A) (P : Program) (τ : TT) (fl : Nat → Bool) : Prop where
  ok : R.Ok
  τ : τ = ttOf P
  fl : ∀ e, fl e = true → ∀ a, psfreeL (R.encL e a) = true
  mixed : P.follows .mixedOrders = true

section
variable {A : Nat → Type} {R : Reg A} {P : Program} {N : Dim} {τ : TT} {fl : Nat → Bool}

abbrev TPost (A : Nat → Type) := Exit → TF A → TH A → Prop

def qEmb (R : Reg A) (Q : TPost A) : LPost := fun e F H => ∃ G X, Q e G X ∧ F = embF R G ∧ H = embH R X

/-- What is to be shown of a piece of code. -/
def Tw (R : Reg A) (P : Program) (N : Dim) (s : SC) (Q : TPost A) (F : TF A) (H : TH A) : Prop := Lw P N s (qEmb R Q) (embF R F) (embH R H)

/-- F', H' says no more than F, H. -/
def TWk (R : Reg A) (N : Dim) (F' : TF A) (H' : TH A) (F : TF A) (H : TH A) : Prop := Wk N (embF R F') (embH R H') (embF R F) (embH R H)

theorem TWk.canon (E : Env A R P τ fl) {σ : List (Option Nat)} {F F' : TF A} {H H' : TH A} {p : List Prop} (h : tcanon R N.m σ F' H' F H = some p) (hc : Conj p) : TWk R N F' H' F H := tcanon_ok R E.ok h hc

def tseqQ (K : TF A → TH A → Prop) (Q : TPost A) : TPost A
  | .normal, F, H => K F H
  | e, F, H => Q e F H
def tblockQ (id : Nat) (Q : TPost A) : TPost A
  | .exit id', F, H => cond (Nat.beq id' id) (Q .normal F H) (Q (.exit id') F H)
  | e, F, H => Q e F H
def tscopeQ (Q : TPost A) : TPost A
  | .goto _, _, _ => False
  | e, F, H => Q e F H

theorem Tw.mono {s : SC} {Q Q' : TPost A} {F : TF A} {H : TH A} (h : Tw R P N s Q F H) (hq : ∀ e F H, Q e F H → Q' e F H) : Tw R P N s Q' F H :=
  Lw.mono h fun e F H ⟨G, X, q, e1, e2⟩ => ⟨G, X, hq _ _ _ q, e1, e2⟩
theorem Tw.weaken {s : SC} {Q : TPost A} {F F' : TF A} {H H' : TH A} (hw : TWk R N F' H' F H) (h : Tw R P N s Q F' H') : Tw R P N s Q F H := Lw.weaken hw h
theorem TOps.weaken {l : List SO} {Q : TF A → TH A → Prop} {F F' : TF A} {H H' : TH A} (hw : TWk R N F' H' F H) (h : TOps R P N l Q F' H') : TOps R P N l Q F H := OpsW.weaken hw h

theorem Tw.skip {Q : TPost A} {F : TF A} {H : TH A} (h : Q .normal F H) : Tw R P N .skip Q F H := Lw.skip ⟨F, H, h, rfl, rfl⟩
theorem Tw.exit {id : Nat} {Q : TPost A} {F : TF A} {H : TH A} (h : Q (.exit id) F H) : Tw R P N (.exit id) Q F H := Lw.exit ⟨F, H, h, rfl, rfl⟩
theorem Tw.ret {Q : TPost A} {F : TF A} {H : TH A} (h : Q .ret F H) : Tw R P N .ret Q F H := Lw.ret ⟨F, H, h, rfl, rfl⟩

theorem Tw.seq {x y : SC} {Q : TPost A} {F : TF A} {H : TH A} (h : Tw R P N x (tseqQ (fun F H => Tw R P N y Q F H) Q) F H) : Tw R P N (.seq x y) Q F H := by
  refine Lw.seq (Lw.mono h fun e F H ⟨G, X, q, e1, e2⟩ => ?_)
  cases e with
  | normal => subst e1; subst e2; exact q
  | _ => exact ⟨G, X, q, e1, e2⟩

theorem Tw.block {id : Nat} {x : SC} {Q : TPost A} {F : TF A} {H : TH A} (h : Tw R P N x (tblockQ id Q) F H) : Tw R P N (.block id x) Q F H := by
  refine Lw.block (Lw.mono h fun e F H ⟨G, X, q, e1, e2⟩ => ?_)
  cases e with
  | exit id' =>
    simp only [tblockQ] at q
    simp only [blockQ]
    cases hb : Nat.beq id' id with
    | true => rw [hb] at q; rw [if_pos (Nat.eq_of_beq_eq_true hb)]; exact ⟨G, X, q, e1, e2⟩
    | false => rw [hb] at q; rw [if_neg (beq_ne hb)]; exact ⟨G, X, q, e1, e2⟩
  | _ => exact ⟨G, X, q, e1, e2⟩

theorem Tw.scope {x : SC} {Q : TPost A} {F : TF A} {H : TH A} (h : Tw R P N x (tscopeQ Q) F H) : Tw R P N (.scope x) Q F H := by
  refine Lw.scope (Lw.mono h fun e F H ⟨G, X, q, e1, e2⟩ => ?_)
  cases e <;> first | exact q.elim | exact ⟨G, X, q, e1, e2⟩

theorem Tw.cond {c : Operand} {x y : SC} {t : Bool} {Q : TPost A} {F : TF A} {H : TH A} (hc : tO F c = .bool t) (h1 : t = true → Tw R P N x Q F H) (h2 : t = false → Tw R P N y Q F H) : Tw R P N (.cond c x y) Q F H :=
  Lw.cond (by rw [evalO_emb R, hc]; rfl) h1 h2

theorem Tw.reg {l : List SO} {Q : TPost A} {F : TF A} {H : TH A} (h : TOps R P N l (fun F H => Q .normal F H) F H) : Tw R P N (.reg l) Q F H := Lw.ops h

/-- A piece, then what is known behind it, then the rest. -/
theorem Tw.cut {x y : SC} {Q : TPost A} {F : TF A} {H : TH A} {α : Sort _} (I : α → Prop) (Fi : α → TF A) (Hi : α → TH A) (h : Tw R P N x (tseqQ (fun F H => ∃ i, I i ∧ TWk R N (Fi i) (Hi i) F H) Q) F H)
    (k : ∀ i, I i → Tw R P N y Q (Fi i) (Hi i)) : Tw R P N (.seq x y) Q F H := by
  refine .seq (h.mono fun e F' H' hq => ?_)
  cases e with
  | normal =>
    obtain ⟨i, hi, hw⟩ := hq
    exact (k i hi).weaken hw
  | _ => exact hq

/-- A loop: at the head of each round the state is one of a family of states; each round that goes on lowers the number. -/
theorem Tw.loop {x : SC} {Q : TPost A} {F : TF A} {H : TH A} {α : Sort _} (I : α → Prop) (m : α → Nat) (Fi : α → TF A) (Hi : α → TH A) (h0 : ∃ i, I i ∧ TWk R N (Fi i) (Hi i) F H)
    (round : ∀ i, I i → Tw R P N x (tseqQ (fun F' H' => ∃ j, I j ∧ m j < m i ∧ TWk R N (Fi j) (Hi j) F' H') Q) (Fi i) (Hi i)) : Tw R P N (.loop x) Q F H := by
  refine Lw.loop I m (fun i => embF R (Fi i)) (fun i => embH R (Hi i)) h0 fun i hi => Lw.mono (round i hi) fun e F' H' ⟨G, X, q, e1, e2⟩ => ?_
  cases e with
  | normal =>
    subst e1; subst e2
    exact q
  | _ => exact ⟨G, X, q, e1, e2⟩

/-- The slots that are kept. -/
def keepF (F : TF A) : List Nat → TF A
  | [] => []
  | t :: r => (t, tget F t) :: keepF F r

/-- The same, the slots in kp as they are. -/
theorem Tw.loopK {x : SC} {Q : TPost A} {F : TF A} {H : TH A} {α : Sort _} (kp : List Nat) (I : α → Prop) (m : α → Nat) (G : α → TF A) (Hi : α → TH A) (h0 : ∃ i, I i ∧ TWk R N (G i ++ keepF F kp) (Hi i) F H)
    (round : ∀ i, I i → Tw R P N x (tseqQ (fun F' H' => ∃ j, I j ∧ m j < m i ∧ TWk R N (G j ++ keepF F kp) (Hi j) F' H') Q) (G i ++ keepF F kp) (Hi i)) : Tw R P N (.loop x) Q F H :=
  .loop I m _ Hi h0 round
theorem Tw.cutK {x y : SC} {Q : TPost A} {F : TF A} {H : TH A} {α : Sort _} (kp : List Nat) (I : α → Prop) (G : α → TF A) (Hi : α → TH A) (h : Tw R P N x (tseqQ (fun F' H' => ∃ i, I i ∧ TWk R N (G i ++ keepF F kp) (Hi i) F' H') Q) F H)
    (k : ∀ i, I i → Tw R P N y Q (G i ++ keepF F kp) (Hi i)) : Tw R P N (.seq x y) Q F H :=
  .cut I _ Hi h k

theorem TWk.freeze (E : Env A R P τ fl) {F : TF A} {H : TH A} (r : Nat) {e : Nat} {xs : List (A e)} (hm : Nat.ble N.m r = true) (hr : trow H r = some (.arr e xs)) {p q : List Prop} {F' : TF A} {H' : TH A} (hF : tfzF R r e xs F = (p, F')) (hH : tfzH R r e xs 0 H = (q, H'))
    (hcF : Conj p) (hcH : Conj q) : TWk R N F' H' F H := by
  have := tfreeze_ok R E.ok (F := F) (N := N) hm hr (by rw [hF]; exact hcF) (by rw [hH]; exact hcH)
  rw [hF, hH] at this
  exact this

/-! ### Contracts -/
def TC (R : Reg A) (P : Program) (f : Nat) (args : List (TV A)) (H : TH A) (Q : TV A → TH A → Prop) : Prop :=
  LC P f (embC R args) (embH R H) fun x G => ∃ v X, Q v X ∧ x = emb R v ∧ G = embH R X

theorem TC.mono {f : Nat} {args : List (TV A)} {H : TH A} {Q Q' : TV A → TH A → Prop} (h : TC R P f args H Q) (hq : ∀ v X, Q v X → Q' v X) : TC R P f args H Q' :=
  LC.mono h fun x G ⟨v, X, q, e⟩ => ⟨v, X, hq _ _ q, e⟩

def tframe : Nat → List (TV A) → TF A
  | _, [] => []
  | k, x :: r => (k, x) :: tframe (k + 1) r
theorem tframe_emb : ∀ (l : List (TV A)) (k : Nat), embF R (tframe k l) = frameOf k (embC R l) := by
  intro l
  induction l with
  | nil => intro k; rfl
  | cons x r ih => intro k; simp only [tframe, embF, embC, frameOf, ih]

def tresL (R : Reg A) (τ : TT) (F : TF A) (H : TH A) : List ResultVar → Option (List (TV A))
  | [] => some []
  | .tmp t :: r => (match tresL R τ F H r with | some l => some (tget F t :: l) | none => none)
  | .cell a t :: r => (match τ t, tget F a with
    | some ti, .ptr h o => (match trow H h with
      | some (.cells cs) => (match tpart ti.agg ti.size cs o, tresL R τ F H r with | some x, some l => some (x :: l) | _, _ => none)
      | _ => none)
    | _, _ => none)

theorem tresL_ok {F : TF A} {H : TH A} : ∀ (l : List ResultVar) (vs : List (TV A)), tresL R τ F H l = some vs → lresL τ (embF R F) (embH R H) l = some (embC R vs) := by
  intro l
  induction l with
  | nil => intro vs h; obtain rfl := Option.some.inj h; rfl
  | cons r l ih =>
    intro vs h
    cases r with
    | tmp t =>
      simp only [tresL] at h
      split at h
      · rename_i l' hl
        obtain rfl := Option.some.inj h
        simp only [lresL, ih _ hl, Option.map_some, embC, fget_embF]
      · cases h
    | cell a t =>
      simp only [tresL] at h
      split at h
      · rename_i ti k o h1 h2
        split at h
        · rename_i cs hr
          split at h
          · rename_i x l' hx hl
            obtain rfl := Option.some.inj h
            simp only [lresL, h1, fget_embF, h2, emb, row_emb R hr, embR, tpart_emb R hx, ih _ hl, embC]
          · cases h
        · cases h
      · cases h

/-- A function's value. -/
def tres (R : Reg A) (τ : TT) (rs : List ResultVar) (F : TF A) (H : TH A) : Option (TV A) :=
  match tresL R τ F H rs with
  | some [x] => some x
  | some l => some (.tup l)
  | none => none

theorem tres_ok {rs : List ResultVar} {F : TF A} {H : TH A} {v : TV A} (h : tres R τ rs F H = some v) : resS τ rs (embF R F) (embH R H) = some (emb R v) := by
  unfold tres at h
  unfold resS
  split at h
  · rename_i x hx
    obtain rfl := Option.some.inj h
    rw [tresL_ok _ _ hx]; rfl
  · rename_i l hne hl
    obtain rfl := Option.some.inj h
    rw [tresL_ok _ _ hl]
    cases l with
    | nil => rfl
    | cons a r =>
      cases r with
      | nil => exact absurd rfl (hne a)
      | cons b r => rfl
  · cases h

def tret (R : Reg A) (τ : TT) (rs : List ResultVar) (Q : TV A → TH A → Prop) : TPost A
  | .normal, F, H => ∃ v, tres R τ rs F H = some v ∧ Q v H
  | .ret, F, H => ∃ v, tres R τ rs F H = some v ∧ Q v H
  | _, _, _ => False

theorem tc (E : Env A R P τ fl) {f : Nat} {sf : SF} {args : List (TV A)} {H : TH A} {Q : TV A → TH A → Prop} (h : slimF P f = some sf) (ha : Nat.ble args.length sf.n = true)
    (hw : Tw R P ⟨sf.n, H.length, false, none⟩ sf.code (tret R τ sf.rs Q) (tframe 0 args) H) : TC R P f args H Q := by
  refine lc h (by rw [embC_length]; exact Nat.le_of_ble_eq_true ha) ?_
  rw [embH_length, ← tframe_emb]
  refine Lw.mono hw fun e F G ⟨F', G', q, e1, e2⟩ => ?_
  have key : (∃ v, tres R τ sf.rs F' G' = some v ∧ Q v G') → ocase (resS (ttOf P) sf.rs F G) fun x => ∃ v X, Q v X ∧ x = emb R v ∧ G = embH R X := by
    intro ⟨v, hv, hq⟩
    have := tres_ok hv
    rw [E.τ] at this
    subst e1; subst e2
    rw [this]
    exact ⟨v, G', hq, rfl, rfl⟩
  cases e with
  | normal => exact key q
  | ret => exact key q
  | _ => exact q

/-! ### Calls -/
def fv {β : Type} (v : TV A) (k : TV A → Option β) : Option β := match v with
  | .dead => k .dead
  | .und => k .und
  | .bool b => k (.bool b)
  | .int kd n => k (.int kd n)
  | .str s => k (.str s)
  | .nilp => k .nilp
  | .nils => k .nils
  | .nilf => k .nilf
  | .yld l => k (.yld l)
  | .ptr h o => k (.ptr h o)
  | .ptrE sz h i o => k (.ptrE sz h i o)
  | .pel cs => k (.pel cs)
  | .sl sz h o n => k (.sl sz h o n)
  | .sla sz h o n => k (.sla sz h o n)
  | .lst e xs => k (.lst e xs)
  | .fn f cs => k (.fn f cs)
  | .agg cs => k (.agg cs)
  | .tup cs => k (.tup cs)
  | .opt g w => k (.opt g w)
theorem fv_eq {β : Type} (v : TV A) (k : TV A → Option β) : fv v k = k v := by cases v <;> rfl

def vals {β : Type} (F : TF A) : List Operand → (List (TV A) → Option β) → Option β
  | [], k => k []
  | o :: r, k => fv (tO F o) fun v => vals F r fun vs => k (v :: vs)
theorem vals_eq {β : Type} (F : TF A) : ∀ (l : List Operand) (k : List (TV A) → Option β), vals F l k = k (l.map (tO F)) := by
  intro l
  induction l with
  | nil => intro k; rfl
  | cons o r ih => intro k; simp only [vals, fv_eq, ih, List.map_cons]

/-- The guard says yes. -/
def tgate (F : TF A) : Option (Nat × Bool) → Bool
  | none => true
  | some (t, want) => match tget F t with
    | .bool b => cond want b (!b)
    | .opt g (.bool b) => g && cond want b (!b)
    | _ => false
theorem tgate_ok {F : TF A} {g : Option (Nat × Bool)} (h : tgate F g = true) : wantS g (embF R F) = some true := by
  rcases g with _ | ⟨t, want⟩
  · rfl
  · simp only [tgate] at h
    simp only [wantS, fget_embF]
    split at h
    · rename_i b e; rw [e]; simp only [emb]; cases b <;> cases want <;> first | rfl | cases h
    · rename_i g0 b e; rw [e]; simp only [emb]; cases g0 <;> cases b <;> cases want <;> first | rfl | cases h
    · cases h

def tcallD (F : TF A) (s : SO) : Option (Nat × List (TV A)) :=
  match s.op with
  | .call ⟨.value g, args, _⟩ => (match tO F g with
    | .fn f cap => vals F args.toList fun as => (match cap with | [] => some (f, as) | c :: r => cond (undT c) none (some (f, as ++ c :: r)))
    | _ => none)
  | _ => none

theorem tcallD_ok {F : TF A} {s : SO} {f : Nat} {as : List (TV A)} (h : tcallD F s = some (f, as)) :
    ∃ g args tys cap, s.op = .call ⟨.value g, args, tys⟩ ∧ evalO (embF R F) g = .fn f cap ∧ isUnd cap = false ∧ args.toList.map (evalO (embF R F)) ++ cap = embC R as := by
  unfold tcallD at h
  split at h
  · rename_i g args tys hop
    split at h
    · rename_i f' cap hg
      rw [vals_eq] at h
      have hu : isUnd (embC R cap) = false ∧ some (f', args.toList.map (tO F) ++ cap) = some (f, as) := by
        cases cap with
        | nil => exact ⟨rfl, by rw [← h]; simp⟩
        | cons c r =>
          dsimp only at h
          cases hc : undT c with
          | true => rw [hc] at h; cases h
          | false => rw [hc] at h; exact ⟨undT_emb hc, h⟩
      obtain ⟨hu, this⟩ := hu
      simp only [Option.some.injEq, Prod.mk.injEq] at this
      obtain ⟨rfl, rfl⟩ := this
      exact ⟨g, args, tys, embC R cap, hop, by rw [evalO_emb, hg]; rfl, hu, by rw [embL_eq, embC_append]⟩
    · cases h
  · cases h

/-- .. where a function value may have its first arguments. -/
def tcall (F : TF A) (s : SO) : Option (Nat × List (TV A)) :=
  match s.op with
  | .call ⟨.value g, args, _⟩ => (match tO F g with
    | .fn f cap => vals F args.toList fun as => (match cap with | [] => some (f, as) | .und :: r => some (f, r ++ as) | c :: r => cond (undT c) none (some (f, as ++ c :: r)))
    | _ => none)
  | _ => none
theorem tcall_ok {F : TF A} {s : SO} {f : Nat} {as : List (TV A)} (h : tcall F s = some (f, as)) :
    ∃ g args tys cap, s.op = .call ⟨.value g, args, tys⟩ ∧ evalO (embF R F) g = .fn f cap ∧ callArgs cap (args.toList.map (evalO (embF R F))) = embC R as := by
  unfold tcall at h
  split at h
  · rename_i g args tys hop
    split at h
    · rename_i f' cap hg
      rw [vals_eq] at h
      cases cap with
      | nil =>
        simp only [Option.some.injEq, Prod.mk.injEq] at h
        obtain ⟨rfl, rfl⟩ := h
        exact ⟨g, args, tys, [], hop, by rw [evalO_emb, hg]; rfl, by rw [callArgs_off rfl, embL_eq, List.append_nil]⟩
      | cons c r =>
        by_cases hc0 : c = .und
        · subst hc0
          simp only [Option.some.injEq, Prod.mk.injEq] at h
          obtain ⟨rfl, rfl⟩ := h
          exact ⟨g, args, tys, embC R (.und :: r), hop, by rw [evalO_emb, hg]; rfl, by rw [callArgs_on rfl, embL_eq, embC_append]; rfl⟩
        · have h2 : cond (undT c) none (some (f', args.toList.map (tO F) ++ c :: r)) = some (f, as) := by
            cases c <;> first | exact h | exact absurd rfl hc0
          cases hc : undT c with
          | true => rw [hc] at h2; cases h2
          | false =>
            rw [hc] at h2
            simp only [cond_false, Option.some.injEq, Prod.mk.injEq] at h2
            obtain ⟨rfl, rfl⟩ := h2
            exact ⟨g, args, tys, embC R (c :: r), hop, by rw [evalO_emb, hg]; rfl, by rw [callArgs_off (undT_emb hc), embL_eq, embC_append]⟩
    · cases h
  · cases h

theorem TOps.callK {s : SO} {r : List SO} {Q : TF A → TH A → Prop} {F : TF A} {H : TH A} {f : Nat} {as : List (TV A)} (hg : tgate F s.g = true) (hs : tcall F s = some (f, as))
    (h : callK P f (embC R as) (embH R H) fun x G => ∃ v X, x = emb R v ∧ G = embH R X ∧ TOps R P N r Q (tlput s.dst v F) X) : TOps R P N (s :: r) Q F H := by
  obtain ⟨g, args, tys, cap, hop, hgv, ha⟩ := tcall_ok (R := R) hs
  refine OpsW.step (tgate_ok hg) ?_
  have h1 : pureOp (ttOf P) (embF R F) s.op = none := by rw [hop]; rfl
  have h2 : loadOp (ttOf P) (embF R F) (embH R H) s.op = none := by rw [hop]; rfl
  have h3 : effN (ttOf P) (embF R F) (embH R H) s.op = none := by rw [hop]; rfl
  unfold stepOp
  rw [h1, h2, h3]
  simp only [hop, hgv, ha]
  refine h.mono fun x G ⟨v, X, e1, e2, k⟩ => ?_
  subst e1; subst e2
  unfold TOps at k
  rw [tlput_emb] at k
  exact k

/-- A call whose arguments hold no rows. -/
theorem TOps.call (E : Env A R P τ fl) {s : SO} {r : List SO} {Q : TF A → TH A → Prop} {F : TF A} {H : TH A} {f : Nat} {as : List (TV A)} {Q' : TV A → TH A → Prop} (hg : tgate F s.g = true) (hs : tcall F s = some (f, as)) (hf : thfreeL as = true)
    (hc : TC R P f as [] Q') (k : ∀ v X, Q' v X → TOps R P N r Q (tlput s.dst (tren (H.length + ·) v) F) (H ++ trenH (H.length + ·) X)) : TOps R P N (s :: r) Q F H := by
  refine .callK hg hs (.bare (thfreeL_emb R _ hf) (LC.mono hc fun x G ⟨v, X, q, e1, e2⟩ => ?_))
  subst e1; subst e2
  exact ⟨_, _, by rw [tren_emb, embH_length], by rw [embH_append, trenH_emb R E.ok, embH_length], k v X q⟩

/-- A call that is shown the rows as plain values. -/
theorem TOps.callS (E : Env A R P τ fl) {s : SO} {r : List SO} {Q : TF A → TH A → Prop} {F : TF A} {H : TH A} {f : Nat} {as as0 : List (TV A)} {p : List Prop} {Q' : TV A → TH A → Prop} (hg : tgate F s.g = true) (hs : tcall F s = some (f, as))
    (ha : ((as.map (tsnap R H 3)).flatMap (·.1), (as.map (tsnap R H 3)).map (·.2)) = (p, as0)) (hp : Conj p) (hc : TC R P f as0 [] Q')
    (k : ∀ v X, Q' v X → tpfree v = true ∧ tpfreeH fl X = true ∧ TOps R P N r Q (tlput s.dst (tren (H.length + ·) v) F) (H ++ trenH (H.length + ·) X)) : TOps R P N (s :: r) Q F H := by
  obtain ⟨rfl, rfl⟩ := Prod.mk.inj ha
  refine .callK hg hs (.snap (LC.mono (LC.args ?_ ?_ hc) fun x G ⟨v, X, q, e1, e2⟩ => ?_))
  · simp [embC_length]
  · intro i h1 h2
    have hi : i < as.length := by rw [embC_length] at h1; simpa using h1
    have := tsnap_ok R E.ok H 3 as[i] (Conj.flat hp _ (List.mem_map.2 ⟨as[i], List.getElem_mem hi, rfl⟩))
    simpa [embC_eq] using this
  · subst e1; subst e2
    obtain ⟨k1, k2, k3⟩ := k v X q
    exact ⟨tpfree_emb R v k1, tpfreeH_emb R E.fl X k2, _, _, by rw [tren_emb, embH_length], by rw [embH_append, trenH_emb R E.ok, embH_length], k3⟩

def tsetRows : TH A → List Nat → TH A → TH A
  | H, [], _ => H
  | H, h :: r, x :: xs => tsetRows (H.set h x) r xs
  | H, h :: r, [] => tsetRows (H.set h none) r []
theorem tsetRows_emb : ∀ (ρ : List Nat) (H X : TH A), embH R (tsetRows H ρ X) = setRows (embH R H) ρ (embH R X) := by
  intro ρ
  induction ρ with
  | nil => intro H X; rfl
  | cons h r ih => intro H X; cases X <;> simp only [tsetRows, embH, setRows] <;> rw [ih, embH_set] <;> rfl

def nodupB : List Nat → Bool
  | [] => true
  | x :: r => !(r.contains x) && nodupB r
theorem nodupB_ok : ∀ {l : List Nat}, nodupB l = true → l.Nodup := by
  intro l
  induction l with
  | nil => intro _; exact List.nodup_nil
  | cons x r ih =>
    intro h
    simp only [nodupB, Bool.and_eq_true, Bool.not_eq_true'] at h
    exact List.nodup_cons.2 ⟨by simpa using h.1, ih h.2⟩

/-- Rows are handed over: number j of the callee's is number ρ j of the caller's. -/
theorem TOps.callH (E : Env A R P τ fl) {s : SO} {r : List SO} {Q : TF A → TH A → Prop} {F : TF A} {H : TH A} {f : Nat} {as : List (TV A)} {Q' : TV A → TH A → Prop} (ρ : List Nat) (as0 : List (TV A)) (H0 : TH A) (hg : tgate F s.g = true) (hs : tcall F s = some (f, as))
    (hn : nodupB ρ = true) (hlt : ρ.all (Nat.blt · H.length) = true) (hlen : H0.length = ρ.length) (ha : trenL (gOf ρ H.length) as0 = as)
    (hrows : ∀ (j h : Nat) (x : TRow A), ρ[j]? = some h → H0[j]? = some (some x) → H[h]? = some (trenR (gOf ρ H.length) (some x)))
    (hc : TC R P f as0 H0 Q') (k : ∀ v X, Q' v X → TOps R P N r Q (tlput s.dst (tren (gOf ρ H.length) v) F) (tsetRows H ρ (trenH (gOf ρ H.length) (X.take ρ.length)) ++ trenH (gOf ρ H.length) (X.drop ρ.length))) : TOps R P N (s :: r) Q F H := by
  subst ha
  refine .callK hg hs ?_
  rw [trenL_emb, renL_eq, ← embH_length R H]
  have hg2 : H.length = (embH R H).length := (embH_length R H).symm
  refine .hand ρ (nodupB_ok hn) (fun h hh => ?_) (by rw [embH_length]; exact hlen) (fun j h cs hj hcs => ?_) (LC.mono hc fun x G ⟨v, X, q, e1, e2⟩ => ?_)
  · have := List.all_eq_true.1 hlt h hh
    rw [embH_length]; simpa using this
  · rw [embH_get] at hcs ⊢
    cases hx : H0[j]? with
    | none => rw [hx] at hcs; cases hcs
    | some x =>
      rw [hx] at hcs
      cases x with
      | none => cases hcs
      | some x =>
        obtain rfl := Option.some.inj (Option.some.inj hcs)
        rw [hrows j h x hj hx, Option.map_some, trenR_emb R E.ok, embH_length]
        rfl
  · subst e1; subst e2
    refine ⟨_, _, by rw [tren_emb, embH_length], ?_, k v X q⟩
    have tk : ∀ (n : Nat) (X : TH A), embH R (X.take n) = (embH R X).take n := by
      intro n
      induction n with
      | zero => intro X; rfl
      | succ n ih => intro X; cases X with | nil => rfl | cons x X => simp [embH, ih]
    have dr : ∀ (n : Nat) (X : TH A), embH R (X.drop n) = (embH R X).drop n := by
      intro n
      induction n with
      | zero => intro X; rfl
      | succ n ih => intro X; cases X with | nil => rfl | cons x X => simp [embH, ih]
    rw [embH_append, tsetRows_emb, trenH_emb R E.ok, trenH_emb R E.ok, tk, dr, embH_length]

def tgateN (F : TF A) : Option (Nat × Bool) → Bool
  | none => false
  | some (t, want) => match tget F t with
    | .bool b => !(cond want b (!b))
    | .opt g (.bool b) => !(g && cond want b (!b))
    | .und => true
    | _ => false
theorem tgateN_ok {F : TF A} {g : Option (Nat × Bool)} (h : tgateN F g = true) : wantS g (embF R F) = some false := by
  rcases g with _ | ⟨t, want⟩
  · cases h
  · simp only [tgateN] at h
    simp only [wantS, fget_embF]
    split at h
    · rename_i b e; rw [e]; simp only [emb]; cases b <;> cases want <;> first | rfl | cases h
    · rename_i g0 b e; rw [e]; simp only [emb]; cases g0 <;> cases b <;> cases want <;> first | rfl | cases h
    · rename_i e; rw [e]; rfl
    · cases h

/-- An operation that does not come up. -/
theorem TOps.skip {s : SO} {r : List SO} {Q : TF A → TH A → Prop} {F : TF A} {H : TH A} (hg : tgateN F s.g = true) (k : TOps R P N r Q (tlput s.dst .und F) H) : TOps R P N (s :: r) Q F H := by
  refine OpsW.skip (tgateN_ok hg) ?_
  unfold TOps at k
  rw [tlput_emb] at k
  exact k

end
end Go.Lite

/- Lite, part TJ: regions that draw their order, on typed values. -/
namespace Go.Lite
open Go Go.RowKit
set_option linter.unusedVariables false

section
variable {P : Program} {F : Fr} {H : Hp} {s : SO}

theorem SFact.more {c c' : DA} (h : SFact P s F H c) (hd : c'.d = c.d) (hx : c'.x = c.x) (hw : c'.ws = c.ws) (hn : c'.nw = c.nw) (hl : ∀ t ∈ c.ls, t ∈ c'.ls) (hr : ∀ r ∈ c.rs, r ∈ c'.rs) : SFact P s F H c' := by
  obtain ⟨h1, h2⟩ := h
  refine ⟨by rw [hd, h1], fun ops o e1 e2 e3 cx N ι per G X a w hst hls hrs hnw K Q hK => ?_⟩
  refine h2 ops o e1 e2 e3 cx N ι per G X a w hst (fun t ht => hls t (hl t ht)) (fun r hr' => hrs r (hr r hr')) (by rw [← hn]; exact hnw) K Q ?_
  intro ι' per' v w' hs hv hi
  exact hK ι' per' v w' (by rw [hw]; exact hs) (by rw [hx]; exact hv) (by rw [hn]; exact hi)
end

section
variable {A : Nat → Type} (R : Reg A)

def rowsT : TV A → List Nat
  | .ptr h _ => [h]
  | .ptrE _ h _ _ => [h]
  | .sl _ h _ _ => [h]
  | .sla _ h _ _ => [h]
  | .opt _ v => rowsT v
  | _ => []

theorem rowsT_emb : ∀ (v : TV A), ∀ r ∈ rowsIn (emb R v), r ∈ rowsT v
  | .opt g v, r, h => by
    simp only [emb] at h
    cases g with
    | true => exact rowsT_emb v r h
    | false => simp [rowsIn] at h
  | .ptr _ _, r, h => h
  | .ptrE _ _ _ _, r, h => h
  | .sl _ _ _ _, r, h => h
  | .sla _ _ _ _, r, h => h
  | .dead, r, h => by simp [emb, rowsIn] at h
  | .und, r, h => by simp [emb, rowsIn] at h
  | .bool _, r, h => by simp [emb, rowsIn] at h
  | .int _ _, r, h => by simp [emb, rowsIn] at h
  | .str _, r, h => by simp [emb, rowsIn] at h
  | .nilp, r, h => by simp [emb, rowsIn] at h
  | .nils, r, h => by simp [emb, rowsIn] at h
  | .nilf, r, h => by simp [emb, rowsIn] at h
  | .yld _, r, h => by simp [emb, rowsIn] at h
  | .pel _, r, h => by simp [emb, rowsIn] at h
  | .lst _ _, r, h => by simp [emb, rowsIn] at h
  | .fn _ _, r, h => by simp [emb, rowsIn] at h
  | .agg _, r, h => by simp [emb, rowsIn] at h
  | .tup _, r, h => by simp [emb, rowsIn] at h

def isEff : Op → Bool
  | .store _ _ _ | .alloc _ | .box _ _ | .buildSlice _ _ _ | .makeSlice _ _ _ | .call ⟨.builtin .append, _, _⟩ | .call ⟨.builtin .copy, _, _⟩ | .call ⟨.builtin .clear, _, _⟩ => true
  | _ => false

def tslice (F : TF A) : Op → List Nat
  | .slice _ x _ _ none => (match tO F x with | .sla _ _ _ _ => [] | .sl _ _ _ _ => [] | .lst _ _ => [] | .nils => [] | .str _ => [] | y => rowsT y)
  | _ => []
theorem tslice_emb (F : TF A) (op : Op) : ∀ r ∈ sliceRows (embF R F) op, r ∈ tslice F op := by
  intro r hr
  cases op with
  | slice t x lo hi mx =>
    cases mx with
    | some m => simp [sliceRows] at hr
    | none =>
      simp only [sliceRows, evalO_emb] at hr
      have key : r ∈ rowsIn (emb R (tO F x)) := by
        split at hr
        · rename_i h o e
          rw [e]; simpa [rowsIn] using hr
        · simp at hr
      have := rowsT_emb R _ r key
      simp only [tslice]
      split
      all_goals first | (rename_i e; rw [e] at hr; simp [emb] at hr; done) | exact this
  | _ => simp [sliceRows] at hr
/-- The rows that an operation looks at. -/
def tlook (F : TF A) (op : Op) : List Nat := cond (isLoad op || isEff op) ((op.operands.toList.map (tO F)).flatMap rowsT) (tslice F op)

theorem tlook_emb (F : TF A) (op : Op) (h : (isLoad op || isEff op) = true) : ∀ r ∈ lookRows (embF R F) op, r ∈ tlook F op := by
  intro r hr
  unfold tlook
  rw [h]
  simp only [lookRows, List.mem_flatMap, List.mem_map, cond_true] at hr ⊢
  obtain ⟨x, ⟨o, ho, rfl⟩, hx⟩ := hr
  rw [evalO_emb] at hx
  exact ⟨_, ⟨o, ho, rfl⟩, rowsT_emb R _ r hx⟩

/-- What an operation did. -/
def tcert (F : TF A) (H : TH A) (s : SO) (x : TV A) (ws : List (Nat × Option (TRow A))) : DA :=
  ⟨s.dst, emb R x, embW R ws, guardSlot s.g ++ slotsOf s.op, tlook F s.op, cond (Nat.beq ws.length 0) [] (cond (makes s.op) [H.length] [])⟩
def tnew (s : SO) (ws : List (Nat × Option (TRow A))) : Nat := cond (Nat.beq ws.length 0) 0 (cond (makes s.op) 1 0)

theorem eff_is {τ : TT} {F : Fr} {H : Hp} {n : Nat} {op : Op} {r : LV × List (Nat × Option (List LV))} (h : effOp τ F H n op = some r) : isEff op = true ∧ r.2.length ≠ 0 := by
  cases op with
  | call c =>
    obtain ⟨callee, args, tys⟩ := c
    cases callee with
    | builtin b =>
      cases b <;> first
        | cases h
        | (refine ⟨rfl, ?_⟩; simp only [effOp] at h; (repeat' split at h) <;> simp only [Option.some.injEq, reduceCtorEq] at h <;> subst h <;> simp)
    | _ => cases h
  | _ =>
    first
      | cases h
      | (refine ⟨rfl, ?_⟩; simp only [effOp] at h; (repeat' split at h) <;> simp only [Option.some.injEq, reduceCtorEq] at h <;> subst h <;> simp)

theorem embW_length (ws : List (Nat × Option (TRow A))) : (embW R ws).length = ws.length := by
  induction ws with
  | nil => rfl
  | cons p r ih => obtain ⟨h, x⟩ := p; simp [embW, ih]

theorem tcert_ok {P : Program} {s : SO} {F : TF A} {H : TH A} {x : TV A} {ws : List (Nat × Option (TRow A))} (h : OneOk R (ttOf P) s F H x ws) : SFact P s (embF R F) (embH R H) (tcert R F H s x ws) := by
  rcases h with ⟨rfl, ⟨hw, hv⟩ | ⟨hw, hv⟩⟩ | ⟨hw, hg, hv⟩
  · refine (SFact.val hw hv).more rfl rfl rfl rfl (fun t ht => ht) (fun r hr => ?_)
    simp only [valRows] at hr
    split at hr
    · rename_i hl
      exact tlook_emb R F s.op (by rw [hl]; rfl) r hr
    · rename_i hl
      have := tslice_emb R F s.op r hr
      cases hop : s.op <;> rw [hop] at this <;> first | (simp [tslice] at this; done) | skip
      show r ∈ tlook F s.op
      rw [hop]
      simpa [tlook, isLoad, isEff] using this
  · refine (SFact.skip hw).more rfl hv rfl rfl (fun t ht => ?_) (fun r hr => ?_)
    · simp only [tcert, List.mem_append]; exact .inl ht
    · simp at hr
  · obtain ⟨k1, k2⟩ := eff_is hv
    rw [embW_length] at k2
    rw [← embH_length R H] at hv
    refine (SFact.eff hw hv).more rfl rfl rfl ?_ (fun t ht => ht) (fun r hr => tlook_emb R F s.op (by rw [k1]; simp) r hr)
    simp only [tcert]
    have : Nat.beq ws.length 0 = false := by
      cases hb : Nat.beq ws.length 0 with
      | false => rfl
      | true => exact absurd (Nat.eq_of_beq_eq_true hb) k2
    rw [this, embH_length]
    cases makes s.op <;> simp

end

section
variable {A : Nat → Type} {R : Reg A} {P : Program} {N : Dim} {τ : TT} {fl : Nat → Bool}

/-- The rest of a region that draws its order: what it does, and what is to be shown behind it. -/
def TDr (R : Reg A) (P : Program) (l : List SO) (F : TF A) (H : TH A) (K : List DA → TF A → TH A → Prop) : Prop :=
  ∃ cs F' H', Chain P l (embF R F) (embH R H) cs (embF R F') (embH R H') ∧ K cs F' H'

theorem TDr.nil {F : TF A} {H : TH A} {K : List DA → TF A → TH A → Prop} (h : K [] F H) : TDr R P [] F H K := ⟨[], F, H, .nil, h⟩

theorem embH_nones (n : Nat) : embH R (List.replicate n none) = List.replicate n none := by
  induction n with
  | zero => rfl
  | succ n ih => simp [List.replicate_succ, embH, embO, ih]

theorem keys_embW : ∀ (ws : List (Nat × Option (TRow A))), (embW R ws).map (·.1) = ws.map (·.1) := by
  intro ws
  induction ws with
  | nil => rfl
  | cons p r ih => obtain ⟨h, x⟩ := p; simp [embW, ih]

theorem TDr.cons {s : SO} {r : List SO} {F : TF A} {H : TH A} {K : List DA → TF A → TH A → Prop} {x : TV A} {ws : List (Nat × Option (TRow A))} {c : DA} {e : Nat} (hf : SFact P s (embF R F) (embH R H) c) (hx : c.x = emb R x) (hws : c.ws = embW R ws)
    (hr : c.rs.all (Nat.blt · H.length) = true) (hk : (ws.map (·.1)).all (Nat.blt · (H.length + e)) = true) (hn : ∀ x ∈ c.nw, H.length ≤ x ∧ x < H.length + e)
    (k : TDr R P r (tlput s.dst x F) (tapply (H ++ List.replicate e none) ws) (fun cs => K (c :: cs))) : TDr R P (s :: r) F H K := by
  obtain ⟨cs, F', H', h1, h2⟩ := k
  refine ⟨c :: cs, F', H', .cons e hf (fun y hy => ?_) (fun y hy => ?_) (fun y hy => by rw [embH_length]; exact hn y hy) ?_, h2⟩
  · have := List.all_eq_true.1 hr y hy
    rw [embH_length]; simpa using this
  · unfold DA.keys at hy
    rw [hws, keys_embW] at hy
    have := List.all_eq_true.1 hk y hy
    rw [embH_length]; simpa using this
  · rw [tlput_emb, tapply_emb, embH_append, embH_nones] at h1
    rw [hx, hws]; exact h1

/-- The operations up to the first call. -/
def tdrun (R : Reg A) (τ : TT) : List SO → TF A → TH A → List Prop → List DA → Option (List Prop × List DA × List SO × TF A × TH A)
  | [], F, H, acc, cs => some (acc, cs, [], F, H)
  | s :: r, F, H, acc, cs => match tone R τ s F H with
    | some (p, x, ws) => cond ((tlook F s.op).all (Nat.blt · H.length) && (ws.map (·.1)).all (Nat.blt · (H.length + tnew s ws)))
        (tdrun R τ r (tlput s.dst x F) (tapply (H ++ List.replicate (tnew s ws) none) ws) (acc ++ p) (cs ++ [tcert R F H s x ws])) none
    | none => some (acc, cs, s :: r, F, H)

theorem tdrun_ok (E : Env A R P τ fl) : ∀ (l : List SO) (F F' : TF A) (H H' : TH A) (acc p : List Prop) (cs0 cs : List DA) (rest : List SO) (K : List DA → TF A → TH A → Prop), tdrun R τ l F H acc cs0 = some (p, cs, rest, F', H') → Conj p →
    TDr R P rest F' H' (fun c => K (cs ++ c)) → Conj acc ∧ TDr R P l F H (fun c => K (cs0 ++ c)) := by
  intro l
  induction l with
  | nil =>
    intro F F' H H' acc p cs0 cs rest K h hc k
    simp only [tdrun, Option.some.injEq, Prod.mk.injEq] at h
    obtain ⟨rfl, rfl, rfl, rfl, rfl⟩ := h
    exact ⟨hc, k⟩
  | cons s r ih =>
    intro F F' H H' acc p cs0 cs rest K h hc k
    simp only [tdrun] at h
    split at h
    · rename_i q x ws h1
      cases hb : (tlook F s.op).all (Nat.blt · H.length) && (ws.map (·.1)).all (Nat.blt · (H.length + tnew s ws)) with
      | false => rw [hb] at h; cases h
      | true =>
        rw [hb] at h
        simp only [cond_true] at h
        simp only [Bool.and_eq_true] at hb
        obtain ⟨c1, c2⟩ := ih _ _ _ _ _ _ _ _ _ K h hc k
        obtain ⟨c3, c4⟩ := Conj.app c1
        refine ⟨c3, .cons (x := x) (ws := ws) (e := tnew s ws) (c := tcert R F H s x ws) (tcert_ok R (by rw [← E.τ]; exact tone_ok R E.ok h1 c4)) rfl rfl hb.1 hb.2 (fun y hy => ?_) ?_⟩
        · simp only [tcert, tnew] at hy ⊢
          cases hb0 : Nat.beq ws.length 0 <;> rw [hb0] at hy <;> simp only [cond_true, cond_false] at hy ⊢
          · cases hm : makes s.op <;> rw [hm] at hy <;> simp only [cond_true, cond_false, List.mem_singleton, List.not_mem_nil] at hy ⊢
            omega
          · simp at hy
        · simpa only [List.append_assoc, List.singleton_append] using c2
    · simp only [Option.some.injEq, Prod.mk.injEq] at h
      obtain ⟨rfl, rfl, rfl, rfl, rfl⟩ := h
      exact ⟨hc, k⟩

theorem TDr.run (E : Env A R P τ fl) {l rest : List SO} {F F' : TF A} {H H' : TH A} {p : List Prop} {cs : List DA} {K : List DA → TF A → TH A → Prop} (h : tdrun R τ l F H [] [] = some (p, cs, rest, F', H')) (hc : Conj p)
    (k : TDr R P rest F' H' (fun c => K (cs ++ c))) : TDr R P l F H K := (tdrun_ok E l F F' H H' [] p [] cs rest K h hc k).2

/-- A region that draws its order. -/
theorem Tw.regd (E : Env A R P τ fl) {l : List SO} {af : List (List Nat)} {Q : TPost A} {F : TF A} {H : TH A} (h : TDr R P l F H (fun cs F' H' => okB af cs = true ∧ Q .normal F' H')) : Tw R P N (.regd l af) Q F H := by
  obtain ⟨cs, F', H', h1, h2, h3⟩ := h
  exact Lw.regd E.mixed h1 h2 ⟨F', H', h3, rfl, rfl⟩

def tolOps (l : List SO) : List (Nat × Nat) → Bool
  | [] => true
  | (i, k) :: r => (match l[i]?, l[k]? with
    | some ⟨_, .load _ _, _⟩, some ⟨_, .call _, _⟩ => true
    | _, _ => false) && tolOps l r

/-- A region that draws its order, where the loads i of the pairs (i, k) look at rows that the later calls k lay anew, with the same value there. -/
theorem Tw.regdT (E : Env A R P τ fl) (tol : List (Nat × Nat)) {l : List SO} {af : List (List Nat)} {Q : TPost A} {F : TF A} {H : TH A} (_ : tolOps l tol = true)
    (h : TDr R P l F H (fun cs F' H' => okTol tol af cs = true ∧ TolsOk τ l cs (embF R F) tol ∧ tol.all (fun p => (cs.getD p.1 default).rs.all (Nat.blt · H'.length)) = true ∧ Q .normal F' H')) : Tw R P N (.regd l af) Q F H := by
  obtain ⟨cs, F', H', h1, h2, h3, h4, h5⟩ := h
  refine Lw.regdT tol E.mixed h1 h2 (fun i k hik => ?_) ⟨F', H', h5, rfl, rfl⟩
  rw [E.τ] at h3
  obtain ⟨s, c, ck, r, Hk, t1, t2, t3, t4, t5, t6⟩ := (h3.of i k hik).fact
  refine ⟨s, c, ck, r, Hk, t1, t2, t3, t4, fun X hX hk => t5 X ?_ hk, t6⟩
  have a1 := List.all_eq_true.1 h4 (i, k) hik
  have a2 : cs.getD i default = c := by simp [List.getD_eq_getElem?_getD, t2]
  simp only [a2, t4, List.all_cons, List.all_nil, Bool.and_true] at a1
  rw [hX, embH_length]
  simpa using a1

/-! ### Calls there -/
mutual
def treachV (D : Nat → List Nat) : TV A → List Nat
  | .sla _ h _ _ => h :: D h
  | .sl _ h _ _ => h :: D h
  | .ptr h _ => h :: D h
  | .ptrE _ h _ _ => h :: D h
  | .agg cs => treachL D cs
  | .fn _ cs => treachL D cs
  | .opt _ w => treachV D w
  | .dead | .und | .bool _ | .int _ _ | .str _ | .nilp | .nils | .nilf | .yld _ | .pel _ | .lst _ _ | .tup _ => []
def treachL (D : Nat → List Nat) : List (TV A) → List Nat
  | [] => []
  | c :: r => treachV D c ++ treachL D r
end

/-- The rows that a reader reaches. -/
def treach (H : TH A) : Nat → TV A → List Nat
  | 0, v => treachV (fun _ => []) v
  | k + 1, v => treachV (fun h => match trow H h with
    | some (.cells cs) => cs.flatMap (treach H k)
    | _ => []) v

mutual
theorem treachV_ok (hR : R.Ok) (H : TH A) (k : Nat) (D : Nat → List Nat) (hD : ∀ h0 cs, trow H h0 = some (.cells cs) → ∀ c ∈ cs, ∀ j, j ≤ k → ∀ r ∈ reach (embH R H) j (emb R c), r ∈ D h0) : ∀ (v : TV A) (j : Nat), j ≤ k + 1 → ∀ r ∈ reach (embH R H) j (emb R v), r ∈ treachV D v
  | .sla sz h o n, j, hj, r, hr => by
    cases j with
    | zero => simp [reach] at hr
    | succ j => simp only [emb, reach] at hr; exact rows hR H k D hD h j (by omega) r hr
  | .sl sz h o n, j, hj, r, hr => by
    cases j with
    | zero => simp [reach] at hr
    | succ j => simp only [emb, reach] at hr; exact rows hR H k D hD h j (by omega) r hr
  | .agg cs, j, hj, r, hr => by
    cases j with
    | zero => simp [reach] at hr
    | succ j =>
      simp only [emb, reach] at hr
      split at hr
      · simp at hr
      · exact treachL_ok hR H k D hD cs j (by omega) r hr
  | .fn f cs, j, hj, r, hr => by
    cases j with
    | zero => simp [reach] at hr
    | succ j =>
      simp only [emb, reach] at hr
      split at hr
      · simp at hr
      · exact treachL_ok hR H k D hD cs j (by omega) r hr
  | .opt g w, j, hj, r, hr => by
    simp only [emb] at hr
    cases g with
    | false => cases j <;> simp [reach] at hr
    | true => exact treachV_ok hR H k D hD w j hj r hr
  | .dead, j, _, r, hr => by cases j <;> simp [emb, reach] at hr
  | .und, j, _, r, hr => by cases j <;> simp [emb, reach] at hr
  | .bool _, j, _, r, hr => by cases j <;> simp [emb, reach] at hr
  | .int _ _, j, _, r, hr => by cases j <;> simp [emb, reach] at hr
  | .str _, j, _, r, hr => by cases j <;> simp [emb, reach] at hr
  | .nilp, j, _, r, hr => by cases j <;> simp [emb, reach] at hr
  | .nils, j, _, r, hr => by cases j <;> simp [emb, reach] at hr
  | .nilf, j, _, r, hr => by cases j <;> simp [emb, reach] at hr
  | .yld _, j, _, r, hr => by cases j <;> simp [emb, reach] at hr
  | .pel _, j, _, r, hr => by cases j <;> simp [emb, reach] at hr
  | .lst _ _, j, _, r, hr => by cases j <;> simp [emb, reach] at hr
  | .ptr h o, j, hj, r, hr => by
    cases j with
    | zero => simp [reach] at hr
    | succ j => simp only [emb, reach] at hr; exact rows hR H k D hD h j (by omega) r hr
  | .ptrE sz h i o, j, hj, r, hr => by
    cases j with
    | zero => simp [reach] at hr
    | succ j => simp only [emb, reach] at hr; exact rows hR H k D hD h j (by omega) r hr
  | .tup _, j, _, r, hr => by cases j <;> simp [emb, reach] at hr
theorem treachL_ok (hR : R.Ok) (H : TH A) (k : Nat) (D : Nat → List Nat) (hD : ∀ h0 cs, trow H h0 = some (.cells cs) → ∀ c ∈ cs, ∀ j, j ≤ k → ∀ r ∈ reach (embH R H) j (emb R c), r ∈ D h0) : ∀ (cs : List (TV A)) (j : Nat), j ≤ k + 1 → ∀ r ∈ (embC R cs).flatMap (reach (embH R H) j), r ∈ treachL D cs
  | [], j, _, r, hr => by simp [embC] at hr
  | c :: cs, j, hj, r, hr => by
    simp only [embC, List.flatMap_cons, List.mem_append] at hr
    simp only [treachL, List.mem_append]
    exact hr.imp (treachV_ok hR H k D hD c j hj r) (treachL_ok hR H k D hD cs j hj r)
theorem rows (hR : R.Ok) (H : TH A) (k : Nat) (D : Nat → List Nat) (hD : ∀ h0 cs, trow H h0 = some (.cells cs) → ∀ c ∈ cs, ∀ j, j ≤ k → ∀ r ∈ reach (embH R H) j (emb R c), r ∈ D h0) (h0 j : Nat) (hj : j ≤ k) (r : Nat)
    (h : r ∈ (h0 :: (match row (embH R H) h0 with | some cs => if hfreeL cs then [] else cs.flatMap (reach (embH R H) j) | none => []))) : r ∈ h0 :: D h0 := by
  rcases List.mem_cons.1 h with h | h
  · exact List.mem_cons.2 (.inl h)
  · refine List.mem_cons.2 (.inr ?_)
    cases ht : trow H h0 with
    | none =>
      have : row (embH R H) h0 = none := by
        unfold trow at ht
        rw [nth_eq] at ht
        unfold row
        rw [embH_get]
        cases hx : H[h0]? with
        | none => rfl
        | some y => cases y with | none => rfl | some z => rw [hx] at ht; cases ht
      rw [this] at h
      simp at h
    | some y =>
      rw [row_emb R ht] at h
      simp only at h
      split at h
      · simp at h
      · rename_i hf
        cases y with
        | arr e xs => exact absurd (hfreeL_flat (hR.free e) xs) hf
        | cells cs =>
          simp only [embR, embC_eq, List.flatMap_map] at h
          obtain ⟨x, hx, hr⟩ := List.mem_flatMap.1 h
          exact hD h0 cs ht x hx j hj r hr
end

theorem treach_ok (hR : R.Ok) (H : TH A) : ∀ (k : Nat) (v : TV A) (j : Nat), j ≤ k + 1 → ∀ r ∈ reach (embH R H) j (emb R v), r ∈ treach H k v := by
  intro k
  induction k with
  | zero =>
    intro v j hj r hr
    refine treachV_ok hR H 0 _ (fun h0 cs _ c _ j hj r hr => ?_) v j hj r hr
    have : j = 0 := by omega
    subst this; simp [reach] at hr
  | succ k ih =>
    intro v j hj r hr
    refine treachV_ok hR H (k + 1) _ (fun h0 cs ht c hc j hj r hr => ?_) v j hj r hr
    simp only [ht]
    exact List.mem_flatMap.2 ⟨c, hc, ih c j hj r hr⟩

mutual
def trigid : TV A → Bool
  | .bool _ | .int _ _ | .str _ | .nilp | .nils | .nilf | .und => true
  | .tup cs => trigidL cs
  | .agg cs => trigidL cs
  | .opt _ v => trigid v
  | _ => false
def trigidL : List (TV A) → Bool
  | [] => true
  | c :: r => trigid c && trigidL r
end

mutual
theorem trigid_emb : ∀ (v : TV A), trigid v = true → rigid (emb R v) = true
  | .bool _, _ => rfl
  | .int _ _, _ => rfl
  | .str _, _ => rfl
  | .nilp, _ => rfl
  | .nils, _ => rfl
  | .nilf, _ => rfl
  | .und, _ => rfl
  | .tup cs, h => by simp only [trigid] at h; simp only [emb, rigid]; exact trigidL_emb cs h
  | .agg cs, h => by simp only [trigid] at h; simp only [emb, rigid]; exact trigidL_emb cs h
  | .opt g v, h => by
    simp only [trigid] at h
    simp only [emb]
    cases g
    · rfl
    · exact trigid_emb v h
  | .dead, h => by simp [trigid] at h
  | .pel _, h => by simp [trigid] at h
  | .lst _ _, h => by simp [trigid] at h
  | .ptr _ _, h => by simp [trigid] at h
  | .ptrE _ _ _ _, h => by simp [trigid] at h
  | .sl _ _ _ _, h => by simp [trigid] at h
  | .sla _ _ _ _, h => by simp [trigid] at h
  | .fn _ _, h => by simp [trigid] at h
theorem trigidL_emb : ∀ (cs : List (TV A)), trigidL cs = true → rigidL (embC R cs) = true
  | [], _ => rfl
  | c :: r, h => by
    simp only [trigidL, Bool.and_eq_true] at h
    simp only [embC, rigidL, Bool.and_eq_true]
    exact ⟨trigid_emb c h.1, trigidL_emb r h.2⟩
end

/-- A call of a function that only reads and whose value says all of itself. -/
theorem TDr.call (E : Env A R P τ fl) {s : SO} {r : List SO} {F : TF A} {H : TH A} {K : List DA → TF A → TH A → Prop} {f : Nat} {as as0 : List (TV A)} {p : List Prop} {v : TV A} {Q' : TV A → TH A → Prop} (hg : tgate F s.g = true) (hs : tcallD F s = some (f, as))
    (ha : ((as.map (tsnap R H 3)).flatMap (·.1), (as.map (tsnap R H 3)).map (·.2)) = (p, as0)) (hp : Conj p) (hc : TC R P f as0 [] Q') (hv : ∀ x X, Q' x X → x = v) (hr : trigid v = true)
    (hb : (as.flatMap (treach H 2)).all (Nat.blt · H.length) = true)
    (k : TDr R P r (tlput s.dst v F) H (fun cs => K (⟨s.dst, emb R v, [], guardSlot s.g ++ slotsOf s.op, as.flatMap (treach H 2), []⟩ :: cs))) : TDr R P (s :: r) F H K := by
  obtain ⟨rfl, rfl⟩ := Prod.mk.inj ha
  obtain ⟨g, args, tys, cap, hop, hgv, hu, hargs⟩ := tcallD_ok (R := R) hs
  have hc2 : LC P f ((args.toList.map (evalO (embF R F)) ++ cap).map (snap (embH R H) 3)) [] fun x G => x = emb R v := by
    rw [hargs]
    refine LC.mono (LC.args ?_ ?_ hc) fun x G ⟨y, X, q, e1, e2⟩ => by rw [e1, hv y X q]
    · simp [embC_length]
    · intro i h1 h2
      have hi : i < as.length := by rw [embC_length] at h1; simpa using h1
      have := tsnap_ok R E.ok H 3 as[i] (Conj.flat hp _ (List.mem_map.2 ⟨as[i], List.getElem_mem hi, rfl⟩))
      simpa [embC_eq] using this
  have hf := SFact.quiet (tgate_ok hg) hop hgv hu hc2 (fun y G e => e) (trigid_emb v hr)
  refine TDr.cons (x := v) (ws := []) (e := 0) (c := ⟨s.dst, emb R v, [], guardSlot s.g ++ slotsOf s.op, as.flatMap (treach H 2), []⟩) (hf.more rfl rfl rfl rfl (fun t ht => ht) (fun q hq => ?_)) rfl rfl hb rfl (fun x hx => by simp at hx) (by simpa [tapply] using k)
  rw [hargs] at hq
  simp only [embC_eq, List.flatMap_map] at hq
  obtain ⟨x, hx, hr'⟩ := List.mem_flatMap.1 hq
  exact List.mem_flatMap.2 ⟨x, hx, treach_ok E.ok H 2 x 3 (by omega) q hr'⟩

end
end Go.Lite

namespace Go.Lite
/-! ### Tables -/
def lookT {β : Type} (l : List (Nat × β)) (d : Nat → Option β) (t : Nat) : Option β :=
  match l with
  | [] => d t
  | (s, x) :: r => cond (Nat.beq s t) (some x) (lookT r d t)
def lookN (l : List (Nat × Nat)) (d : Nat → Nat) (t : Nat) : Nat :=
  match l with
  | [] => d t
  | (s, x) :: r => cond (Nat.beq s t) x (lookN r d t)
def okL {β : Type} (d : Nat → Option β) : List (Nat × β) → Prop
  | [] => True
  | (s, x) :: r => d s = some x ∧ okL d r
def okN (d : Nat → Nat) : List (Nat × Nat) → Prop
  | [] => True
  | (s, x) :: r => d s = x ∧ okN d r
theorem lookT_eq {β : Type} {d : Nat → Option β} : ∀ {l : List (Nat × β)}, okL d l → lookT l d = d
  | [], _ => rfl
  | (s, x) :: r, h => by
    funext t
    simp only [lookT]
    cases hb : Nat.beq s t with
    | true => rw [← Nat.eq_of_beq_eq_true hb, h.1]; rfl
    | false => simp only [cond_false]; rw [lookT_eq h.2]
theorem lookN_eq {d : Nat → Nat} : ∀ {l : List (Nat × Nat)}, okN d l → lookN l d = d
  | [], _ => rfl
  | (s, x) :: r, h => by
    funext t
    simp only [lookN]
    cases hb : Nat.beq s t with
    | true => rw [← Nat.eq_of_beq_eq_true hb, h.1]; rfl
    | false => simp only [cond_false]; rw [lookN_eq h.2]
end Go.Lite
