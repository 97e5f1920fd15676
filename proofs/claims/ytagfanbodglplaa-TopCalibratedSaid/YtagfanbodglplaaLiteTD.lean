/- Lite, parts TC TD. -/
import Derived.Test.YtagfanbodglplaaLiteTB
set_option linter.unusedVariables false
set_option linter.unusedSimpArgs false

/- Lite, part TC: the operations that compute or read, on typed values. -/
namespace Go.Lite
open Go Go.RowKit
set_option linter.unusedVariables false

section
variable {A : Nat → Type} (R : Reg A)

def decAll (e : Nat) : Nat → List (TV A) → Option (List (A e))
  | 0, _ => some []
  | k + 1, cs => match R.dec e (cs.take (R.sz e)), decAll e k (cs.drop (R.sz e)) with
    | some a, some r => some (a :: r)
    | _, _ => none

theorem decAll_ok (hR : R.Ok) {e : Nat} : ∀ (k : Nat) (cs : List (TV A)) (xs : List (A e)), cs.length = k * R.sz e → decAll R e k cs = some xs → embC R cs = xs.flatMap (R.encL e) ∧ xs.length = k := by
  intro k
  induction k with
  | zero =>
    intro cs xs hl h
    obtain rfl := Option.some.inj h
    have : cs = [] := List.eq_nil_of_length_eq_zero (by simpa using hl)
    subst this
    exact ⟨rfl, rfl⟩
  | succ k ih =>
    intro cs xs hl h
    simp only [decAll] at h
    split at h
    · rename_i a r h1 h2
      obtain rfl := Option.some.inj h
      obtain ⟨i1, i2⟩ := ih _ _ (by rw [List.length_drop, hl, Nat.add_mul]; omega) h2
      have := hR.dec e _ a h1
      refine ⟨?_, by simp [i2]⟩
      rw [List.flatMap_cons, ← this, ← i1, ← embC_append, List.take_append_drop]
    · cases h

def tcells : TV A → Option (List (TV A))
  | .agg cs => some cs
  | .dead => none
  | .und => none
  | .tup _ => none
  | .opt _ _ => none
  | v => some [v]

theorem tcells_emb {v : TV A} {cs : List (TV A)} (h : tcells v = some cs) : lcells (emb R v) = some (embC R cs) := by
  cases v <;> simp only [tcells, reduceCtorEq, Option.some.injEq] at h <;> subst h <;> simp [emb, embC, lcells]

/-- The byte at a place. -/
def sat (s : ByteArray) (i : Nat) : Nat := (s.data.toList.getD i 0).toNat

theorem sat_eq {s : ByteArray} {i : Nat} (h : i < s.size) : s[i]? = some (UInt8.ofNat (sat s i)) ∧ (UInt8.ofNat (sat s i)).toNat = sat s i := by
  have hd : i < s.data.size := h
  have e : s.data.toList.getD i 0 = s[i] := by
    rw [List.getD_eq_getElem?_getD, Array.getElem?_toList, Array.getElem?_eq_getElem hd]; rfl
  unfold sat
  rw [e]
  refine ⟨?_, by simp⟩
  rw [getElem?_pos s i h]
  simp

def gen (τ : TT) (F : TF A) (op : Op) : Option (List Prop × TV A) :=
  match pureOp τ (embF R F) op with
  | some x => cond (flat x) (some ([], upC x)) none
  | none => none

theorem gen_ok {τ : TT} {F : TF A} {op : Op} {cs : List Prop} {v : TV A} (h : gen R τ F op = some (cs, v)) : pureOp τ (embF R F) op = some (emb R v) := by
  unfold gen at h
  split at h
  · rename_i x hx
    cases hf : flat x with
    | false => rw [hf] at h; cases h
    | true =>
      rw [hf] at h
      simp only [cond_true, Option.some.injEq, Prod.mk.injEq] at h
      obtain ⟨_, rfl⟩ := h
      rw [hx, emb_up R x hf]
  · cases h

def loI (F : TF A) : Option Operand → Option Int
  | none => some 0
  | some o => match tO F o with
    | .int _ n => some n
    | _ => none
def hiI (F : TF A) (len : Int) : Option Operand → Option Int
  | none => some len
  | some o => match tO F o with
    | .int _ n => some n
    | _ => none

theorem loI_emb {F : TF A} {lo : Option Operand} {l : Int} (h : loI F lo = some l) : loOf (lo.map (evalO (embF R F))) = some l := by
  cases lo with
  | none => exact h
  | some o =>
    simp only [loI] at h
    split at h
    · rename_i k n e
      simp only [Option.map_some, loOf, evalO_emb R, e, emb, asI]; exact h
    · cases h
theorem hiI_emb {F : TF A} {len : Nat} {hi : Option Operand} {l : Int} (h : hiI F len hi = some l) : hiOf len (hi.map (evalO (embF R F))) = some l := by
  cases hi with
  | none => exact h
  | some o =>
    simp only [hiI] at h
    split at h
    · rename_i k n e
      simp only [Option.map_some, hiOf, evalO_emb R, e, emb, asI]; exact h
    · cases h

def isN {α : Type} : Option α → Bool
  | none => true
  | some _ => false

/-- The part of a list. -/
def sub {α : Type} (xs : List α) (lo hi : Bool) (l h : Int) : List α :=
  match lo, hi with
  | true, true => xs
  | true, false => xs.take h.toNat
  | false, true => xs.drop l.toNat
  | false, false => (xs.drop l.toNat).take (h.toNat - l.toNat)

theorem sub_eq {α : Type} {xs : List α} {F : TF A} {lo hi : Option Operand} {l h : Int} (h1 : loI F lo = some l) (h2 : hiI F xs.length hi = some h) (h3 : 0 ≤ l ∧ l ≤ h ∧ h ≤ xs.length) :
    sub xs (isN lo) (isN hi) l h = (xs.drop l.toNat).take (h.toNat - l.toNat) ∧ (sub xs (isN lo) (isN hi) l h).length = h.toNat - l.toNat := by
  have e : sub xs (isN lo) (isN hi) l h = (xs.drop l.toNat).take (h.toNat - l.toNat) := by
    cases lo with
    | none =>
      obtain rfl := Option.some.inj h1
      cases hi with
      | none =>
        obtain rfl := Option.some.inj h2
        simp [isN, sub]
      | some o => simp [isN, sub]
    | some o =>
      cases hi with
      | none =>
        obtain rfl := Option.some.inj h2
        simp only [isN, sub]
        rw [List.take_of_length_le (by simp)]
      | some o' => rfl
  refine ⟨e, ?_⟩
  rw [e, List.length_take, List.length_drop]
  omega

def subLen (len : Nat) (lo hi : Bool) (l h : Int) : Nat :=
  match lo, hi with
  | true, true => len
  | true, false => h.toNat
  | false, true => len - l.toNat
  | false, false => h.toNat - l.toNat
def subOff (o : Nat) (lo : Bool) (l : Int) : Nat := cond lo o (l.toNat + o)

def tmin : List (TV A) → TV A → Option (TV A)
  | [], x => some x
  | .int _ y :: r, .int k x => tmin r (.int k (min x y))
  | _, _ => none
def tmax : List (TV A) → TV A → Option (TV A)
  | [], x => some x
  | .int _ y :: r, .int k x => tmax r (.int k (max x y))
  | _, _ => none

theorem tmin_emb : ∀ (l : List (TV A)) (x v : TV A), tmin l x = some v → lmin (l.map (emb R)) (emb R x) = some (emb R v) := by
  intro l
  induction l with
  | nil => intro x v h; obtain rfl := Option.some.inj h; rfl
  | cons y r ih =>
    intro x v h
    cases y <;> cases x <;> simp only [tmin, reduceCtorEq] at h
    rename_i k' y k x
    have := ih _ _ h
    have e : min x y = (if y < x then y else x) := by
      rcases Int.lt_or_le y x with h | h
      · rw [if_pos h]; omega
      · rw [if_neg (by omega)]; omega
    rw [e] at this
    simpa only [List.map_cons, emb, lmin] using this
theorem tmax_emb : ∀ (l : List (TV A)) (x v : TV A), tmax l x = some v → lmax (l.map (emb R)) (emb R x) = some (emb R v) := by
  intro l
  induction l with
  | nil => intro x v h; obtain rfl := Option.some.inj h; rfl
  | cons y r ih =>
    intro x v h
    cases y <;> cases x <;> simp only [tmax, reduceCtorEq] at h
    rename_i k' y k x
    have := ih _ _ h
    have e : max x y = (if x < y then y else x) := by
      rcases Int.lt_or_le x y with h | h
      · rw [if_pos h]; omega
      · rw [if_neg (by omega)]; omega
    rw [e] at this
    simpa only [List.map_cons, emb, lmax] using this

def tput (cs : List (TV A)) (o : Nat) : List (TV A) → List (TV A)
  | [d] => cs.set o d
  | ds => cs.take o ++ ds ++ cs.drop (o + ds.length)

theorem tput_emb (cs : List (TV A)) (o : Nat) (ds : List (TV A)) : embC R (tput cs o ds) = putC (embC R cs) o (embC R ds) := by
  unfold tput putC
  split
  · simp only [embC, embC_eq, List.map_set]
  · rename_i hne
    split
    · rename_i d hd
      exfalso
      have : ds.length = 1 := by rw [← embC_length R, hd]; rfl
      match ds, this with
      | [x], _ => exact hne x rfl
    · simp only [putCells, embC_append, embC_take, embC_drop, embC_length]

def tfill (place : Nat → Option (Nat × Nat)) (cells : List (TV A)) : List (Nat × TV A) → Option (List (TV A))
  | [] => some cells
  | (i, v) :: rest =>
    match place i, tcells v with
    | some (off, size), some cs => cond (Nat.beq cs.length size && Nat.ble (off + cs.length) cells.length) (tfill place (cells.take off ++ cs ++ cells.drop (off + cs.length)) rest) none
    | _, _ => none

theorem tfill_emb (place : Nat → Option (Nat × Nat)) : ∀ (ps : List (Nat × TV A)) (cells r : List (TV A)), tfill place cells ps = some r → lfill place (embC R cells) (ps.map fun p => (p.1, emb R p.2)) = some (embC R r) := by
  intro ps
  induction ps with
  | nil => intro cells r h; obtain rfl := Option.some.inj h; rfl
  | cons p ps ih =>
    intro cells r h
    obtain ⟨i, v⟩ := p
    simp only [tfill] at h
    split at h
    · rename_i off size cs hp hc
      cases hb : Nat.beq cs.length size && Nat.ble (off + cs.length) cells.length with
      | false => rw [hb] at h; cases h
      | true =>
        rw [hb] at h
        simp only [Bool.and_eq_true] at hb
        have e1 := Nat.eq_of_beq_eq_true hb.1
        have e2 := Nat.le_of_ble_eq_true hb.2
        simp only [List.map_cons, lfill, hp, tcells_emb R hc]
        rw [if_neg (by rw [embC_length, embC_length]; omega)]
        have := ih _ _ h
        rw [embC_append, embC_append, embC_take, embC_drop] at this
        simp only [putCells, embC_length]
        exact this
    · cases h

/-- The part of a list from o on, of length m. -/
def cut {α : Type} (xs : List α) (o m : Nat) : List α := match o with
  | 0 => xs.take m
  | o + 1 => (xs.drop (o + 1)).take m

theorem cut_eq {α : Type} (xs : List α) (o m : Nat) : cut xs o m = (xs.drop o).take m := by
  cases o <;> rfl
theorem cut_length {α : Type} {xs : List α} {o m : Nat} (h : o + m ≤ xs.length) : (cut xs o m).length = m := by
  rw [cut_eq, List.length_take, List.length_drop]; omega

def tbytes (H : TH A) : TV A → Option (List Prop × TV A)
  | .nils => some ([], .str (strOfNums []))
  | .lst e xs => (match R.byt e with | some f => cond (Nat.beq (R.sz e) 1) (some ([], .str (strOfNums (f xs)))) none | none => none)
  | .sla sz h o n => (match trow H h with
    | some (.arr e xs) => (match R.byt e with | some f => cond (Nat.beq sz 1 && Nat.beq (R.sz e) 1) (some ([o + n ≤ xs.length], .str (strOfNums (f (cut xs o n))))) none | none => none)
    | _ => none)
  | _ => none
/-- Values that are computed or read; what is asked. -/
def tval (τ : TT) (F : TF A) (H : TH A) (op : Op) : Option (List Prop × TV A) :=
  match op with
  | .move x => some ([], tO F x)
  | .assign x => some ([], tO F x)
  | .binOp o t x y u => (match tO F x, tO F y with
    | .int k a, .int k' b => tint o k a k' b
    | .str a, .str b => (match o with
      | .add => some ([((a.size + b.size : Nat) : Int) ≤ 9223372036854775807], .str (a ++ b))
      | o => gen R τ F (.binOp o t x y u))
    | _, _ => gen R τ F (.binOp o t x y u))
  | .unOp .neg t x => (match tO F x with
    | .int k n => some ((arith k (-n)).1, .int k (arith k (-n)).2)
    | _ => none)
  | .unOp .not t x => (match tO F x with
    | .bool b => some ([], .bool (!b))
    | _ => none)
  | .convert s d x => (match τ s, τ d, tO F x with
    | some _, some ⟨.int k, _, _, _⟩, .int _ n => some ((arith k n).1, .int k (arith k n).2)
    | some _, some ⟨.str, _, _, _⟩, .str b => some ([], .str b)
    | _, some ⟨.str, _, _, _⟩, y => cond (Nat.beq (τ.nilk s) 3) (tbytes R H y) none
    | _, _, _ => none)
  | .makeFunc (.func f) first cap => cond (Nat.beq first.size 0) (match cap.toList.map (tO F) with | [] => some ([], .fn f []) | c :: r => cond (undT c) none (some ([], .fn f (c :: r)))) (cond (Nat.beq cap.size 0) (some ([], .fn f (.und :: first.toList.map (tO F)))) none)
  | .extract x i => (match tO F x with
    | .tup vs => (match nth vs i with | some v => some ([], v) | none => none)
    | _ => none)
  | .nilCheck x => (match tO F x with
    | .ptr h o => some ([], .ptr h o)
    | .ptrE sz h i o => some ([], .ptrE sz h i o)
    | .pel cs => some ([], .pel cs)
    | .fn f cs => some ([], .fn f cs)
    | _ => none)
  | .fieldAddr s x f => (match τ s, tO F x with
    | some ⟨.struct fs, _, _, _⟩, .ptr h o => (match nth fs f with | some (off, size, _) => cond (Nat.beq size 0) none (some ([], .ptr h (o + off))) | none => none)
    | some ⟨.struct fs, _, _, _⟩, .ptrE sz h i o => (match nth fs f with | some (off, size, _) => cond (Nat.beq size 0) none (some ([], .ptrE sz h i (o + off))) | none => none)
    | some ⟨.struct fs, _, _, _⟩, .pel cs => (match nth fs f with | some (off, size, _) => cond (Nat.beq size 0) none (some ([], .pel (cs.drop off))) | none => none)
    | _, _ => none)
  | .field s x f => (match τ s, tO F x with
    | some ⟨.struct fs, _, _, _⟩, .agg cs => (match nth fs f with | some (off, size, agg) => (match tpart agg size cs off with | some v => some ([], v) | none => none) | none => none)
    | _, _ => none)
  | .indexAddr t x i => (match τ t, tO F x, tO F i with
    | some ⟨.slice esz _ _, _, _, _⟩, .lst e xs, .int _ m => cond (Nat.beq (R.sz e) esz) (some ([0 ≤ m ∧ m < xs.length], .pel (R.enc e (xs.getD m.toNat (R.d e))))) none
    | some ⟨.slice esz _ _, _, _, _⟩, .sla sz h o len, .int _ m => cond (Nat.beq sz esz) (some ([0 ≤ m ∧ m < len], .ptrE sz h (m.toNat + o) 0)) none
    | some ⟨.slice esz _ _, _, _, _⟩, .sl sz h o len, .int _ m => cond (Nat.beq sz esz) (some ([0 ≤ m ∧ m < len], .ptr h (o + m.toNat * sz))) none
    | some ⟨.arr m esz _, _, _, _⟩, .ptr h o, .int _ n => (match trow H h with
      | some (.arr e _) => cond (Nat.beq (R.sz e) esz && Nat.beq o 0) (some ([0 ≤ n ∧ n < m], .ptrE esz h n.toNat 0)) (some ([0 ≤ n ∧ n < m], .ptr h (o + n.toNat * esz)))
      | _ => some ([0 ≤ n ∧ n < m], .ptr h (o + n.toNat * esz)))
    | some ⟨.arr m esz _, _, _, _⟩, .ptrE sz h i o, .int _ n => some ([0 ≤ n ∧ n < m], .ptrE sz h i (o + n.toNat * esz))
    | some ⟨.arr m esz _, _, _, _⟩, .pel cs, .int _ n => some ([0 ≤ n ∧ n < m], .pel (cs.drop (n.toNat * esz)))
    | _, _, _ => none)
  | .index t x i => (match τ t, tO F x, tO F i with
    | some ⟨.arr m esz eagg, _, _, _⟩, .agg cs, .int _ n => (match tpart eagg esz cs (n.toNat * esz) with | some v => some ([0 ≤ n ∧ n < m], v) | none => none)
    | some ⟨.str, _, _, _⟩, .str s, .int _ n => some ([0 ≤ n ∧ n < s.size], .int .u8 (sat s n.toNat))
    | _, _, _ => none)
  | .build t ps => (match τ t with
    | some ⟨.struct fs, _, _, z⟩ => cond (flatL z) (match tfill (fun i => (nth fs i).map fun f => (f.1, f.2.1)) (upL z) (ps.toList.map fun p => (p.1, tO F p.2)) with | some cs => some ([], .agg cs) | none => none) none
    | some ⟨.arr n esz _, _, _, z⟩ => cond (flatL z) (match tfill (fun i => some (i * esz, esz)) (upL z) (ps.toList.map fun p => (p.1, tO F p.2)) with | some cs => some ([], .agg cs) | none => none) none
    | _ => none)
  | .slice t x lo hi none => (match τ t, tO F x with
    | some ⟨.slice esz _ _, _, _, _⟩, .lst e xs => (match loI F lo, hiI F xs.length hi with
      | some l, some h => cond (Nat.beq (R.sz e) esz) (some ([0 ≤ l ∧ l ≤ h ∧ h ≤ xs.length], .lst e (sub xs (isN lo) (isN hi) l h))) none
      | _, _ => none)
    | some ⟨.slice esz _ _, _, _, _⟩, .sla sz r o len => (match loI F lo, hiI F len hi with
      | some l, some h => cond (Nat.beq sz esz) (some ([0 ≤ l ∧ l ≤ h ∧ h ≤ len], .sla sz r (subOff o (isN lo) l) (subLen len (isN lo) (isN hi) l h))) none
      | _, _ => none)
    | some ⟨.slice esz _ _, _, _, _⟩, .nils => (match loI F lo, hiI F (0 : Nat) hi with
      | some l, some h => some ([0 ≤ l ∧ l ≤ h ∧ h ≤ 0], .nils)
      | _, _ => none)
    | some ⟨.str, _, _, _⟩, .str s => (match loI F lo, hiI F s.size hi with
      | some l, some h => some ([0 ≤ l ∧ l ≤ h ∧ h ≤ s.size], .str (s.extract l.toNat h.toNat))
      | _, _ => none)
    | some ⟨.arr m esz _, _, _, _⟩, .ptr q o => (match loI F lo, hiI F m hi with
      | some l, some h => (match trow H q with
        | some (.arr e xs) => cond (Nat.beq (R.sz e) esz && Nat.beq o 0) (some ([0 ≤ l ∧ l ≤ h ∧ h ≤ m, l < m, m ≤ xs.length], .sla esz q (subOff 0 (isN lo) l) (subLen m (isN lo) (isN hi) l h))) none
        | some (.cells cs) => cond (Nat.ble (o + m * esz) cs.length) (some ([0 ≤ l ∧ l ≤ h ∧ h ≤ m, l < m], .sl esz q (o + l.toNat * esz) (h.toNat - l.toNat))) none
        | none => none)
      | _, _ => none)
    | some ⟨.arr m esz _, _, _, _⟩, .pel cs => (match lo, hi, R.el t with
      | none, none, some e => cond (Nat.beq (R.sz e) esz && Nat.beq cs.length (m * esz) && Nat.blt 0 m) (match decAll R e m cs with
        | some xs => some ([], .lst e xs)
        | none => none) none
      | _, _, _ => none)
    | _, _ => none)
  | .call ⟨.builtin .len, args, tys⟩ => (match tys[0]?, args[0]? with
    | some t, some x => (match τ t, tO F x with
      | some ⟨.str, _, _, _⟩, .str s => some ([], .int .i64 s.size)
      | some ⟨.slice _ _ _, _, _, _⟩, .lst e xs => some ([], .int .i64 xs.length)
      | some ⟨.slice _ _ _, _, _, _⟩, .sla _ _ _ n => some ([], .int .i64 n)
      | some ⟨.slice _ _ _, _, _, _⟩, .sl _ _ _ n => some ([], .int .i64 n)
      | some ⟨.slice _ _ _, _, _, _⟩, .nils => some ([], .int .i64 (0 : Nat))
      | some ⟨.arr n _ _, _, _, _⟩, _ => some ([], .int .i64 n)
      | _, _ => none)
    | _, _ => none)
  | .call ⟨.builtin .min, args, _⟩ => (match args.toList.map (tO F) with
    | x :: r => (match tmin r x with | some v => some ([], v) | none => none)
    | [] => none)
  | .call ⟨.builtin .max, args, _⟩ => (match args.toList.map (tO F) with
    | x :: r => (match tmax r x with | some v => some ([], v) | none => none)
    | [] => none)
  | .load t x => (match τ t, tO F x with
    | some ti, .ptr h o => (match trow H h with
      | some (.cells cs) => (match tpart ti.agg ti.size cs o with | some v => some ([], v) | none => none)
      | _ => none)
    | some ti, .ptrE sz h i o => (match trow H h with
      | some (.arr e xs) => cond (Nat.beq sz (R.sz e)) (match tpart ti.agg ti.size (R.enc e (xs.getD i (R.d e))) o with | some v => some ([i < xs.length], v) | none => none) none
      | _ => none)
    | some ti, .pel cs => (match tpart ti.agg ti.size cs 0 with | some v => some ([], v) | none => none)
    | _, _ => none)
  | .pick c (.const (.bool true)) b => (match tO F c, tO F b with
    | .bool p, .bool q => some ([], .bool (p || q))
    | .bool p, .opt g (.bool q) => some ([p = false → g = true], .bool (p || q))
    | .bool p, .und => some ([p = true], .bool true)
    | _, _ => none)
  | .pick c a (.const (.bool false)) => (match tO F c, tO F a with
    | .bool p, .bool q => some ([], .bool (p && q))
    | .bool p, .opt g (.bool q) => some ([p = true → g = true], .bool (p && q))
    | .bool p, .und => some ([p = false], .bool false)
    | _, _ => none)
  | op => gen R τ F op

end
end Go.Lite

/- Lite, part TD: values that are computed or read are as tval says. -/
namespace Go.Lite
open Go Go.RowKit
set_option linter.unusedVariables false

section
variable {A : Nat → Type} {R : Reg A}

theorem valP_pure {τ : TT} {F : Fr} {H : Hp} {op : Op} {x : LV} (h : pureOp τ F op = some x) : valP τ F H op = some x := by unfold valP; rw [h]
theorem valP_load {τ : TT} {F : Fr} {H : Hp} {t : TypeId} {a : Operand} {x : LV} (h : loadOp τ F H (.load t a) = some x) : valP τ F H (.load t a) = some x := h

theorem embL_eq (F : TF A) (l : List Operand) : l.map (evalO (embF R F)) = embC R (l.map (tO F)) := by
  rw [embC_eq, List.map_map]
  exact List.map_congr_left fun o _ => evalO_emb R F o

theorem parts_emb (F : TF A) (ps : List (Nat × Operand)) : (ps.map fun p => (p.1, evalO (embF R F) p.2)) = (ps.map fun p => (p.1, tO F p.2)).map fun p => (p.1, emb R p.2) := by
  rw [List.map_map]
  exact List.map_congr_left fun p _ => by simp [evalO_emb R F]

theorem subs_eq {F : TF A} {lo hi : Option Operand} {l h : Int} {o len : Nat} (h1 : loI F lo = some l) (h2 : hiI F len hi = some h) (h3 : 0 ≤ l ∧ l ≤ h ∧ h ≤ len) :
    subOff o (isN lo) l = l.toNat + o ∧ subLen len (isN lo) (isN hi) l h = h.toNat - l.toNat := by
  cases lo with
  | none =>
    obtain rfl := Option.some.inj h1
    cases hi with
    | none =>
      obtain rfl := Option.some.inj h2
      exact ⟨by simp [subOff, isN], by simp [subLen, isN]⟩
    | some o' => exact ⟨by simp [subOff, isN], by simp [subLen, isN]⟩
  | some o' =>
    cases hi with
    | none =>
      obtain rfl := Option.some.inj h2
      exact ⟨by simp [subOff, isN], by simp [subLen, isN]⟩
    | some o'' => exact ⟨by simp [subOff, isN], by simp [subLen, isN]⟩

theorem tbytes_ok (hR : R.Ok) {τ : TT} {F : TF A} {H : TH A} {s d : TypeId} {x : Operand} {sz : Nat} {ag : Bool} {z : List LV} {cs : List Prop} {v : TV A} (hno : ∀ (val : TI) (b : ByteArray), τ.ti s = some val → tO F x = .str b → False) (hk : Nat.beq (τ.nilk s) 3 = true) (h2 : τ d = some ⟨.str, sz, ag, z⟩)
    (h : tbytes R H (tO F x) = some (cs, v)) (hc : Conj cs) : valP τ (embF R F) (embH R H) (.convert s d x) = some (emb R v) := by
  have E := evalO_emb R F
  have hp : pureOp τ (embF R F) (.convert s d x) = none := by
    simp only [pureOp, E, h2]
    split
    · rename_i e _; simp at e
    · rename_i b e1 e2 e3
      exfalso
      cases hx : tO F x <;> rw [hx] at e3 h <;> simp only [emb, reduceCtorEq] at e3
      · exact hno _ _ (by assumption) hx
      · simp [tbytes] at h
    · rfl
  have fin : ∀ ns, bytesAt (embH R H) (emb R (tO F x)) = some ns → valP τ (embF R F) (embH R H) (.convert s d x) = some (.str (strOfNums ns)) := fun ns hb => by
    unfold valP
    rw [hp]
    simp only [loadOp, hk, if_true, h2, E, hb]
  have by1 : ∀ {e : Nat} {f : List (A e) → List Int} (xs : List (A e)), R.byt e = some f → u8s (xs.flatMap (R.encL e)) = some (f xs) := fun xs hf => by rw [hR.byt _ _ hf, u8s_map]
  unfold tbytes at h
  split at h
  · rename_i hx
    simp only [Option.some.injEq, Prod.mk.injEq] at h
    obtain ⟨_, rfl⟩ := h
    exact fin [] (by rw [hx]; rfl)
  · rename_i e xs hx
    split at h
    · rename_i f hf
      cases hb : Nat.beq (R.sz e) 1 with
      | false => rw [hb] at h; cases h
      | true =>
        rw [hb] at h
        simp only [cond_true, Option.some.injEq, Prod.mk.injEq] at h
        obtain ⟨_, rfl⟩ := h
        refine fin (f xs) ?_
        rw [hx]
        simp only [emb, bytesAt, Nat.eq_of_beq_eq_true hb, if_true]
        exact by1 xs hf
    · cases h
  · rename_i sz' h' o n hx
    split at h
    · rename_i e xs hr
      split at h
      · rename_i f hf
        cases hb : Nat.beq sz' 1 && Nat.beq (R.sz e) 1 with
        | false => rw [hb] at h; cases h
        | true =>
          rw [hb] at h
          simp only [cond_true, Option.some.injEq, Prod.mk.injEq] at h
          obtain ⟨rfl, rfl⟩ := h
          rw [Bool.and_eq_true] at hb
          obtain ⟨c1, _⟩ := hc
          have hz := Nat.eq_of_beq_eq_true hb.1
          have hre := Nat.eq_of_beq_eq_true hb.2
          refine fin _ ?_
          rw [hx]
          subst hz
          have hl : ∀ a, (R.encL e a).length = 1 := fun a => by rw [hR.len, hre]
          simp only [emb, bytesAt, if_true, row_emb R hr, embR, Nat.mul_one]
          rw [if_pos (by rw [fm_length hl]; omega)]
          have d1 := fm_drop hl o xs
          have d2 := fm_take hl n (xs.drop o)
          rw [Nat.mul_one] at d1 d2
          rw [d1, d2, cut_eq]
          exact by1 _ hf
      · cases h
    · cases h
  · cases h

theorem tval_ok (hR : R.Ok) {τ : TT} {F : TF A} {H : TH A} {op : Op} {cs : List Prop} {v : TV A} (h : tval R τ F H op = some (cs, v)) (hc : Conj cs) : valP τ (embF R F) (embH R H) op = some (emb R v) := by
  have hg : ∀ {op : Op}, gen R τ F op = some (cs, v) → valP τ (embF R F) (embH R H) op = some (emb R v) := fun h => valP_pure (gen_ok R h)
  have E := evalO_emb R F
  unfold tval at h
  split at h
  · simp only [Option.some.injEq, Prod.mk.injEq] at h
    obtain ⟨_, rfl⟩ := h
    exact valP_pure (by simp only [pureOp, E])
  · simp only [Option.some.injEq, Prod.mk.injEq] at h
    obtain ⟨_, rfl⟩ := h
    exact valP_pure (by simp only [pureOp, E])
  · split at h
    · rename_i k a k' b hx hy
      refine valP_pure ?_
      simp only [pureOp, E, hx, hy, emb]
      have := tint_ok R h hc
      unfold lbinT
      exact this
    · rename_i a b hx hy
      split at h
      · simp only [Option.some.injEq, Prod.mk.injEq] at h
        obtain ⟨rfl, rfl⟩ := h
        refine valP_pure ?_
        simp only [pureOp, E, hx, hy, emb]
        unfold lbinT
        simp only [lbin]
        rw [if_neg (by have := hc.1; have e : IntKind.max .i64 = 9223372036854775807 := rfl; rw [e]; omega)]
      · exact hg h
    · exact hg h
  · split at h
    · rename_i k n hx
      simp only [Option.some.injEq, Prod.mk.injEq] at h
      obtain ⟨rfl, rfl⟩ := h
      refine valP_pure ?_
      simp only [pureOp, E, hx, emb, lun]
      rw [show (0 : Int) - n = -n by omega, arith_ok hc]
    · cases h
  · split at h
    · rename_i b hx
      simp only [Option.some.injEq, Prod.mk.injEq] at h
      obtain ⟨rfl, rfl⟩ := h
      exact valP_pure (by simp only [pureOp, E, hx, emb, lun])
    · cases h
  · split at h
    · rename_i ti k sz ag z k0 n h1 h2 hx
      simp only [Option.some.injEq, Prod.mk.injEq] at h
      obtain ⟨rfl, rfl⟩ := h
      refine valP_pure ?_
      simp only [pureOp, E, h1, h2, hx, emb]
      rw [arith_ok hc]
    · rename_i ti sz ag z b h1 h2 hx
      simp only [Option.some.injEq, Prod.mk.injEq] at h
      obtain ⟨rfl, rfl⟩ := h
      exact valP_pure (by simp only [pureOp, E, h1, h2, hx, emb])
    · rename_i y sz ag z h2 hno
      cases hk : Nat.beq (τ.nilk _) 3 with
      | false => rw [hk] at h; cases h
      | true =>
        rw [hk] at h
        simp only [cond_true] at h
        exact tbytes_ok hR hno hk h2 h hc
    · cases h
  · rename_i f first cap
    cases hb : Nat.beq first.size 0 with
    | false =>
      rw [hb] at h
      simp only [cond_false] at h
      cases hb2 : Nat.beq cap.size 0 with
      | false => rw [hb2] at h; cases h
      | true =>
        rw [hb2] at h
        simp only [cond_true, Option.some.injEq, Prod.mk.injEq] at h
        obtain ⟨_, rfl⟩ := h
        refine valP_pure ?_
        simp only [pureOp]
        rw [if_neg (fun e => by rw [e] at hb; cases hb), if_pos (Nat.eq_of_beq_eq_true hb2), embL_eq]; rfl
    | true =>
      rw [hb] at h
      simp only [cond_true] at h
      generalize hcs : cap.toList.map (tO F) = cs0 at h
      have hu : isUnd (embC R cs0) = false ∧ v = .fn f cs0 := by
        cases cs0 with
        | nil =>
          simp only [Option.some.injEq, Prod.mk.injEq] at h
          exact ⟨rfl, h.2.symm⟩
        | cons c r =>
          dsimp only at h
          cases hc : undT c with
          | true => rw [hc] at h; cases h
          | false =>
            rw [hc] at h
            simp only [cond_false, Option.some.injEq, Prod.mk.injEq] at h
            exact ⟨undT_emb hc, h.2.symm⟩
      obtain ⟨hu, rfl⟩ := hu
      refine valP_pure ?_
      simp only [pureOp]
      rw [if_pos (Nat.eq_of_beq_eq_true hb), embL_eq, hcs, if_pos hu]; rfl
  · split at h
    · rename_i vs hx
      split at h
      · rename_i w hw
        simp only [Option.some.injEq, Prod.mk.injEq] at h
        obtain ⟨_, rfl⟩ := h
        refine valP_pure ?_
        simp only [pureOp, E, hx, emb]
        rw [nth_eq] at hw
        rw [embC_get, hw]; rfl
      · cases h
    · cases h
  · split at h
    all_goals first | (cases h; done) | skip
    all_goals
      rename_i hx
      simp only [Option.some.injEq, Prod.mk.injEq] at h
      obtain ⟨_, rfl⟩ := h
      exact valP_pure (by simp only [pureOp, E, hx, emb])
  · split at h
    · rename_i fs sz ag z r o h1 hx
      split at h
      · rename_i off size g hf
        cases hb : Nat.beq size 0 with
        | true => rw [hb] at h; cases h
        | false =>
          rw [hb] at h
          simp only [cond_false, Option.some.injEq, Prod.mk.injEq] at h
          obtain ⟨_, rfl⟩ := h
          rw [nth_eq] at hf
          refine valP_pure ?_
          simp only [pureOp, E, h1, hx, emb, hf]
          rw [if_neg (fun e => by subst e; simp at hb)]
      · cases h
    · rename_i fs sz ag z esz r i o h1 hx
      split at h
      · rename_i off size g hf
        cases hb : Nat.beq size 0 with
        | true => rw [hb] at h; cases h
        | false =>
          rw [hb] at h
          simp only [cond_false, Option.some.injEq, Prod.mk.injEq] at h
          obtain ⟨_, rfl⟩ := h
          rw [nth_eq] at hf
          refine valP_pure ?_
          simp only [pureOp, E, h1, hx, emb, hf]
          rw [if_neg (fun e => by subst e; simp at hb), Nat.add_assoc]
      · cases h
    · rename_i fs sz ag z ds h1 hx
      split at h
      · rename_i off size g hf
        cases hb : Nat.beq size 0 with
        | true => rw [hb] at h; cases h
        | false =>
          rw [hb] at h
          simp only [cond_false, Option.some.injEq, Prod.mk.injEq] at h
          obtain ⟨_, rfl⟩ := h
          rw [nth_eq] at hf
          refine valP_pure ?_
          simp only [pureOp, E, h1, hx, emb, hf]
          rw [if_neg (fun e => by subst e; simp at hb), embC_drop]
      · cases h
    · cases h
  · split at h
    · rename_i fs sz ag z ds h1 hx
      split at h
      · rename_i off size g hf
        split at h
        · rename_i w hw
          simp only [Option.some.injEq, Prod.mk.injEq] at h
          obtain ⟨_, rfl⟩ := h
          rw [nth_eq] at hf
          refine valP_pure ?_
          simp only [pureOp, E, h1, hx, emb, hf]
          exact tpart_emb R hw
        · cases h
      · cases h
    · cases h
  · -- indexAddr
    split at h
    · rename_i esz eb ez sz ag z e xs k m h1 hx hi
      cases hb : Nat.beq (R.sz e) esz with
      | false => rw [hb] at h; cases h
      | true =>
        rw [hb] at h
        simp only [cond_true, Option.some.injEq, Prod.mk.injEq] at h
        obtain ⟨rfl, rfl⟩ := h
        obtain ⟨⟨c1, c2⟩, _⟩ := hc
        have he := Nat.eq_of_beq_eq_true hb
        have hm : m.toNat < xs.length := by omega
        refine valP_pure ?_
        simp only [pureOp, E, h1, hx, hi, emb]
        rw [if_pos ⟨he, c1, c2⟩]
        obtain ⟨s1, s2⟩ := fm_split (hR.len e) hm
        rw [s1, List.drop_append, List.drop_eq_nil_of_le (by rw [s2]; exact Nat.le_refl _), List.nil_append, s2, Nat.sub_self, List.drop_zero, List.take_append, hR.len, Nat.sub_self, List.take_zero, List.append_nil,
          List.take_of_length_le (by rw [hR.len]; exact Nat.le_refl _), hR.ok, getD_get _ hm]
    · rename_i esz eb ez sz ag z ss r o len k m h1 hx hi
      cases hb : Nat.beq ss esz with
      | false => rw [hb] at h; cases h
      | true =>
        rw [hb] at h
        simp only [cond_true, Option.some.injEq, Prod.mk.injEq] at h
        obtain ⟨rfl, rfl⟩ := h
        obtain ⟨⟨c1, c2⟩, _⟩ := hc
        refine valP_pure ?_
        simp only [pureOp, E, h1, hx, hi, emb]
        rw [if_pos ⟨Nat.eq_of_beq_eq_true hb, c1, c2⟩, Nat.add_zero, Nat.add_mul, Nat.add_comm]
    · rename_i esz eb ez sz ag z ss r o len k m h1 hx hi
      cases hb : Nat.beq ss esz with
      | false => rw [hb] at h; cases h
      | true =>
        rw [hb] at h
        simp only [cond_true, Option.some.injEq, Prod.mk.injEq] at h
        obtain ⟨rfl, rfl⟩ := h
        obtain ⟨⟨c1, c2⟩, _⟩ := hc
        refine valP_pure ?_
        simp only [pureOp, E, h1, hx, hi, emb]
        rw [if_pos ⟨Nat.eq_of_beq_eq_true hb, c1, c2⟩]
    · rename_i m esz g sz ag z r o k n h1 hx hi
      refine valP_pure ?_
      cases hr : trow H r with
      | none =>
        rw [hr] at h
        simp only [Option.some.injEq, Prod.mk.injEq] at h
        obtain ⟨rfl, rfl⟩ := h
        simp only [pureOp, E, h1, hx, hi, emb]
        rw [if_pos hc.1]
      | some rw0 =>
        cases rw0 with
        | cells ds =>
          rw [hr] at h
          simp only [Option.some.injEq, Prod.mk.injEq] at h
          obtain ⟨rfl, rfl⟩ := h
          simp only [pureOp, E, h1, hx, hi, emb]
          rw [if_pos hc.1]
        | arr e ys =>
          rw [hr] at h
          simp only at h
          cases hb : Nat.beq (R.sz e) esz && Nat.beq o 0 with
          | false =>
            rw [hb] at h
            simp only [cond_false, Option.some.injEq, Prod.mk.injEq] at h
            obtain ⟨rfl, rfl⟩ := h
            simp only [pureOp, E, h1, hx, hi, emb]
            rw [if_pos hc.1]
          | true =>
            rw [hb] at h
            simp only [cond_true, Option.some.injEq, Prod.mk.injEq] at h
            obtain ⟨rfl, rfl⟩ := h
            simp only [Bool.and_eq_true] at hb
            have ho := Nat.eq_of_beq_eq_true hb.2
            simp only [pureOp, E, h1, hx, hi, emb]
            rw [if_pos hc.1, ho, Nat.zero_add, Nat.add_zero]
    · rename_i m esz g sz ag z ss r i o k n h1 hx hi
      simp only [Option.some.injEq, Prod.mk.injEq] at h
      obtain ⟨rfl, rfl⟩ := h
      obtain ⟨c1, _⟩ := hc
      refine valP_pure ?_
      simp only [pureOp, E, h1, hx, hi, emb]
      rw [if_pos c1, Nat.add_assoc]
    · rename_i m esz g sz ag z ds k n h1 hx hi
      simp only [Option.some.injEq, Prod.mk.injEq] at h
      obtain ⟨rfl, rfl⟩ := h
      obtain ⟨c1, _⟩ := hc
      refine valP_pure ?_
      simp only [pureOp, E, h1, hx, hi, emb]
      rw [if_pos c1, embC_drop]
    · cases h
  · -- index
    split at h
    · rename_i m esz g sz ag z ds k n h1 hx hi
      split at h
      · rename_i w hw
        simp only [Option.some.injEq, Prod.mk.injEq] at h
        obtain ⟨rfl, rfl⟩ := h
        obtain ⟨c1, _⟩ := hc
        refine valP_pure ?_
        simp only [pureOp, E, h1, hx, hi, emb]
        rw [if_pos c1]
        exact tpart_emb R hw
      · cases h
    · rename_i sz ag z s k n h1 hx hi
      simp only [Option.some.injEq, Prod.mk.injEq] at h
      obtain ⟨rfl, rfl⟩ := h
      obtain ⟨⟨c1, c2⟩, _⟩ := hc
      obtain ⟨e1, e2⟩ := sat_eq (s := s) (i := n.toNat) (by omega)
      refine valP_pure ?_
      simp only [pureOp, E, h1, hx, hi, emb]
      rw [if_pos c1, e1]
      simp only [e2]
    · cases h
  · -- build
    split at h
    · rename_i fs sz ag z h1
      cases hf : flatL z with
      | false => rw [hf] at h; cases h
      | true =>
        rw [hf] at h
        simp only [cond_true] at h
        split at h
        · rename_i ds hd
          simp only [Option.some.injEq, Prod.mk.injEq] at h
          obtain ⟨_, rfl⟩ := h
          refine valP_pure ?_
          have := tfill_emb R _ _ _ _ hd
          rw [embC_up R z hf] at this
          simp only [nth_eq] at this
          simp only [pureOp, h1, parts_emb (R := R), this]
          rfl
        · cases h
    · rename_i n esz g sz ag z h1
      cases hf : flatL z with
      | false => rw [hf] at h; cases h
      | true =>
        rw [hf] at h
        simp only [cond_true] at h
        split at h
        · rename_i ds hd
          simp only [Option.some.injEq, Prod.mk.injEq] at h
          obtain ⟨_, rfl⟩ := h
          refine valP_pure ?_
          have := tfill_emb R _ _ _ _ hd
          rw [embC_up R z hf] at this
          simp only [pureOp, h1, parts_emb (R := R), this]
          rfl
        · cases h
    · cases h
  · -- slice
    split at h
    · rename_i esz eb ez sz ag z e xs h1 hx
      split at h
      · rename_i l r hl hr
        cases hb : Nat.beq (R.sz e) esz with
        | false => rw [hb] at h; cases h
        | true =>
          rw [hb] at h
          simp only [cond_true, Option.some.injEq, Prod.mk.injEq] at h
          obtain ⟨rfl, rfl⟩ := h
          obtain ⟨c1, _⟩ := hc
          obtain ⟨s1, s2⟩ := sub_eq hl hr c1
          refine valP_pure ?_
          simp only [pureOp, E, h1, hx, emb]
          rw [if_neg (by rw [Nat.eq_of_beq_eq_true hb]; simp)]
          unfold sliceBnds
          rw [loI_emb R hl, hiI_emb R hr]
          simp only
          rw [if_pos c1]
          simp only [Option.some.injEq, LV.ps.injEq, true_and]
          rw [s2, s1]
          refine ⟨rfl, ?_⟩
          rw [fm_drop (hR.len e), fm_take (hR.len e)]
      · cases h
    · rename_i esz eb ez sz ag z ss q o len h1 hx
      split at h
      · rename_i l r hl hr
        cases hb : Nat.beq ss esz with
        | false => rw [hb] at h; cases h
        | true =>
          rw [hb] at h
          simp only [cond_true, Option.some.injEq, Prod.mk.injEq] at h
          obtain ⟨rfl, rfl⟩ := h
          obtain ⟨c1, _⟩ := hc
          refine valP_pure ?_
          simp only [pureOp, E, h1, hx, emb]
          rw [if_neg (by rw [Nat.eq_of_beq_eq_true hb]; simp)]
          unfold sliceBnds
          rw [loI_emb R hl, hiI_emb R hr]
          simp only
          rw [if_pos c1]
          simp only [Option.some.injEq, LV.sl.injEq, true_and]
          obtain ⟨k1, k2⟩ := subs_eq (o := o) hl hr c1
          rw [k1, k2, Nat.add_mul]
          exact ⟨by omega, rfl⟩
      · cases h
    · rename_i esz eb ez sz ag z h1 hx
      split at h
      · rename_i l r hl hr
        simp only [Option.some.injEq, Prod.mk.injEq] at h
        obtain ⟨rfl, rfl⟩ := h
        obtain ⟨c1, _⟩ := hc
        refine valP_pure ?_
        simp only [pureOp, E, h1, hx, emb]
        unfold sliceBnds
        rw [loI_emb R hl, hiI_emb R hr]
        simp only
        rw [if_pos (by simpa using c1)]
      · cases h
    · rename_i sz ag z s h1 hx
      split at h
      · rename_i l r hl hr
        simp only [Option.some.injEq, Prod.mk.injEq] at h
        obtain ⟨rfl, rfl⟩ := h
        obtain ⟨c1, _⟩ := hc
        refine valP_pure ?_
        simp only [pureOp, E, h1, hx, emb]
        unfold sliceBnds
        rw [loI_emb R hl, hiI_emb R hr]
        simp only
        rw [if_pos c1]
      · cases h
    · rename_i m esz g sz ag z q o h1 hx
      split at h
      · rename_i l r hl hr
        unfold valP
        split
        · rename_i hy
          simp only [pureOp, E, h1, hx, emb] at hy
          cases hy
        cases hrow : trow H q with
        | none => rw [hrow] at h; cases h
        | some rw0 =>
          cases rw0 with
          | arr e xs =>
            rw [hrow] at h
            simp only at h
            cases hb : Nat.beq (R.sz e) esz && Nat.beq o 0 with
            | false => rw [hb] at h; cases h
            | true =>
              rw [hb] at h
              simp only [cond_true, Option.some.injEq, Prod.mk.injEq] at h
              obtain ⟨rfl, rfl⟩ := h
              obtain ⟨c1, c2, c3, _⟩ := hc
              simp only [Bool.and_eq_true] at hb
              have he := Nat.eq_of_beq_eq_true hb.1
              have ho := Nat.eq_of_beq_eq_true hb.2
              obtain ⟨k1, k2⟩ := subs_eq (o := 0) hl hr c1
              simp only [loadOp, E, h1, hx, emb, row_emb R hrow, embR]
              unfold sliceBnds
              rw [loI_emb R hl, hiI_emb R hr]
              simp only
              rw [if_pos c1]
              simp only
              rw [if_pos ⟨by rw [fm_length (hR.len e), he, ho, Nat.zero_add]; exact Nat.mul_le_mul_right _ c3, by omega⟩, k1, k2, ho, Nat.zero_add, Nat.add_zero]
          | cells cs' =>
            rw [hrow] at h
            simp only at h
            cases hb : Nat.ble (o + m * esz) cs'.length with
            | false => rw [hb] at h; cases h
            | true =>
              rw [hb] at h
              simp only [cond_true, Option.some.injEq, Prod.mk.injEq] at h
              obtain ⟨rfl, rfl⟩ := h
              obtain ⟨c1, c2, _⟩ := hc
              have hle := Nat.le_of_ble_eq_true hb
              simp only [loadOp, E, h1, hx, emb, row_emb R hrow, embR]
              unfold sliceBnds
              rw [loI_emb R hl, hiI_emb R hr]
              simp only
              rw [if_pos c1]
              simp only [embC_length]
              rw [if_pos ⟨hle, by omega⟩]
      · cases h
    · rename_i m esz g sz ag z cs1 h1 hx
      split at h
      · rename_i e he
        cases hb : Nat.beq (R.sz e) esz && Nat.beq cs1.length (m * esz) && Nat.blt 0 m with
        | false => rw [hb] at h; cases h
        | true =>
          rw [hb] at h
          simp only [cond_true] at h
          split at h
          · rename_i xs hd
            simp only [Option.some.injEq, Prod.mk.injEq] at h
            obtain ⟨_, rfl⟩ := h
            simp only [Bool.and_eq_true] at hb
            have b1 := Nat.eq_of_beq_eq_true hb.1.1
            have b2 := Nat.eq_of_beq_eq_true hb.1.2
            have b3 : 0 < m := by simpa using hb.2
            obtain ⟨d1, d2⟩ := decAll_ok R hR m cs1 xs (by rw [b1]; exact b2) hd
            unfold valP
            split
            · rename_i hy
              simp only [pureOp, E, h1, hx, emb] at hy
              cases hy
            · simp only [loadOp, E, h1, hx, emb, Option.map_none]
              have sb : sliceBnds m (none : Option LV) none = some (0, m) := by
                show (if (0 : Int) ≤ 0 ∧ (0 : Int) ≤ (m : Int) ∧ (m : Int) ≤ (m : Int) then some ((0 : Int).toNat, (m : Int).toNat) else none) = some (0, m)
                rw [if_pos ⟨by omega, by omega, by omega⟩, Int.toNat_natCast]; rfl
              rw [sb]
              simp only
              rw [if_pos ⟨by rw [embC_length, b2]; exact Nat.le_refl _, b3⟩, d1, d2, b1]
              have hl : (xs.flatMap (R.encL e)).length = m * esz := by rw [← d1, embC_length, b2]
              simp only [Nat.sub_zero, Nat.zero_mul, List.drop_zero]
              rw [List.take_of_length_le (by rw [hl]; exact Nat.le_refl _)]
          · cases h
      · cases h
    · cases h
  · -- len
    split at h
    · rename_i t x ht hx0
      split at h
      all_goals first | (cases h; done) | skip
      all_goals
        simp only [Option.some.injEq, Prod.mk.injEq] at h
        obtain ⟨rfl, rfl⟩ := h
        refine valP_pure ?_
        simp only [pureOp, ht, hx0, Option.bind_some, Option.map_some, E]
      all_goals first
        | (rename_i h1 hx; simp only [h1, hx, emb]; done)
        | (rename_i h1; simp only [h1, emb]; done)
        | (rename_i h1 _; simp only [h1, emb]; done)
        | (rename_i h1 hx; simp only [h1, hx, emb]; simp; done)
    · cases h
  · split at h
    · rename_i x r hl
      split at h
      · rename_i w hw
        simp only [Option.some.injEq, Prod.mk.injEq] at h
        obtain ⟨_, rfl⟩ := h
        refine valP_pure ?_
        simp only [pureOp, embL_eq (R := R), hl, embC, embC_eq]
        exact tmin_emb R _ _ _ hw
      · cases h
    · cases h
  · split at h
    · rename_i x r hl
      split at h
      · rename_i w hw
        simp only [Option.some.injEq, Prod.mk.injEq] at h
        obtain ⟨_, rfl⟩ := h
        refine valP_pure ?_
        simp only [pureOp, embL_eq (R := R), hl, embC, embC_eq]
        exact tmax_emb R _ _ _ hw
      · cases h
    · cases h
  · -- load
    refine valP_load ?_
    split at h
    · rename_i ti r o h1 hx
      split at h
      · rename_i ds hr
        split at h
        · rename_i w hw
          simp only [Option.some.injEq, Prod.mk.injEq] at h
          obtain ⟨_, rfl⟩ := h
          simp only [loadOp, E, h1, hx, emb, row_emb R hr, embR]
          exact tpart_emb R hw
        · cases h
      · cases h
    · rename_i ti ss r i o h1 hx
      split at h
      · rename_i e xs hr
        cases hb : Nat.beq ss (R.sz e) with
        | false => rw [hb] at h; cases h
        | true =>
          rw [hb] at h
          simp only [cond_true] at h
          split at h
          · rename_i w hw
            simp only [Option.some.injEq, Prod.mk.injEq] at h
            obtain ⟨rfl, rfl⟩ := h
            obtain ⟨c1, _⟩ := hc
            have he := Nat.eq_of_beq_eq_true hb
            simp only [loadOp, E, h1, hx, emb, row_emb R hr, embR]
            obtain ⟨s1, s2⟩ := fm_split (hR.len e) c1
            rw [s1, he, ← s2]
            refine lpart_mid ?_
            have := tpart_emb R hw
            rwa [hR.ok, getD_get _ c1] at this
          · cases h
      · cases h
    · rename_i ti ds h1 hx
      split at h
      · rename_i w hw
        simp only [Option.some.injEq, Prod.mk.injEq] at h
        obtain ⟨_, rfl⟩ := h
        simp only [loadOp, E, h1, hx, emb]
        exact tpart_emb R hw
      · cases h
    · cases h
  · -- pick, or
    split at h
    · rename_i p q hp hq
      simp only [Option.some.injEq, Prod.mk.injEq] at h
      obtain ⟨rfl, rfl⟩ := h
      refine valP_pure ?_
      simp only [pureOp, E, hp, hq, emb]
      cases p <;> simp [tO, constLV, scalarLV, upC, emb]
    · rename_i p g q hp hq
      simp only [Option.some.injEq, Prod.mk.injEq] at h
      obtain ⟨rfl, rfl⟩ := h
      refine valP_pure ?_
      simp only [pureOp, E, hp, hq, emb]
      cases p
      · have := hc.1 rfl; subst this; simp
      · simp [tO, constLV, scalarLV, upC, emb]
    · rename_i p hp hq
      simp only [Option.some.injEq, Prod.mk.injEq] at h
      obtain ⟨rfl, rfl⟩ := h
      obtain ⟨rfl, _⟩ := hc
      refine valP_pure ?_
      simp only [pureOp, E, hp, hq, emb]
      simp [tO, constLV, scalarLV, upC, emb]
    · cases h
  · -- pick, and
    split at h
    · rename_i p q hp hq
      simp only [Option.some.injEq, Prod.mk.injEq] at h
      obtain ⟨rfl, rfl⟩ := h
      refine valP_pure ?_
      simp only [pureOp, E, hp, hq, emb]
      cases p <;> simp [tO, constLV, scalarLV, upC, emb]
    · rename_i p g q hp hq
      simp only [Option.some.injEq, Prod.mk.injEq] at h
      obtain ⟨rfl, rfl⟩ := h
      refine valP_pure ?_
      simp only [pureOp, E, hp, hq, emb]
      cases p
      · simp [tO, constLV, scalarLV, upC, emb]
      · have := hc.1 rfl; subst this; simp
    · rename_i p hp hq
      simp only [Option.some.injEq, Prod.mk.injEq] at h
      obtain ⟨rfl, rfl⟩ := h
      obtain ⟨rfl, _⟩ := hc
      refine valP_pure ?_
      simp only [pureOp, E, hp, hq, emb]
      simp [tO, constLV, scalarLV, upC, emb]
    · cases h
  · exact hg h

end
end Go.Lite
