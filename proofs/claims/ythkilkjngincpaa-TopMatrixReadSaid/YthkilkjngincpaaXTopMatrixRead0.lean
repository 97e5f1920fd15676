/- Printed by program: the functions' code in few words; the kernel checks it against the translation. -/
import Derived.Test.YthkilkjngincpaaRows
import Derived.Test.YthkilkjngincpaaLiteTP
namespace Go.Proofs.Ythkilkjngincpaa
open Go Go.Lite
set_option linter.unusedVariables false

/-- Int -/
abbrev Ey : Nat := 0
/-- Bool -/
abbrev Eo : Nat := 1
/-- Int -/
abbrev Ei : Nat := 2
/-- Int × Int × Int × Int × Int × Int -/
abbrev E6i : Nat := 6
@[reducible] def A (e : Nat) : Type := match e with
  | 0 => Int
  | 1 => Bool
  | 2 => Int
  | 3 => Int × Int × Int × Int × Int
  | 4 => Int × Int × List (Int)
  | 5 => Int × Int × Int × Int
  | 6 => Int × Int × Int × Int × Int × Int
  | _ => Unit
def eSz (e : Nat) : Nat := match e with
  | 0 => 1
  | 1 => 1
  | 2 => 1
  | 3 => 5
  | 4 => 3
  | 5 => 4
  | 6 => 6
  | _ => 1
def eD (e : Nat) : A e := match e with
  | 0 => (0 : Int)
  | 1 => false
  | 2 => (0 : Int)
  | 3 => ((0 : Int), (0 : Int), (0 : Int), (0 : Int), (0 : Int))
  | 4 => ((0 : Int), (0 : Int), ([] : List (Int)))
  | 5 => ((0 : Int), (0 : Int), (0 : Int), (0 : Int))
  | 6 => ((0 : Int), (0 : Int), (0 : Int), (0 : Int), (0 : Int), (0 : Int))
  | _ + 7 => ()
def encL0 (x : Int) : List LV := [.int .u8 (x)]
def enc0 (x : Int) : List (TV A) := [.int .u8 (x)]
def dec0 (cs : List (TV A)) : Option (Int) := match cs with
  | [.int .u8 x0] => some x0
  | _ => none
def encL1 (x : Bool) : List LV := [.bool (x)]
def enc1 (x : Bool) : List (TV A) := [.bool (x)]
def dec1 (cs : List (TV A)) : Option (Bool) := match cs with
  | [.bool x0] => some x0
  | _ => none
def encL2 (x : Int) : List LV := [.int .i64 (x)]
def enc2 (x : Int) : List (TV A) := [.int .i64 (x)]
def dec2 (cs : List (TV A)) : Option (Int) := match cs with
  | [.int .i64 x0] => some x0
  | _ => none
def encL3 (x : Int × Int × Int × Int × Int) : List LV := [.int .i64 (x.1), .int .i64 (x.2.1), .int .i64 (x.2.2.1), .int .i64 (x.2.2.2.1), .int .i64 (x.2.2.2.2)]
def enc3 (x : Int × Int × Int × Int × Int) : List (TV A) := [.int .i64 (x.1), .int .i64 (x.2.1), .int .i64 (x.2.2.1), .int .i64 (x.2.2.2.1), .int .i64 (x.2.2.2.2)]
def dec3 (cs : List (TV A)) : Option (Int × Int × Int × Int × Int) := match cs with
  | [.int .i64 x0, .int .i64 x1, .int .i64 x2, .int .i64 x3, .int .i64 x4] => some (x0, x1, x2, x3, x4)
  | _ => none
def encL4 (x : Int × Int × List (Int)) : List LV := [.int .i64 (x.1), .int .i64 (x.2.1), .ps 1 (List.length (x.2.2)) (List.flatMap encL0 (x.2.2))]
def enc4 (x : Int × Int × List (Int)) : List (TV A) := [.int .i64 (x.1), .int .i64 (x.2.1), .lst 0 (x.2.2)]
def dec4 (cs : List (TV A)) : Option (Int × Int × List (Int)) := match cs with
  | [.int .i64 x0, .int .i64 x1, .lst 0 x2] => some (x0, x1, x2)
  | _ => none
def encL5 (x : Int × Int × Int × Int) : List LV := [.int .i64 (x.1), .int .i64 (x.2.1), .int .i64 (x.2.2.1), .int .i64 (x.2.2.2)]
def enc5 (x : Int × Int × Int × Int) : List (TV A) := [.int .i64 (x.1), .int .i64 (x.2.1), .int .i64 (x.2.2.1), .int .i64 (x.2.2.2)]
def dec5 (cs : List (TV A)) : Option (Int × Int × Int × Int) := match cs with
  | [.int .i64 x0, .int .i64 x1, .int .i64 x2, .int .i64 x3] => some (x0, x1, x2, x3)
  | _ => none
def encL6 (x : Int × Int × Int × Int × Int × Int) : List LV := [.int .i64 (x.1), .int .i64 (x.2.1), .int .i64 (x.2.2.1), .int .i64 (x.2.2.2.1), .int .i64 (x.2.2.2.2.1), .int .i64 (x.2.2.2.2.2)]
def enc6 (x : Int × Int × Int × Int × Int × Int) : List (TV A) := [.int .i64 (x.1), .int .i64 (x.2.1), .int .i64 (x.2.2.1), .int .i64 (x.2.2.2.1), .int .i64 (x.2.2.2.2.1), .int .i64 (x.2.2.2.2.2)]
def dec6 (cs : List (TV A)) : Option (Int × Int × Int × Int × Int × Int) := match cs with
  | [.int .i64 x0, .int .i64 x1, .int .i64 x2, .int .i64 x3, .int .i64 x4, .int .i64 x5] => some (x0, x1, x2, x3, x4, x5)
  | _ => none
def eEncL (e : Nat) (a : A e) : List LV := match e, a with
  | 0, a => encL0 a
  | 1, a => encL1 a
  | 2, a => encL2 a
  | 3, a => encL3 a
  | 4, a => encL4 a
  | 5, a => encL5 a
  | 6, a => encL6 a
  | _ + 7, _ => [.nilp]
def eEnc (e : Nat) (a : A e) : List (TV A) := match e, a with
  | 0, a => enc0 a
  | 1, a => enc1 a
  | 2, a => enc2 a
  | 3, a => enc3 a
  | 4, a => enc4 a
  | 5, a => enc5 a
  | 6, a => enc6 a
  | _ + 7, _ => [.nilp]
def eDec (e : Nat) (cs : List (TV A)) : Option (A e) := match e with
  | 0 => dec0 cs
  | 1 => dec1 cs
  | 2 => dec2 cs
  | 3 => dec3 cs
  | 4 => dec4 cs
  | 5 => dec5 cs
  | 6 => dec6 cs
  | _ + 7 => none
def eEl (t : Nat) : Option Nat := match t with
  | 22 => some 0
  | 41 => some 1
  | 38 => some 2
  | 61 => some 3
  | 64 => some 4
  | 67 => some 4
  | 70 => some 5
  | 85 => some 0
  | 125 => some 6
  | 127 => some 2
  | 136 => some 2
  | _ => none
def fl (e : Nat) : Bool := match e with
  | 0 => true
  | 1 => true
  | 2 => true
  | 3 => true
  | 4 => false
  | 5 => true
  | 6 => true
  | _ => false
def eByt (e : Nat) : Option (List (A e) → List Int) := match e with
  | 0 => some fun xs => xs
  | _ => none
theorem flat1 : ∀ xs : List Int, xs.flatMap (fun x => [LV.int .u8 x]) = xs.map (LV.int .u8)
  | [] => rfl
  | x :: r => congrArg (LV.int .u8 x :: ·) (flat1 r)
def R : Reg A := ⟨eSz, eD, eEncL, eEnc, eDec, eEl, eByt⟩
theorem R_ok : R.Ok where
  pos e := by show 0 < eSz e; unfold eSz; split <;> decide
  len e a := match e, a with
    | 0, a => rfl
    | 1, a => rfl
    | 2, a => rfl
    | 3, a => rfl
    | 4, a => rfl
    | 5, a => rfl
    | 6, a => rfl
    | e + 7, a => rfl
  ok e a := match e, a with
    | 0, a => rfl
    | 1, a => rfl
    | 2, a => rfl
    | 3, a => rfl
    | 4, a => rfl
    | 5, a => rfl
    | 6, a => rfl
    | e + 7, a => rfl
  dec e cs a h := match e, a, h with
    | 0, a, h => by
      replace h : dec0 cs = some a := h
      unfold dec0 at h
      split at h
      · cases h; rfl
      · cases h
    | 1, a, h => by
      replace h : dec1 cs = some a := h
      unfold dec1 at h
      split at h
      · cases h; rfl
      · cases h
    | 2, a, h => by
      replace h : dec2 cs = some a := h
      unfold dec2 at h
      split at h
      · cases h; rfl
      · cases h
    | 3, a, h => by
      replace h : dec3 cs = some a := h
      unfold dec3 at h
      split at h
      · cases h; rfl
      · cases h
    | 4, a, h => by
      replace h : dec4 cs = some a := h
      unfold dec4 at h
      split at h
      · cases h; rfl
      · cases h
    | 5, a, h => by
      replace h : dec5 cs = some a := h
      unfold dec5 at h
      split at h
      · cases h; rfl
      · cases h
    | 6, a, h => by
      replace h : dec6 cs = some a := h
      unfold dec6 at h
      split at h
      · cases h; rfl
      · cases h
    | e + 7, a, h => by cases h
  free e a := match e, a with
    | 0, a => rfl
    | 1, a => rfl
    | 2, a => rfl
    | 3, a => rfl
    | 4, a => rfl
    | 5, a => rfl
    | 6, a => rfl
    | e + 7, a => rfl
  sol e a := match e, a with
    | 0, a => rfl
    | 1, a => rfl
    | 2, a => rfl
    | 3, a => rfl
    | 4, a => rfl
    | 5, a => rfl
    | 6, a => rfl
    | e + 7, a => rfl
  byt e f h xs := match e, f, h with
    | 0, f, h => by cases h; exact flat1 xs
    | 1, f, h => by cases h
    | 2, f, h => by cases h
    | 3, f, h => by cases h
    | 4, f, h => by cases h
    | 5, f, h => by cases h
    | 6, f, h => by cases h
    | e + 7, f, h => by cases h
theorem fl_ok : ∀ e, fl e = true → ∀ a, psfreeL (R.encL e a) = true := fun e h a => match e, h, a with
  | 0, h, a => rfl
  | 1, h, a => rfl
  | 2, h, a => rfl
  | 3, h, a => rfl
  | 4, h, a => by cases h
  | 5, h, a => rfl
  | 6, h, a => rfl
  | e + 7, h, a => rfl

def tyL : List (Nat × TI) := [(0, ⟨.other, 1, false, [.dead]⟩),
  (3, ⟨.int .i64, 1, false, [.int .i64 0]⟩),
  (25, ⟨.int .i64, 1, false, [.int .i64 0]⟩),
  (22, ⟨.slice 1 1 [.int .u8 0], 1, false, [.nils]⟩),
  (29, ⟨.struct [(0, 1, false), (1, 1, false), (2, 1, false)], 3, true, [.int .i64 0, .int .i64 0, .nils]⟩),
  (5, ⟨.int .u8, 1, false, [.int .u8 0]⟩),
  (41, ⟨.slice 1 1 [.bool false], 1, false, [.nils]⟩),
  (38, ⟨.slice 1 8 [.int .i64 0], 1, false, [.nils]⟩),
  (4, ⟨.bool, 1, false, [.bool false]⟩),
  (52, ⟨.struct [(0, 1, false), (1, 1, false), (2, 1, false), (3, 1, false), (4, 1, false), (5, 1, false), (6, 1, false), (7, 1, false)], 8, true, [.int .i64 0, .int .i64 0, .int .i64 0, .int .i64 0, .int .i64 0, .int .i64 0, .int .i64 0, .nils]⟩),
  (56, ⟨.struct [(0, 1, false), (1, 1, false), (2, 1, false)], 3, true, [.int .i64 0, .int .i64 0, .nils]⟩),
  (9, ⟨.str, 1, false, [.str ⟨([] : List UInt8).toArray⟩]⟩),
  (61, ⟨.slice 5 40 [.int .i64 0, .int .i64 0, .int .i64 0, .int .i64 0, .int .i64 0], 1, false, [.nils]⟩),
  (64, ⟨.slice 3 40 [.int .i64 0, .int .i64 0, .nils], 1, false, [.nils]⟩),
  (68, ⟨.struct [(0, 1, false), (1, 1, false), (2, 1, false)], 3, true, [.int .i64 0, .int .i64 0, .nils]⟩),
  (67, ⟨.slice 3 40 [.int .i64 0, .int .i64 0, .nils], 1, false, [.nils]⟩),
  (70, ⟨.slice 4 32 [.int .i64 0, .int .i64 0, .int .i64 0, .int .i64 0], 1, false, [.nils]⟩),
  (74, ⟨.struct [(0, 1, false), (1, 1, false), (2, 1, false), (3, 1, false)], 4, true, [.int .i64 0, .int .i64 0, .int .i64 0, .int .i64 0]⟩),
  (81, ⟨.other, 1, false, [.nilp]⟩),
  (85, ⟨.slice 1 1 [.int .u8 0], 1, false, [.nils]⟩),
  (105, ⟨.other, 1, false, [.nilp]⟩),
  (113, ⟨.struct [(0, 1, false), (1, 1, false)], 2, true, [.int .i64 0, .int .i64 0]⟩),
  (117, ⟨.struct [(0, 1, false), (1, 1, false), (2, 1, false), (3, 1, false), (4, 1, false)], 5, true, [.int .i64 0, .int .i64 0, .int .i64 0, .int .i64 0, .int .i64 0]⟩),
  (121, ⟨.other, 1, false, [.nilf]⟩),
  (125, ⟨.slice 6 48 [.int .i64 0, .int .i64 0, .int .i64 0, .int .i64 0, .int .i64 0, .int .i64 0], 1, false, [.nils]⟩),
  (127, ⟨.arr 6 1 false, 6, true, [.int .i64 0, .int .i64 0, .int .i64 0, .int .i64 0, .int .i64 0, .int .i64 0]⟩),
  (134, ⟨.struct [(0, 1, false), (1, 1, false), (2, 1, false)], 3, true, [.int .i64 0, .int .i64 0, .int .i64 0]⟩),
  (135, ⟨.other, 1, false, [.nilf]⟩),
  (136, ⟨.arr 4 1 false, 4, true, [.int .i64 0, .int .i64 0, .int .i64 0, .int .i64 0]⟩),
  (137, ⟨.other, 1, false, [.nilf]⟩)]
theorem tyL_ok : okL (tiOf Try.prog) tyL := ⟨by kernel_rfl, by kernel_rfl, by kernel_rfl, by kernel_rfl, by kernel_rfl, by kernel_rfl, by kernel_rfl, by kernel_rfl, by kernel_rfl, by kernel_rfl, by kernel_rfl, by kernel_rfl, by kernel_rfl, by kernel_rfl, by kernel_rfl, by kernel_rfl, by kernel_rfl, by kernel_rfl, by kernel_rfl, by kernel_rfl, by kernel_rfl, by kernel_rfl, by kernel_rfl, by kernel_rfl, by kernel_rfl, by kernel_rfl, by kernel_rfl, by kernel_rfl, by kernel_rfl, by kernel_rfl, trivial⟩
def eqL : List (Nat × List Nat) := [(74, [0, 0, 0, 0]), (117, [0, 0, 0, 0, 0]), (113, [0, 0])]
theorem eqL_ok : okL (eqOf Try.prog) eqL := ⟨by kernel_rfl, by kernel_rfl, by kernel_rfl, trivial⟩
def nlL : List (Nat × Nat) := [(25, 0), (3, 0), (5, 0), (9, 0), (74, 0), (117, 0), (113, 0), (4, 0), (22, 3)]
theorem nlL_ok : okN (nilOf Try.prog) nlL := ⟨by kernel_rfl, by kernel_rfl, by kernel_rfl, by kernel_rfl, by kernel_rfl, by kernel_rfl, by kernel_rfl, by kernel_rfl, by kernel_rfl, trivial⟩
noncomputable def ty : TT := ⟨lookT tyL (tiOf Try.prog), lookT eqL (eqOf Try.prog), lookN nlL (nilOf Try.prog)⟩
theorem ty_ok : ty = ttOf Try.prog := by
  unfold ty ttOf
  rw [lookT_eq tyL_ok, lookT_eq eqL_ok, lookN_eq nlL_ok]
def Wy (x : Int) : Prop := rng .u8 x
def Wi (x : Int) : Prop := rng .i64 x
theorem rdy : R.d Ey = (0 : Int) := rfl
theorem rdo : R.d Eo = false := rfl
theorem rdi : R.d Ei = (0 : Int) := rfl
theorem env : Env A R Try.prog ty fl := ⟨R_ok, ty_ok, fl_ok, by kernel_rfl⟩

abbrev tZ (a : Nat) : Operand := .tmp a
abbrev ciZ (k : Int) : Operand := .const (.int .i64 k)
abbrev mvZ (d a : Nat) : SO := ⟨some d, .move (.tmp a), none⟩
abbrev ldZ (d t a : Nat) : SO := ⟨some d, .load t (.tmp a), none⟩
abbrev faZ (d t a i : Nat) : SO := ⟨some d, .fieldAddr t (.tmp a) i, none⟩
abbrev iaZ (d t a b : Nat) : SO := ⟨some d, .indexAddr t (.tmp a) (.tmp b), none⟩
abbrev asZ (d a : Nat) : SO := ⟨some d, .assign (.tmp a), none⟩
abbrev exZ (d a i : Nat) : SO := ⟨some d, .extract (.tmp a) i, none⟩
abbrev boZ (d : Nat) (o : BinOp) (t a b r : Nat) : SO := ⟨some d, .binOp o t (.tmp a) (.tmp b) r, none⟩
abbrev bcZ (d : Nat) (o : BinOp) (t a : Nat) (k : Int) (r : Nat) : SO := ⟨some d, .binOp o t (.tmp a) (.const (.int .i64 k)) r, none⟩
abbrev stZ (t a b : Nat) : SO := ⟨none, .store t (.tmp a) (.tmp b), none⟩
abbrev gZ (g : Nat) (b : Bool) (s : SO) : SO := ⟨s.dst, s.op, some (g, b)⟩
abbrev rZ (d : Nat) (o : Op) : SO := ⟨some d, o, none⟩

end Go.Proofs.Ythkilkjngincpaa
namespace Go.Proofs.Ythkilkjngincpaa
open Go Go.Lite
set_option linter.unusedVariables false

/-- printworks/linear.Encode -/
def linear_Encode_r0 : List SO := [rZ 2 (.assign (.const (.slice none 0 0))), rZ 3 (.assign (ciZ 0))]
def linear_Encode_r1 : List SO := [mvZ 11 0, rZ 12 (.call ⟨(.value (.func (71 : Nat))), #[(tZ 11)], #[9]⟩), mvZ 10 12, exZ 13 10 0, exZ 14 10 1, asZ 4 13, asZ 5 14]
def linear_Encode_r2 : List SO := [mvZ 15 5, bcZ 16 .neq 25 15 0 25]
def linear_Encode_r3 : List SO := [mvZ 17 5, rZ 2 (.assign (.const (.slice none 0 0))), asZ 3 17]
def linear_Encode_r4 : List SO := [rZ 18 (.call ⟨(.value (.func (72 : Nat))), #[], #[]⟩), asZ 6 18]
def linear_Encode_r5 : List SO := [mvZ 19 6, rZ 20 (.indexAddr 125 (tZ 19) (ciZ 101)), rZ 21 (.slice 127 (tZ 20) none none none), rZ 22 (.call ⟨(.builtin .append), #[(.const (.slice none 0 0)), (tZ 21)], #[38, 38]⟩), asZ 7 22]
def linear_Encode_r6 : List SO := [mvZ 23 4, rZ 24 (.buildSlice 38 1 #[(0, (ciZ 102))]), rZ 25 (.call ⟨(.builtin .append), #[(tZ 23), (tZ 24)], #[38, 38]⟩), rZ 26 (.call ⟨(.builtin .len), #[(tZ 25)], #[38]⟩), rZ 27 (.move (ciZ 0))]
def linear_Encode_r7 : List SO := [boZ 28 .lss 3 27 26 3]
def linear_Encode_r8 : List SO := [iaZ 29 38 25 27, ldZ 30 3 29, asZ 9 30]
def linear_Encode_r9 : List SO := [mvZ 31 7, mvZ 32 6, mvZ 33 9, iaZ 34 125 32 33, rZ 35 (.slice 127 (tZ 34) none none none), rZ 36 (.call ⟨(.builtin .append), #[(tZ 31), (tZ 35)], #[38, 38]⟩), asZ 7 36]
def linear_Encode_r10 : List SO := [bcZ 37 .add 3 27 1 3, mvZ 27 37]
def linear_Encode_r11 : List SO := [mvZ 38 7, rZ 39 (.buildSlice 38 1 #[(0, (ciZ 2))]), rZ 40 (.call ⟨(.builtin .append), #[(tZ 38), (tZ 39)], #[38, 38]⟩), asZ 2 40, rZ 3 (.assign (ciZ 0))]
def linear_Encode_c : SF := ⟨41, (.seq (.reg linear_Encode_r0)
  (.seq (.reg linear_Encode_r1)
  (.seq (.seq (.reg linear_Encode_r2)
  (.cond (tZ 16) (.seq (.reg linear_Encode_r3)
  .ret) .skip))
  (.seq (.reg linear_Encode_r4)
  (.seq (.reg linear_Encode_r5)
  (.seq (.seq (.reg linear_Encode_r6)
  (.block 0 (.loop (.seq (.reg linear_Encode_r7)
  (.seq (.cond (tZ 28) .skip (.exit 0))
  (.seq (.block 1 (.seq (.reg linear_Encode_r8)
  (.reg linear_Encode_r9)))
  (.reg linear_Encode_r10)))))))
  (.seq (.reg linear_Encode_r11)
  .ret))))))), [.tmp 2, .tmp 3]⟩
theorem linear_Encode_s : slimF Try.prog 52 = some linear_Encode_c := by kernel_rfl
abbrev linear_Encode_f : Nat := 52
/-- printworks/linear.Decode -/
def linear_Decode_r0 : List SO := [rZ 2 (.assign (.const (.string ⟨([] : List UInt8).toArray⟩))), rZ 3 (.assign (ciZ 0))]
def linear_Decode_r1 : List SO := [mvZ 14 0, rZ 15 (.call ⟨(.builtin .len), #[(tZ 14)], #[38]⟩), asZ 4 15]
def linear_Decode_r2 : List SO := [mvZ 16 4, bcZ 17 .gtr 3 16 85 3]
def linear_Decode_r3 : List SO := [rZ 2 (.assign (.const (.string ⟨([] : List UInt8).toArray⟩))), rZ 3 (.assign (ciZ 2))]
def linear_Decode_r4 : List SO := [mvZ 18 4, bcZ 19 .lss 3 18 25 3]
def linear_Decode_r5 : List SO := [rZ 2 (.assign (.const (.string ⟨([] : List UInt8).toArray⟩))), rZ 3 (.assign (ciZ 12))]
def linear_Decode_r6 : List SO := [mvZ 20 4, bcZ 21 .rem 3 20 6 3, bcZ 22 .neq 3 21 1 3]
def linear_Decode_r7 : List SO := [rZ 2 (.assign (.const (.string ⟨([] : List UInt8).toArray⟩))), rZ 3 (.assign (ciZ 4))]
def linear_Decode_r8 : List SO := [mvZ 23 0, rZ 24 (.call ⟨(.builtin .len), #[(tZ 23)], #[38]⟩), rZ 25 (.move (ciZ 0))]
def linear_Decode_r9 : List SO := [boZ 26 .lss 3 25 24 3]
def linear_Decode_r10 : List SO := [iaZ 27 38 23 25, ldZ 28 3 27, asZ 6 28]
def linear_Decode_r11 : List SO := [mvZ 29 6, bcZ 30 .lss 3 29 1 3, mvZ 31 30, gZ 31 false (mvZ 32 6), gZ 31 false (bcZ 33 .gtr 3 32 1024 3), rZ 34 (.pick (tZ 31) (.const (.bool true)) (tZ 33))]
def linear_Decode_r12 : List SO := [rZ 2 (.assign (.const (.string ⟨([] : List UInt8).toArray⟩))), rZ 3 (.assign (ciZ 3))]
def linear_Decode_r13 : List SO := [bcZ 35 .add 3 25 1 3, mvZ 25 35]
def linear_Decode_r14 : List SO := [rZ 36 (.call ⟨(.value (.func (72 : Nat))), #[], #[]⟩), asZ 7 36]
def linear_Decode_r15 : List SO := [mvZ 37 7, mvZ 38 0, rZ 39 (.call ⟨(.value (.func (73 : Nat))), #[(tZ 37), (tZ 38)], #[125, 38]⟩), bcZ 40 .neq 3 39 101 3]
def linear_Decode_r16 : List SO := [mvZ 41 4, rZ 42 (.makeSlice 38 (tZ 41) (tZ 41)), asZ 8 42]
def linear_Decode_r17 : List SO := [mvZ 43 0, rZ 44 (.call ⟨(.builtin .len), #[(tZ 43)], #[38]⟩), rZ 45 (.move (ciZ 0))]
def linear_Decode_r18 : List SO := [boZ 46 .lss 3 45 44 3]
def linear_Decode_r19 : List SO := [mvZ 47 45, iaZ 48 38 43 45, ldZ 49 3 48, asZ 9 47, asZ 10 49]
def linear_Decode_r20 : List SO := [mvZ 50 8, mvZ 51 4, bcZ 52 .sub 3 51 1 3, mvZ 53 9, boZ 54 .sub 3 52 53 3, mvZ 55 10, iaZ 56 38 50 54, stZ 3 56 55]
def linear_Decode_r21 : List SO := [bcZ 57 .add 3 45 1 3, mvZ 45 57]
def linear_Decode_r22 : List SO := [mvZ 58 8, asZ 0 58]
def linear_Decode_r23 : List SO := [rZ 11 (.assign (.const (.slice none 0 0)))]
def linear_Decode_r24 : List SO := [mvZ 59 0, rZ 60 (.call ⟨(.builtin .len), #[(tZ 59)], #[38]⟩), bcZ 61 .gtr 3 60 1 3]
def linear_Decode_r25 : List SO := [mvZ 64 7, mvZ 65 0, rZ 66 (.call ⟨(.value (.func (73 : Nat))), #[(tZ 64), (tZ 65)], #[125, 38]⟩), asZ 12 66]
def linear_Decode_r26 : List SO := [mvZ 67 12, bcZ 68 .lss 3 67 0 3]
def linear_Decode_r27 : List SO := [rZ 2 (.assign (.const (.string ⟨([] : List UInt8).toArray⟩))), rZ 3 (.assign (ciZ 4))]
def linear_Decode_r28 : List SO := [mvZ 69 11, mvZ 70 12, rZ 71 (.buildSlice 38 1 #[(0, (tZ 70))]), rZ 72 (.call ⟨(.builtin .append), #[(tZ 69), (tZ 71)], #[38, 38]⟩), asZ 11 72]
def linear_Decode_r29 : List SO := [mvZ 62 0, rZ 63 (.slice 38 (tZ 62) (some (ciZ 6)) none none), asZ 0 63]
def linear_Decode_r30 : List SO := [mvZ 73 11, rZ 74 (.indexAddr 38 (tZ 73) (ciZ 0)), ldZ 75 3 74, bcZ 76 .neq 3 75 101 3, mvZ 77 76, gZ 77 false (mvZ 78 11), gZ 77 false (mvZ 79 11), gZ 77 false (rZ 80 (.call ⟨(.builtin .len), #[(tZ 79)], #[38]⟩)), gZ 77 false (bcZ 81 .sub 3 80 1 3), gZ 77 false (iaZ 82 38 78 81), gZ 77 false (ldZ 83 3 82), gZ 77 false (bcZ 84 .neq 3 83 102 3), rZ 85 (.pick (tZ 77) (.const (.bool true)) (tZ 84))]
def linear_Decode_r31 : List SO := [rZ 2 (.assign (.const (.string ⟨([] : List UInt8).toArray⟩))), rZ 3 (.assign (ciZ 4))]
def linear_Decode_r32 : List SO := [mvZ 86 11, mvZ 87 11, rZ 88 (.call ⟨(.builtin .len), #[(tZ 87)], #[38]⟩), bcZ 89 .sub 3 88 2 3, iaZ 90 38 86 89, ldZ 91 3 90, asZ 13 91]
def linear_Decode_r33 : List SO := [mvZ 92 11, mvZ 93 11, rZ 94 (.call ⟨(.builtin .len), #[(tZ 93)], #[38]⟩), bcZ 95 .sub 3 94 2 3, rZ 96 (.slice 38 (tZ 92) (some (ciZ 1)) (some (tZ 95)) none), asZ 11 96]
def linear_Decode_r34 : List SO := [mvZ 97 11, rZ 98 (.call ⟨(.value (.func (74 : Nat))), #[(tZ 97)], #[38]⟩), mvZ 99 13, boZ 100 .neq 3 98 99 3]
def linear_Decode_r35 : List SO := [rZ 2 (.assign (.const (.string ⟨([] : List UInt8).toArray⟩))), rZ 3 (.assign (ciZ 11))]
def linear_Decode_r36 : List SO := [mvZ 101 11, rZ 102 (.call ⟨(.value (.func (75 : Nat))), #[(tZ 101)], #[38]⟩), exZ 103 102 0, exZ 104 102 1, asZ 2 103, asZ 3 104]
def linear_Decode_c : SF := ⟨105, (.seq (.reg linear_Decode_r0)
  (.seq (.reg linear_Decode_r1)
  (.seq (.seq (.reg linear_Decode_r2)
  (.cond (tZ 17) (.seq (.reg linear_Decode_r3)
  .ret) .skip))
  (.seq (.seq (.reg linear_Decode_r4)
  (.cond (tZ 19) (.seq (.reg linear_Decode_r5)
  .ret) .skip))
  (.seq (.seq (.reg linear_Decode_r6)
  (.cond (tZ 22) (.seq (.reg linear_Decode_r7)
  .ret) .skip))
  (.seq (.seq (.reg linear_Decode_r8)
  (.block 0 (.loop (.seq (.reg linear_Decode_r9)
  (.seq (.cond (tZ 26) .skip (.exit 0))
  (.seq (.block 1 (.seq (.reg linear_Decode_r10)
  (.seq (.reg linear_Decode_r11)
  (.cond (tZ 34) (.seq (.reg linear_Decode_r12)
  .ret) .skip))))
  (.reg linear_Decode_r13)))))))
  (.seq (.reg linear_Decode_r14)
  (.seq (.seq (.reg linear_Decode_r15)
  (.cond (tZ 40) (.seq (.reg linear_Decode_r16)
  (.seq (.seq (.reg linear_Decode_r17)
  (.block 2 (.loop (.seq (.reg linear_Decode_r18)
  (.seq (.cond (tZ 46) .skip (.exit 2))
  (.seq (.block 3 (.seq (.reg linear_Decode_r19)
  (.reg linear_Decode_r20)))
  (.reg linear_Decode_r21)))))))
  (.reg linear_Decode_r22))) .skip))
  (.seq (.reg linear_Decode_r23)
  (.seq (.block 4 (.loop (.seq (.seq (.reg linear_Decode_r24)
  (.cond (tZ 61) .skip (.exit 4)))
  (.seq (.block 5 (.seq (.reg linear_Decode_r25)
  (.seq (.seq (.reg linear_Decode_r26)
  (.cond (tZ 68) (.seq (.reg linear_Decode_r27)
  .ret) .skip))
  (.reg linear_Decode_r28))))
  (.reg linear_Decode_r29)))))
  (.seq (.seq (.reg linear_Decode_r30)
  (.cond (tZ 85) (.seq (.reg linear_Decode_r31)
  .ret) .skip))
  (.seq (.reg linear_Decode_r32)
  (.seq (.seq (.reg linear_Decode_r33)
  (.seq (.reg linear_Decode_r34)
  (.cond (tZ 100) (.seq (.reg linear_Decode_r35)
  .ret) .skip)))
  (.seq (.reg linear_Decode_r36)
  .ret)))))))))))))), [.tmp 2, .tmp 3]⟩
theorem linear_Decode_s : slimF Try.prog 53 = some linear_Decode_c := by kernel_rfl
abbrev linear_Decode_f : Nat := 53
/-- printworks/linear.split -/
def linear_split_r0 : List SO := [rZ 2 (.assign (.const (.slice none 0 0))), rZ 3 (.assign (ciZ 0))]
def linear_split_r1 : List SO := [mvZ 7 0, rZ 8 (.call ⟨(.builtin .len), #[(tZ 7)], #[9]⟩), asZ 4 8]
def linear_split_r2 : List SO := [mvZ 10 4, bcZ 11 .eql 3 10 0 3, asZ 9 11]
def linear_split_r3 : List SO := [rZ 2 (.assign (.const (.slice none 0 0))), rZ 3 (.assign (ciZ 1))]
def linear_split_r4 : List SO := [mvZ 13 4, bcZ 14 .gtr 3 13 20 3, asZ 12 14]
def linear_split_r5 : List SO := [rZ 2 (.assign (.const (.slice none 0 0))), rZ 3 (.assign (ciZ 2))]
def linear_split_r6 : List SO := [mvZ 15 0, rZ 16 (.call ⟨(.builtin .len), #[(tZ 15)], #[9]⟩), rZ 17 (.move (ciZ 0))]
def linear_split_r7 : List SO := [boZ 18 .lss 3 17 16 3]
def linear_split_r8 : List SO := [mvZ 19 17, asZ 5 19]
def linear_split_r9 : List SO := [mvZ 20 0, mvZ 21 5, rZ 22 (.index 9 (tZ 20) (tZ 21)), rZ 23 (.binOp .lss 5 (tZ 22) (.const (.int .u8 48)) 5), mvZ 24 23, gZ 24 false (mvZ 25 0), gZ 24 false (mvZ 26 5), gZ 24 false (rZ 27 (.index 9 (tZ 25) (tZ 26))), gZ 24 false (rZ 28 (.binOp .gtr 5 (tZ 27) (.const (.int .u8 57)) 5)), rZ 29 (.pick (tZ 24) (.const (.bool true)) (tZ 28))]
def linear_split_r10 : List SO := [rZ 2 (.assign (.const (.slice none 0 0))), rZ 3 (.assign (ciZ 5))]
def linear_split_r11 : List SO := [bcZ 30 .add 3 17 1 3, mvZ 17 30]
def linear_split_r12 : List SO := [rZ 6 (.assign (.const (.slice none 0 0)))]
def linear_split_r13 : List SO := [mvZ 31 0, rZ 32 (.call ⟨(.builtin .len), #[(tZ 31)], #[9]⟩), bcZ 33 .rem 3 32 2 3, bcZ 34 .eql 3 33 1 3]
def linear_split_r14 : List SO := [mvZ 35 6, rZ 36 (.buildSlice 38 1 #[(0, (ciZ 100))]), rZ 37 (.call ⟨(.builtin .append), #[(tZ 35), (tZ 36)], #[38, 38]⟩), mvZ 38 0, rZ 39 (.binOp .add 9 (.const (.string ⟨([48] : List UInt8).toArray⟩)) (tZ 38) 9), asZ 6 37, asZ 0 39]
def linear_split_r15 : List SO := [mvZ 40 0, rZ 41 (.call ⟨(.builtin .len), #[(tZ 40)], #[9]⟩), bcZ 42 .gtr 3 41 0 3]
def linear_split_r16 : List SO := [mvZ 45 6, mvZ 46 0, rZ 47 (.index 9 (tZ 46) (ciZ 0)), rZ 48 (.binOp .sub 5 (tZ 47) (.const (.int .u8 48)) 5), rZ 49 (.convert 5 3 (tZ 48)), rZ 50 (.binOp .mul 3 (ciZ 10) (tZ 49) 3), mvZ 51 0, rZ 52 (.index 9 (tZ 51) (ciZ 1)), rZ 53 (.binOp .sub 5 (tZ 52) (.const (.int .u8 48)) 5), rZ 54 (.convert 5 3 (tZ 53)), boZ 55 .add 3 50 54 3, rZ 56 (.buildSlice 38 1 #[(0, (tZ 55))]), rZ 57 (.call ⟨(.builtin .append), #[(tZ 45), (tZ 56)], #[38, 38]⟩), asZ 6 57]
def linear_split_a16 : List (List Nat) := [[], [], [1], [2], [3], [4], [], [6], [7], [8], [5, 9], [10], [0, 11], [12, 12, 0, 1, 2, 3, 4, 5, 6, 7, 8, 9, 10, 11, 12]]
def linear_split_r17 : List SO := [mvZ 43 0, rZ 44 (.slice 9 (tZ 43) (some (ciZ 2)) none none), asZ 0 44]
def linear_split_r18 : List SO := [mvZ 58 6, mvZ 59 6, rZ 60 (.call ⟨(.value (.func (74 : Nat))), #[(tZ 59)], #[38]⟩), rZ 61 (.buildSlice 38 1 #[(0, (tZ 60))]), rZ 62 (.call ⟨(.builtin .append), #[(tZ 58), (tZ 61)], #[38, 38]⟩), asZ 2 62, rZ 3 (.assign (ciZ 0))]
def linear_split_c : SF := ⟨63, (.seq (.reg linear_split_r0)
  (.seq (.seq (.reg linear_split_r1)
  (.block 0 (.seq (.reg linear_split_r2)
  (.cond (tZ 9) (.seq (.reg linear_split_r3)
  .ret) (.seq (.reg linear_split_r4)
  (.cond (tZ 12) (.seq (.reg linear_split_r5)
  .ret) .skip))))))
  (.seq (.seq (.reg linear_split_r6)
  (.block 1 (.loop (.seq (.reg linear_split_r7)
  (.seq (.cond (tZ 18) .skip (.exit 1))
  (.seq (.block 2 (.seq (.reg linear_split_r8)
  (.seq (.reg linear_split_r9)
  (.cond (tZ 29) (.seq (.reg linear_split_r10)
  .ret) .skip))))
  (.reg linear_split_r11)))))))
  (.seq (.reg linear_split_r12)
  (.seq (.seq (.reg linear_split_r13)
  (.cond (tZ 34) (.reg linear_split_r14) .skip))
  (.seq (.block 3 (.loop (.seq (.seq (.reg linear_split_r15)
  (.cond (tZ 42) .skip (.exit 3)))
  (.seq (.block 4 (.regd linear_split_r16 linear_split_a16))
  (.reg linear_split_r17)))))
  (.seq (.reg linear_split_r18)
  .ret))))))), [.tmp 2, .tmp 3]⟩
theorem linear_split_s : slimF Try.prog 71 = some linear_split_c := by kernel_rfl
abbrev linear_split_f : Nat := 71
/-- printworks/linear.patterns -/
def linear_patterns_r0 : List SO := [rZ 0 (.assign (.const (.slice none 0 0)))]
def linear_patterns_r1 : List SO := [rZ 1 (.alloc 125)]
def linear_patterns_r2 : List SO := [rZ 2 (.alloc 127)]
def linear_patterns_r3 : List SO := [rZ 3 (.alloc 135)]
def linear_patterns_r4 : List SO := [rZ 4 (.makeFunc (.func (77 : Nat)) #[] #[(tZ 2), (tZ 1), (tZ 3)]), stZ 135 3 4]
def linear_patterns_r5 : List SO := [ldZ 5 135 3, rZ 6 (.call ⟨(.value (tZ 5)), #[(ciZ 0), (ciZ 11)], #[3, 3]⟩)]
def linear_patterns_r6 : List SO := [ldZ 7 125 1, rZ 8 (.slice 125 (tZ 7) none (some (ciZ 103)) none), asZ 0 8]
def linear_patterns_c : SF := ⟨9, (.seq (.reg linear_patterns_r0)
  (.seq (.reg linear_patterns_r1)
  (.seq (.reg linear_patterns_r2)
  (.seq (.reg linear_patterns_r3)
  (.seq (.reg linear_patterns_r4)
  (.seq (.reg linear_patterns_r5)
  (.seq (.reg linear_patterns_r6)
  .ret))))))), [.tmp 0]⟩
theorem linear_patterns_s : slimF Try.prog 72 = some linear_patterns_c := by kernel_rfl
abbrev linear_patterns_f : Nat := 72
/-- printworks/linear.value -/
def linear_value_r0 : List SO := [rZ 4 (.assign (ciZ 0))]
def linear_value_r1 : List SO := [mvZ 12 1, rZ 13 (.indexAddr 38 (tZ 12) (ciZ 0)), ldZ 14 3 13, mvZ 15 1, rZ 16 (.indexAddr 38 (tZ 15) (ciZ 1)), ldZ 17 3 16, boZ 18 .add 3 14 17 3, mvZ 19 1, rZ 20 (.indexAddr 38 (tZ 19) (ciZ 2)), ldZ 21 3 20, boZ 22 .add 3 18 21 3, mvZ 23 1, rZ 24 (.indexAddr 38 (tZ 23) (ciZ 3)), ldZ 25 3 24, boZ 26 .add 3 22 25 3, mvZ 27 1, rZ 28 (.indexAddr 38 (tZ 27) (ciZ 4)), ldZ 29 3 28, boZ 30 .add 3 26 29 3, mvZ 31 1, rZ 32 (.indexAddr 38 (tZ 31) (ciZ 5)), ldZ 33 3 32, boZ 34 .add 3 30 33 3, asZ 5 34]
def linear_value_a1 : List (List Nat) := [[], [0], [1], [], [3], [4], [2, 5], [], [7], [8], [6, 9], [], [11], [12], [10, 13], [], [15], [16], [14, 17], [], [19], [20], [18, 21], [22, 0, 1, 2, 3, 4, 5, 6, 7, 8, 9, 10, 11, 12, 13, 14, 15, 16, 17, 18, 19, 20, 21, 22]]
def linear_value_r2 : List SO := [rZ 6 (.alloc 136)]
def linear_value_r3 : List SO := [rZ 35 (.move (ciZ 0))]
def linear_value_r4 : List SO := [bcZ 36 .lss 3 35 4 3]
def linear_value_r5 : List SO := [mvZ 37 35, asZ 7 37]
def linear_value_r6 : List SO := [mvZ 38 7, mvZ 39 1, mvZ 40 7, iaZ 41 38 39 40, ldZ 42 3 41, mvZ 43 1, mvZ 44 7, bcZ 45 .add 3 44 1 3, iaZ 46 38 43 45, ldZ 47 3 46, boZ 48 .add 3 42 47 3, rZ 49 (.binOp .mul 3 (ciZ 11) (tZ 48) 3), mvZ 50 5, rZ 51 (.call ⟨(.value (.func (56 : Nat))), #[(tZ 49), (tZ 50)], #[3, 3]⟩), iaZ 52 136 6 38, stZ 3 52 51]
def linear_value_a6 : List (List Nat) := [[], [], [], [1, 2], [3], [], [], [6], [5, 7], [8], [4, 9], [10], [], [11, 12], [0, 0, 1, 2, 3, 4, 5, 6, 7, 8, 9, 10, 11, 12, 13], [14, 13, 13, 0, 1, 2, 3, 4, 5, 6, 7, 8, 9, 10, 11, 12, 13]]
def linear_value_r7 : List SO := [bcZ 53 .add 3 35 1 3, mvZ 35 53]
def linear_value_r8 : List SO := [mvZ 54 0, rZ 55 (.call ⟨(.builtin .len), #[(tZ 54)], #[125]⟩), rZ 56 (.move (ciZ 0))]
def linear_value_r9 : List SO := [boZ 57 .lss 3 56 55 3]
def linear_value_r10 : List SO := [mvZ 58 56, iaZ 59 125 54 56, ldZ 60 127 59, rZ 9 (.alloc 127), asZ 8 58, stZ 127 9 60]
def linear_value_r11 : List SO := [ldZ 61 136 6, rZ 62 (.move (ciZ 0))]
def linear_value_r12 : List SO := [bcZ 63 .lss 3 62 4 3]
def linear_value_r13 : List SO := [mvZ 64 62, rZ 65 (.index 136 (tZ 61) (tZ 62)), asZ 10 64, asZ 11 65]
def linear_value_r14 : List SO := [mvZ 66 10, iaZ 67 127 9 66, ldZ 68 3 67, mvZ 69 10, bcZ 70 .add 3 69 1 3, iaZ 71 127 9 70, ldZ 72 3 71, boZ 73 .add 3 68 72 3, mvZ 74 11, boZ 75 .neq 3 73 74 3]
def linear_value_a14 : List (List Nat) := [[], [0], [1], [], [3], [4], [5], [2, 6], [], [7, 8]]
def linear_value_r15 : List SO := [bcZ 76 .add 3 62 1 3, mvZ 62 76]
def linear_value_r16 : List SO := [mvZ 77 8, asZ 4 77]
def linear_value_r17 : List SO := [bcZ 78 .add 3 56 1 3, mvZ 56 78]
def linear_value_r18 : List SO := [rZ 4 (.assign (.const (.int .i64 (-1))))]
def linear_value_c : SF := ⟨79, (.seq (.reg linear_value_r0)
  (.scope (.seq (.regd linear_value_r1 linear_value_a1)
  (.seq (.reg linear_value_r2)
  (.seq (.seq (.reg linear_value_r3)
  (.block 0 (.loop (.seq (.reg linear_value_r4)
  (.seq (.cond (tZ 36) .skip (.exit 0))
  (.seq (.block 1 (.seq (.reg linear_value_r5)
  (.regd linear_value_r6 linear_value_a6)))
  (.reg linear_value_r7)))))))
  (.seq .skip
  (.seq (.seq (.reg linear_value_r8)
  (.block 2 (.loop (.seq (.reg linear_value_r9)
  (.seq (.cond (tZ 57) .skip (.exit 2))
  (.seq (.block 3 (.seq (.reg linear_value_r10)
  (.seq (.seq (.reg linear_value_r11)
  (.block 4 (.loop (.seq (.reg linear_value_r12)
  (.seq (.cond (tZ 63) .skip (.exit 4))
  (.seq (.block 5 (.seq (.reg linear_value_r13)
  (.seq (.regd linear_value_r14 linear_value_a14)
  (.cond (tZ 75) (.exit 3) .skip))))
  (.reg linear_value_r15)))))))
  (.seq (.reg linear_value_r16)
  .ret))))
  (.reg linear_value_r17)))))))
  (.seq (.reg linear_value_r18)
  .ret)))))))), [.tmp 4]⟩
theorem linear_value_s : slimF Try.prog 73 = some linear_value_c := by kernel_rfl
abbrev linear_value_f : Nat := 73
/-- printworks/linear.sum -/
def linear_sum_r0 : List SO := [rZ 2 (.assign (ciZ 0))]
def linear_sum_r1 : List SO := [rZ 3 (.assign (ciZ 0))]
def linear_sum_r2 : List SO := [mvZ 6 0, rZ 7 (.call ⟨(.builtin .len), #[(tZ 6)], #[38]⟩), rZ 8 (.move (ciZ 0))]
def linear_sum_r3 : List SO := [boZ 9 .lss 3 8 7 3]
def linear_sum_r4 : List SO := [mvZ 10 8, iaZ 11 38 6 8, ldZ 12 3 11, asZ 4 10, asZ 5 12]
def linear_sum_r5 : List SO := [mvZ 13 3, mvZ 14 4, bcZ 15 .add 3 14 1 3, mvZ 16 5, boZ 17 .mul 3 15 16 3, boZ 18 .add 3 13 17 3, asZ 3 18]
def linear_sum_r6 : List SO := [bcZ 19 .add 3 8 1 3, mvZ 8 19]
def linear_sum_r7 : List SO := [mvZ 20 3, bcZ 21 .rem 3 20 101 3, asZ 2 21]
def linear_sum_c : SF := ⟨22, (.seq (.reg linear_sum_r0)
  (.seq (.reg linear_sum_r1)
  (.seq (.seq (.reg linear_sum_r2)
  (.block 0 (.loop (.seq (.reg linear_sum_r3)
  (.seq (.cond (tZ 9) .skip (.exit 0))
  (.seq (.block 1 (.seq (.reg linear_sum_r4)
  (.reg linear_sum_r5)))
  (.reg linear_sum_r6)))))))
  (.seq (.reg linear_sum_r7)
  .ret)))), [.tmp 2]⟩
theorem linear_sum_s : slimF Try.prog 74 = some linear_sum_c := by kernel_rfl
abbrev linear_sum_f : Nat := 74
/-- printworks/linear.digits -/
def linear_digits_r0 : List SO := [rZ 2 (.assign (.const (.string ⟨([] : List UInt8).toArray⟩))), rZ 3 (.assign (ciZ 0))]
def linear_digits_r1 : List SO := [rZ 4 (.assign (ciZ 0))]
def linear_digits_r2 : List SO := [mvZ 8 0, rZ 9 (.indexAddr 38 (tZ 8) (ciZ 0)), ldZ 10 3 9, bcZ 11 .eql 3 10 100 3]
def linear_digits_r3 : List SO := [mvZ 12 0, rZ 13 (.slice 38 (tZ 12) (some (ciZ 1)) none none), asZ 0 13, rZ 4 (.assign (ciZ 1))]
def linear_digits_r4 : List SO := [rZ 5 (.assign (.const (.slice none 0 0)))]
def linear_digits_r5 : List SO := [mvZ 14 0, rZ 15 (.call ⟨(.builtin .len), #[(tZ 14)], #[38]⟩), rZ 16 (.move (ciZ 0))]
def linear_digits_r6 : List SO := [boZ 17 .lss 3 16 15 3]
def linear_digits_r7 : List SO := [iaZ 18 38 14 16, ldZ 19 3 18, asZ 7 19]
def linear_digits_r8 : List SO := [mvZ 20 7, bcZ 21 .geq 3 20 100 3]
def linear_digits_r9 : List SO := [rZ 2 (.assign (.const (.string ⟨([] : List UInt8).toArray⟩))), rZ 3 (.assign (ciZ 4))]
def linear_digits_r10 : List SO := [mvZ 22 5, mvZ 23 7, bcZ 24 .quo 3 23 10 3, rZ 25 (.binOp .add 3 (ciZ 48) (tZ 24) 3), rZ 26 (.convert 3 5 (tZ 25)), mvZ 27 7, bcZ 28 .rem 3 27 10 3, rZ 29 (.binOp .add 3 (ciZ 48) (tZ 28) 3), rZ 30 (.convert 3 5 (tZ 29)), rZ 31 (.buildSlice 22 2 #[(0, (tZ 26)), (1, (tZ 30))]), rZ 32 (.call ⟨(.builtin .append), #[(tZ 22), (tZ 31)], #[22, 22]⟩), asZ 5 32]
def linear_digits_r11 : List SO := [bcZ 33 .add 3 16 1 3, mvZ 16 33]
def linear_digits_r12 : List SO := [mvZ 34 4, mvZ 35 5, rZ 36 (.call ⟨(.builtin .len), #[(tZ 35)], #[22]⟩), boZ 37 .geq 3 34 36 3, mvZ 38 37, gZ 38 false (mvZ 39 4), gZ 38 false (bcZ 40 .eql 3 39 1 3), gZ 38 false (mvZ 41 40), gZ 41 true (mvZ 42 5), gZ 41 true (rZ 43 (.indexAddr 22 (tZ 42) (ciZ 0))), gZ 41 true (ldZ 44 5 43), gZ 41 true (rZ 45 (.binOp .neq 5 (tZ 44) (.const (.int .u8 48)) 5)), gZ 38 false (rZ 46 (.pick (tZ 41) (tZ 45) (.const (.bool false)))), rZ 47 (.pick (tZ 38) (.const (.bool true)) (tZ 46))]
def linear_digits_r13 : List SO := [rZ 2 (.assign (.const (.string ⟨([] : List UInt8).toArray⟩))), rZ 3 (.assign (ciZ 4))]
def linear_digits_r14 : List SO := [mvZ 48 5, mvZ 49 4, rZ 50 (.slice 22 (tZ 48) (some (tZ 49)) none none), rZ 51 (.convert 22 9 (tZ 50)), asZ 2 51, rZ 3 (.assign (ciZ 0))]
def linear_digits_c : SF := ⟨52, (.seq (.reg linear_digits_r0)
  (.seq (.reg linear_digits_r1)
  (.seq (.seq (.reg linear_digits_r2)
  (.cond (tZ 11) (.reg linear_digits_r3) .skip))
  (.seq (.reg linear_digits_r4)
  (.seq (.seq (.reg linear_digits_r5)
  (.block 0 (.loop (.seq (.reg linear_digits_r6)
  (.seq (.cond (tZ 17) .skip (.exit 0))
  (.seq (.block 1 (.seq (.reg linear_digits_r7)
  (.seq (.seq (.reg linear_digits_r8)
  (.cond (tZ 21) (.seq (.reg linear_digits_r9)
  .ret) .skip))
  (.reg linear_digits_r10))))
  (.reg linear_digits_r11)))))))
  (.seq (.seq (.reg linear_digits_r12)
  (.cond (tZ 47) (.seq (.reg linear_digits_r13)
  .ret) .skip))
  (.seq (.reg linear_digits_r14)
  .ret))))))), [.tmp 2, .tmp 3]⟩
theorem linear_digits_s : slimF Try.prog 75 = some linear_digits_c := by kernel_rfl
abbrev linear_digits_f : Nat := 75
/-- printworks/linear.patterns$1 -/
def linear_patterns_1_r0 : List SO := [mvZ 8 0, bcZ 9 .eql 3 8 5 3]
def linear_patterns_1_r1 : List SO := [mvZ 10 1, rZ 11 (.indexAddr 127 (tZ 2) (ciZ 5)), stZ 3 11 10]
def linear_patterns_1_r2 : List SO := [mvZ 12 1, bcZ 13 .leq 3 12 4 3, mvZ 14 13, gZ 14 true (rZ 15 (.indexAddr 127 (tZ 2) (ciZ 0))), gZ 14 true (ldZ 16 3 15), gZ 14 true (rZ 17 (.indexAddr 127 (tZ 2) (ciZ 2))), gZ 14 true (ldZ 18 3 17), gZ 14 true (boZ 19 .add 3 16 18 3), gZ 14 true (rZ 20 (.indexAddr 127 (tZ 2) (ciZ 4))), gZ 14 true (ldZ 21 3 20), gZ 14 true (boZ 22 .add 3 19 21 3), gZ 14 true (bcZ 23 .rem 3 22 2 3), gZ 14 true (bcZ 24 .eql 3 23 0 3), rZ 25 (.pick (tZ 14) (tZ 24) (.const (.bool false)))]
def linear_patterns_1_r3 : List SO := [ldZ 26 125 3, ldZ 27 127 2, rZ 28 (.buildSlice 125 1 #[(0, (tZ 27))]), rZ 29 (.call ⟨(.builtin .append), #[(tZ 26), (tZ 28)], #[125, 125]⟩), stZ 125 3 29]
def linear_patterns_1_r4 : List SO := [rZ 7 (.assign (ciZ 1))]
def linear_patterns_1_r5 : List SO := [mvZ 30 7, bcZ 31 .leq 3 30 4 3, mvZ 32 31, gZ 32 true (mvZ 33 7), gZ 32 true (mvZ 34 1), gZ 32 true (boZ 35 .lss 3 33 34 3), rZ 36 (.pick (tZ 32) (tZ 35) (.const (.bool false)))]
def linear_patterns_1_r6 : List SO := [mvZ 39 0, mvZ 40 7, iaZ 41 127 2 39, stZ 3 41 40]
def linear_patterns_1_r7 : List SO := [ldZ 42 135 4, mvZ 43 0, bcZ 44 .add 3 43 1 3, mvZ 45 1, mvZ 46 7, boZ 47 .sub 3 45 46 3, rZ 48 (.call ⟨(.value (tZ 42)), #[(tZ 44), (tZ 47)], #[3, 3]⟩)]
def linear_patterns_1_r8 : List SO := [mvZ 37 7, bcZ 38 .add 3 37 1 3, asZ 7 38]
def linear_patterns_1_c : SF := ⟨49, (.seq (.seq (.reg linear_patterns_1_r0)
  (.cond (tZ 9) (.seq (.seq (.reg linear_patterns_1_r1)
  (.seq (.reg linear_patterns_1_r2)
  (.cond (tZ 25) (.reg linear_patterns_1_r3) .skip)))
  .ret) .skip))
  (.seq (.reg linear_patterns_1_r4)
  (.block 0 (.loop (.seq (.seq (.reg linear_patterns_1_r5)
  (.cond (tZ 36) .skip (.exit 0)))
  (.seq (.block 1 (.seq (.reg linear_patterns_1_r6)
  (.reg linear_patterns_1_r7)))
  (.reg linear_patterns_1_r8))))))), []⟩
theorem linear_patterns_1_s : slimF Try.prog 77 = some linear_patterns_1_c := by kernel_rfl
abbrev linear_patterns_1_f : Nat := 77

end Go.Proofs.Ythkilkjngincpaa
namespace Go.Proofs.Ythkilkjngincpaa
open Go Go.Lite
set_option linter.unusedVariables false

/-- printworks/curve.Nearest -/
def curve_Nearest_r0 : List SO := [rZ 4 (.assign (ciZ 0))]
def curve_Nearest_r1 : List SO := [mvZ 6 0, rZ 7 (.binOp .mul 3 (ciZ 2) (tZ 6) 3), mvZ 8 1, boZ 9 .add 3 7 8 3, mvZ 10 1, rZ 11 (.binOp .mul 3 (ciZ 2) (tZ 10) 3), asZ 0 9, asZ 1 11]
def curve_Nearest_r2 : List SO := [mvZ 12 0, mvZ 13 1, boZ 14 .quo 3 12 13 3, asZ 5 14]
def curve_Nearest_r3 : List SO := [mvZ 15 0, mvZ 16 1, boZ 17 .rem 3 15 16 3, bcZ 18 .lss 3 17 0 3]
def curve_Nearest_r4 : List SO := [mvZ 19 5, bcZ 20 .sub 3 19 1 3, asZ 5 20]
def curve_Nearest_r5 : List SO := [mvZ 21 5, asZ 4 21]
def curve_Nearest_c : SF := ⟨22, (.seq (.reg curve_Nearest_r0)
  (.seq (.reg curve_Nearest_r1)
  (.seq (.reg curve_Nearest_r2)
  (.seq (.seq (.reg curve_Nearest_r3)
  (.cond (tZ 18) (.reg curve_Nearest_r4) .skip))
  (.seq (.reg curve_Nearest_r5)
  .ret))))), [.tmp 4]⟩
theorem curve_Nearest_s : slimF Try.prog 56 = some curve_Nearest_c := by kernel_rfl
abbrev curve_Nearest_f : Nat := 56

end Go.Proofs.Ythkilkjngincpaa
namespace Go.Proofs.Ythkilkjngincpaa
open Go Go.Lite
set_option linter.unusedVariables false

end Go.Proofs.Ythkilkjngincpaa
namespace Go.Proofs.Ythkilkjngincpaa
open Go Go.Lite
set_option linter.unusedVariables false

end Go.Proofs.Ythkilkjngincpaa
namespace Go.Proofs.Ythkilkjngincpaa
open Go Go.Lite
set_option linter.unusedVariables false

/-- printworks/bitmap.Check -/
def bitmap_Check_r0 : List SO := [rZ 1 (.box 29 (tZ 0)), rZ 2 (.assign (ciZ 0))]
def bitmap_Check_r1 : List SO := [faZ 6 29 1 0, ldZ 7 3 6, bcZ 8 .lss 3 7 1 3, mvZ 9 8, gZ 9 false (faZ 10 29 1 0), gZ 9 false (ldZ 11 3 10), gZ 9 false (bcZ 12 .gtr 3 11 1024 3), rZ 13 (.pick (tZ 9) (.const (.bool true)) (tZ 12)), mvZ 14 13, gZ 14 false (faZ 15 29 1 1), gZ 14 false (ldZ 16 3 15), gZ 14 false (bcZ 17 .lss 3 16 1 3), rZ 18 (.pick (tZ 14) (.const (.bool true)) (tZ 17)), mvZ 19 18, gZ 19 false (faZ 20 29 1 1), gZ 19 false (ldZ 21 3 20), gZ 19 false (bcZ 22 .gtr 3 21 1024 3), rZ 23 (.pick (tZ 19) (.const (.bool true)) (tZ 22))]
def bitmap_Check_r2 : List SO := [rZ 2 (.assign (ciZ 3))]
def bitmap_Check_r3 : List SO := [faZ 24 29 1 0, ldZ 25 3 24, rZ 26 (.call ⟨(.value (.func (39 : Nat))), #[(tZ 25)], #[3]⟩), asZ 3 26]
def bitmap_Check_r4 : List SO := [faZ 27 29 1 2, ldZ 28 22 27, rZ 29 (.call ⟨(.builtin .len), #[(tZ 28)], #[22]⟩), mvZ 30 3, faZ 31 29 1 1, ldZ 32 3 31, boZ 33 .mul 3 30 32 3, boZ 34 .neq 3 29 33 3]
def bitmap_Check_r5 : List SO := [rZ 2 (.assign (ciZ 4))]
def bitmap_Check_r6 : List SO := [mvZ 35 3, rZ 36 (.binOp .mul 3 (ciZ 8) (tZ 35) 3), faZ 37 29 1 0, ldZ 38 3 37, boZ 39 .sub 3 36 38 3, rZ 40 (.binOp .shl 5 (.const (.int .u8 1)) (tZ 39) 3), rZ 41 (.binOp .sub 5 (tZ 40) (.const (.int .u8 1)) 5), asZ 4 41]
def bitmap_Check_r7 : List SO := [mvZ 42 4, rZ 43 (.binOp .neq 5 (tZ 42) (.const (.int .u8 0)) 5)]
def bitmap_Check_r8 : List SO := [faZ 44 29 1 1, ldZ 45 3 44, rZ 46 (.move (ciZ 0))]
def bitmap_Check_r9 : List SO := [boZ 47 .lss 3 46 45 3]
def bitmap_Check_r10 : List SO := [mvZ 48 46, asZ 5 48]
def bitmap_Check_r11 : List SO := [faZ 49 29 1 2, ldZ 50 22 49, mvZ 51 5, mvZ 52 3, boZ 53 .mul 3 51 52 3, mvZ 54 3, boZ 55 .add 3 53 54 3, bcZ 56 .sub 3 55 1 3, iaZ 57 22 50 56, ldZ 58 5 57, mvZ 59 4, boZ 60 .and 5 58 59 5, rZ 61 (.binOp .neq 5 (tZ 60) (.const (.int .u8 0)) 5)]
def bitmap_Check_r12 : List SO := [rZ 2 (.assign (ciZ 4))]
def bitmap_Check_r13 : List SO := [bcZ 62 .add 3 46 1 3, mvZ 46 62]
def bitmap_Check_r14 : List SO := [rZ 2 (.assign (ciZ 0))]
def bitmap_Check_c : SF := ⟨63, (.seq (.reg bitmap_Check_r0)
  (.seq (.seq (.reg bitmap_Check_r1)
  (.cond (tZ 23) (.seq (.reg bitmap_Check_r2)
  .ret) .skip))
  (.seq (.reg bitmap_Check_r3)
  (.seq (.seq (.reg bitmap_Check_r4)
  (.cond (tZ 34) (.seq (.reg bitmap_Check_r5)
  .ret) .skip))
  (.seq (.seq (.reg bitmap_Check_r6)
  (.seq (.reg bitmap_Check_r7)
  (.cond (tZ 43) (.seq (.reg bitmap_Check_r8)
  (.block 0 (.loop (.seq (.reg bitmap_Check_r9)
  (.seq (.cond (tZ 47) .skip (.exit 0))
  (.seq (.block 1 (.seq (.reg bitmap_Check_r10)
  (.seq (.reg bitmap_Check_r11)
  (.cond (tZ 61) (.seq (.reg bitmap_Check_r12)
  .ret) .skip))))
  (.reg bitmap_Check_r13))))))) .skip)))
  (.seq (.reg bitmap_Check_r14)
  .ret)))))), [.tmp 2]⟩
theorem bitmap_Check_s : slimF Try.prog 12 = some bitmap_Check_c := by kernel_rfl
abbrev bitmap_Check_f : Nat := 12
/-- printworks/bitmap.Get -/
def bitmap_Get_r0 : List SO := [rZ 3 (.box 29 (tZ 0)), rZ 6 (.assign (.const (.bool false))), rZ 7 (.assign (ciZ 0))]
def bitmap_Get_r1 : List SO := [ldZ 9 29 3, rZ 10 (.call ⟨(.value (.func (12 : Nat))), #[(tZ 9)], #[29]⟩), asZ 8 10]
def bitmap_Get_r2 : List SO := [mvZ 11 8, bcZ 12 .neq 25 11 0 25]
def bitmap_Get_r3 : List SO := [mvZ 13 8, rZ 6 (.assign (.const (.bool false))), asZ 7 13]
def bitmap_Get_r4 : List SO := [mvZ 14 1, bcZ 15 .lss 3 14 0 3, mvZ 16 15, gZ 16 false (mvZ 17 1), gZ 16 false (faZ 18 29 3 0), gZ 16 false (ldZ 19 3 18), gZ 16 false (boZ 20 .geq 3 17 19 3), rZ 21 (.pick (tZ 16) (.const (.bool true)) (tZ 20)), mvZ 22 21, gZ 22 false (mvZ 23 2), gZ 22 false (bcZ 24 .lss 3 23 0 3), rZ 25 (.pick (tZ 22) (.const (.bool true)) (tZ 24)), mvZ 26 25, gZ 26 false (mvZ 27 2), gZ 26 false (faZ 28 29 3 1), gZ 26 false (ldZ 29 3 28), gZ 26 false (boZ 30 .geq 3 27 29 3), rZ 31 (.pick (tZ 26) (.const (.bool true)) (tZ 30))]
def bitmap_Get_r5 : List SO := [rZ 6 (.assign (.const (.bool false))), rZ 7 (.assign (ciZ 3))]
def bitmap_Get_r6 : List SO := [mvZ 32 1, mvZ 33 2, rZ 34 (.call ⟨(.value (.func (51 : Nat))), #[(tZ 3), (tZ 32), (tZ 33)], #[81, 3, 3]⟩), asZ 6 34, rZ 7 (.assign (ciZ 0))]
def bitmap_Get_c : SF := ⟨35, (.seq (.reg bitmap_Get_r0)
  (.seq (.seq (.reg bitmap_Get_r1)
  (.seq (.reg bitmap_Get_r2)
  (.cond (tZ 12) (.seq (.reg bitmap_Get_r3)
  .ret) .skip)))
  (.seq (.seq (.reg bitmap_Get_r4)
  (.cond (tZ 31) (.seq (.reg bitmap_Get_r5)
  .ret) .skip))
  (.seq (.reg bitmap_Get_r6)
  .ret)))), [.tmp 6, .tmp 7]⟩
theorem bitmap_Get_s : slimF Try.prog 25 = some bitmap_Get_c := by kernel_rfl
abbrev bitmap_Get_f : Nat := 25
/-- printworks/bitmap.Set -/
def bitmap_Set_r0 : List SO := [rZ 4 (.box 29 (tZ 0)), rZ 8 (.alloc 29), rZ 9 (.assign (ciZ 0))]
def bitmap_Set_r1 : List SO := [ldZ 11 29 4, rZ 12 (.call ⟨(.value (.func (12 : Nat))), #[(tZ 11)], #[29]⟩), asZ 10 12]
def bitmap_Set_r2 : List SO := [mvZ 13 10, bcZ 14 .neq 25 13 0 25]
def bitmap_Set_r3 : List SO := [rZ 15 (.build 29 #[]), mvZ 16 10, stZ 29 8 15, asZ 9 16]
def bitmap_Set_r4 : List SO := [mvZ 17 1, bcZ 18 .lss 3 17 0 3, mvZ 19 18, gZ 19 false (mvZ 20 1), gZ 19 false (faZ 21 29 4 0), gZ 19 false (ldZ 22 3 21), gZ 19 false (boZ 23 .geq 3 20 22 3), rZ 24 (.pick (tZ 19) (.const (.bool true)) (tZ 23)), mvZ 25 24, gZ 25 false (mvZ 26 2), gZ 25 false (bcZ 27 .lss 3 26 0 3), rZ 28 (.pick (tZ 25) (.const (.bool true)) (tZ 27)), mvZ 29 28, gZ 29 false (mvZ 30 2), gZ 29 false (faZ 31 29 4 1), gZ 29 false (ldZ 32 3 31), gZ 29 false (boZ 33 .geq 3 30 32 3), rZ 34 (.pick (tZ 29) (.const (.bool true)) (tZ 33))]
def bitmap_Set_r5 : List SO := [rZ 35 (.build 29 #[]), stZ 29 8 35, rZ 9 (.assign (ciZ 3))]
def bitmap_Set_r6 : List SO := [faZ 36 29 4 2, ldZ 37 22 36, rZ 38 (.call ⟨(.builtin .append), #[(.const (.slice none 0 0)), (tZ 37)], #[22, 22]⟩), faZ 39 29 4 2, stZ 22 39 38]
def bitmap_Set_r7 : List SO := [mvZ 40 3]
def bitmap_Set_r8 : List SO := [mvZ 41 1, mvZ 42 2, rZ 43 (.call ⟨(.value (.func (38 : Nat))), #[(tZ 4), (tZ 41), (tZ 42)], #[81, 3, 3]⟩)]
def bitmap_Set_r9 : List SO := [faZ 44 29 4 2, ldZ 45 22 44, mvZ 46 2, faZ 47 29 4 0, ldZ 48 3 47, rZ 49 (.call ⟨(.value (.func (39 : Nat))), #[(tZ 48)], #[3]⟩), boZ 50 .mul 3 46 49 3, mvZ 51 1, bcZ 52 .quo 3 51 8 3, boZ 53 .add 3 50 52 3, iaZ 54 22 45 53, ldZ 55 5 54, mvZ 56 1, bcZ 57 .rem 3 56 8 3, rZ 58 (.binOp .shr 5 (.const (.int .u8 128)) (tZ 57) 3), boZ 59 .andNot 5 55 58 5, iaZ 60 22 45 53, stZ 5 60 59]
def bitmap_Set_a9 : List (List Nat) := [[], [0], [], [], [3], [4], [2, 5], [], [7], [6, 8], [1, 9], [10], [], [12], [13], [11, 14], [1, 9, 0, 1, 2, 3, 4, 5, 6, 7, 8, 9, 10, 11, 12, 13, 14, 15], [16, 15, 5, 0, 1, 2, 3, 4, 5, 6, 7, 8, 9, 10, 11, 12, 13, 14, 15]]
def bitmap_Set_r10 : List SO := [ldZ 61 29 4, stZ 29 8 61, rZ 9 (.assign (ciZ 0))]
def bitmap_Set_c : SF := ⟨62, (.seq (.reg bitmap_Set_r0)
  (.seq (.seq (.reg bitmap_Set_r1)
  (.seq (.reg bitmap_Set_r2)
  (.cond (tZ 14) (.seq (.reg bitmap_Set_r3)
  .ret) .skip)))
  (.seq (.seq (.reg bitmap_Set_r4)
  (.cond (tZ 34) (.seq (.reg bitmap_Set_r5)
  .ret) .skip))
  (.seq (.reg bitmap_Set_r6)
  (.seq (.seq (.reg bitmap_Set_r7)
  (.cond (tZ 40) (.reg bitmap_Set_r8) (.regd bitmap_Set_r9 bitmap_Set_a9)))
  (.seq (.reg bitmap_Set_r10)
  .ret)))))), [.cell 8 29, .tmp 9]⟩
theorem bitmap_Set_s : slimF Try.prog 26 = some bitmap_Set_c := by kernel_rfl
abbrev bitmap_Set_f : Nat := 26
/-- printworks/bitmap.Blank -/
def bitmap_Blank_r0 : List SO := [rZ 4 (.alloc 29)]
def bitmap_Blank_r1 : List SO := [mvZ 5 0, mvZ 6 1, mvZ 7 0, rZ 8 (.call ⟨(.value (.func (39 : Nat))), #[(tZ 7)], #[3]⟩), mvZ 9 1, boZ 10 .mul 3 8 9 3, rZ 11 (.makeSlice 22 (tZ 10) (tZ 10)), rZ 12 (.build 29 #[(0, (tZ 5)), (1, (tZ 6)), (2, (tZ 11))]), stZ 29 4 12]
def bitmap_Blank_c : SF := ⟨13, (.seq (.reg bitmap_Blank_r0)
  (.seq (.reg bitmap_Blank_r1)
  .ret)), [.cell 4 29]⟩
theorem bitmap_Blank_s : slimF Try.prog 36 = some bitmap_Blank_c := by kernel_rfl
abbrev bitmap_Blank_f : Nat := 36
/-- printworks/bitmap.Mark -/
def bitmap_Mark_r0 : List SO := [mvZ 6 0, rZ 7 (.nilCheck (tZ 6)), faZ 8 29 7 2, ldZ 9 22 8, mvZ 10 2, mvZ 11 0, rZ 12 (.nilCheck (tZ 11)), faZ 13 29 12 0, ldZ 14 3 13, rZ 15 (.call ⟨(.value (.func (39 : Nat))), #[(tZ 14)], #[3]⟩), boZ 16 .mul 3 10 15 3, mvZ 17 1, bcZ 18 .quo 3 17 8 3, boZ 19 .add 3 16 18 3, iaZ 20 22 9 19, ldZ 21 5 20, mvZ 22 1, bcZ 23 .rem 3 22 8 3, rZ 24 (.binOp .shr 5 (.const (.int .u8 128)) (tZ 23) 3), boZ 25 .or 5 21 24 5, iaZ 26 22 9 19, stZ 5 26 25]
def bitmap_Mark_a0 : List (List Nat) := [[], [0], [1], [2], [], [], [5], [6], [7], [8], [4, 9], [], [11], [10, 12], [3, 13], [14], [], [16], [17], [15, 18], [3, 13, 0, 1, 2, 3, 4, 5, 6, 7, 8, 9, 10, 11, 12, 13, 14, 15, 16, 17, 18, 19], [20, 19, 9, 0, 1, 2, 3, 4, 5, 6, 7, 8, 9, 10, 11, 12, 13, 14, 15, 16, 17, 18, 19]]
def bitmap_Mark_c : SF := ⟨27, (.regd bitmap_Mark_r0 bitmap_Mark_a0), []⟩
theorem bitmap_Mark_s : slimF Try.prog 38 = some bitmap_Mark_c := by kernel_rfl
abbrev bitmap_Mark_f : Nat := 38
/-- printworks/bitmap.stride -/
def bitmap_stride_r0 : List SO := [rZ 2 (.assign (ciZ 0))]
def bitmap_stride_r1 : List SO := [mvZ 3 0, bcZ 4 .add 3 3 7 3, bcZ 5 .quo 3 4 8 3, asZ 2 5]
def bitmap_stride_c : SF := ⟨6, (.seq (.reg bitmap_stride_r0)
  (.seq (.reg bitmap_stride_r1)
  .ret)), [.tmp 2]⟩
theorem bitmap_stride_s : slimF Try.prog 39 = some bitmap_stride_c := by kernel_rfl
abbrev bitmap_stride_f : Nat := 39
/-- printworks/bitmap.Turned -/
def bitmap_Turned_r0 : List SO := [rZ 2 (.box 81 (tZ 0)), rZ 4 (.alloc 29)]
def bitmap_Turned_r1 : List SO := [ldZ 7 81 2, rZ 8 (.nilCheck (tZ 7)), ldZ 9 29 8, rZ 5 (.alloc 29), stZ 29 5 9]
def bitmap_Turned_r2 : List SO := [ldZ 10 81 2, rZ 11 (.nilCheck (tZ 10)), faZ 12 29 11 2, ldZ 13 22 12, rZ 14 (.call ⟨(.builtin .append), #[(.const (.slice none 0 0)), (tZ 13)], #[22, 22]⟩), faZ 15 29 5 2, stZ 22 15 14]
def bitmap_Turned_r3 : List SO := [mvZ 16 1, bcZ 17 .geq 3 16 4 3]
def bitmap_Turned_r4 : List SO := [ldZ 18 81 2, rZ 19 (.nilCheck (tZ 18)), faZ 20 29 19 0, ldZ 21 3 20, ldZ 22 81 2, rZ 23 (.nilCheck (tZ 22)), faZ 24 29 23 1, ldZ 25 3 24, rZ 26 (.makeFunc (.func (69 : Nat)) #[] #[(tZ 2)]), rZ 27 (.call ⟨(.value (.func (65 : Nat))), #[(tZ 21), (tZ 25), (tZ 26)], #[3, 3, 121]⟩), stZ 29 5 27]
def bitmap_Turned_a4 : List (List Nat) := [[], [0], [1], [2], [], [4], [5], [6], [], [3, 7, 8], [9, 9, 0, 1, 2, 3, 4, 5, 6, 7, 8, 9]]
def bitmap_Turned_r5 : List SO := [mvZ 28 1, bcZ 29 .rem 3 28 4 3, rZ 30 (.move (ciZ 0))]
def bitmap_Turned_r6 : List SO := [boZ 31 .lss 3 30 29 3]
def bitmap_Turned_r7 : List SO := [ldZ 32 29 5, rZ 6 (.alloc 29), stZ 29 6 32]
def bitmap_Turned_r8 : List SO := [faZ 33 29 6 1, ldZ 34 3 33, faZ 35 29 6 0, ldZ 36 3 35, rZ 37 (.makeFunc (.func (70 : Nat)) #[] #[(tZ 6)]), rZ 38 (.call ⟨(.value (.func (65 : Nat))), #[(tZ 34), (tZ 36), (tZ 37)], #[3, 3, 121]⟩), stZ 29 5 38]
def bitmap_Turned_r9 : List SO := [bcZ 39 .add 3 30 1 3, mvZ 30 39]
def bitmap_Turned_r10 : List SO := [ldZ 40 29 5, stZ 29 4 40]
def bitmap_Turned_c : SF := ⟨41, (.seq (.reg bitmap_Turned_r0)
  (.seq (.reg bitmap_Turned_r1)
  (.seq (.reg bitmap_Turned_r2)
  (.seq (.seq (.reg bitmap_Turned_r3)
  (.cond (tZ 17) (.regd bitmap_Turned_r4 bitmap_Turned_a4) .skip))
  (.seq (.seq (.reg bitmap_Turned_r5)
  (.block 0 (.loop (.seq (.reg bitmap_Turned_r6)
  (.seq (.cond (tZ 31) .skip (.exit 0))
  (.seq (.block 1 (.seq (.reg bitmap_Turned_r7)
  (.reg bitmap_Turned_r8)))
  (.reg bitmap_Turned_r9)))))))
  (.seq (.reg bitmap_Turned_r10)
  .ret)))))), [.cell 4 29]⟩
theorem bitmap_Turned_s : slimF Try.prog 49 = some bitmap_Turned_c := by kernel_rfl
abbrev bitmap_Turned_f : Nat := 49
/-- printworks/bitmap.Is -/
def bitmap_Is_r0 : List SO := [rZ 6 (.assign (.const (.bool false)))]
def bitmap_Is_r1 : List SO := [mvZ 7 1, bcZ 8 .geq 3 7 0 3, mvZ 9 8, gZ 9 true (mvZ 10 1), gZ 9 true (mvZ 11 0), gZ 9 true (rZ 12 (.nilCheck (tZ 11))), gZ 9 true (faZ 13 29 12 0), gZ 9 true (ldZ 14 3 13), gZ 9 true (boZ 15 .lss 3 10 14 3), rZ 16 (.pick (tZ 9) (tZ 15) (.const (.bool false))), mvZ 17 16, gZ 17 true (mvZ 18 2), gZ 17 true (bcZ 19 .geq 3 18 0 3), rZ 20 (.pick (tZ 17) (tZ 19) (.const (.bool false))), mvZ 21 20, gZ 21 true (mvZ 22 2), gZ 21 true (mvZ 23 0), gZ 21 true (rZ 24 (.nilCheck (tZ 23))), gZ 21 true (faZ 25 29 24 1), gZ 21 true (ldZ 26 3 25), gZ 21 true (boZ 27 .lss 3 22 26 3), rZ 28 (.pick (tZ 21) (tZ 27) (.const (.bool false))), mvZ 29 28, gZ 29 true (mvZ 30 0), gZ 29 true (rZ 31 (.nilCheck (tZ 30))), gZ 29 true (faZ 32 29 31 2), gZ 29 true (ldZ 33 22 32), gZ 29 true (mvZ 34 2), gZ 29 true (mvZ 35 0), gZ 29 true (rZ 36 (.nilCheck (tZ 35))), gZ 29 true (faZ 37 29 36 0), gZ 29 true (ldZ 38 3 37), gZ 29 true (rZ 39 (.call ⟨(.value (.func (39 : Nat))), #[(tZ 38)], #[3]⟩)), gZ 29 true (boZ 40 .mul 3 34 39 3), gZ 29 true (mvZ 41 1), gZ 29 true (bcZ 42 .quo 3 41 8 3), gZ 29 true (boZ 43 .add 3 40 42 3), gZ 29 true (iaZ 44 22 33 43), gZ 29 true (ldZ 45 5 44), gZ 29 true (mvZ 46 1), gZ 29 true (bcZ 47 .rem 3 46 8 3), gZ 29 true (rZ 48 (.binOp .shr 5 (.const (.int .u8 128)) (tZ 47) 3)), gZ 29 true (boZ 49 .and 5 45 48 5), gZ 29 true (rZ 50 (.binOp .neq 5 (tZ 49) (.const (.int .u8 0)) 5)), rZ 51 (.pick (tZ 29) (tZ 50) (.const (.bool false))), asZ 6 51]
def bitmap_Is_a1 : List (List Nat) := [[], [0], [1], [2], [2], [4, 2], [5, 2], [6, 2], [3, 7, 2], [2, 8], [9, 2], [10], [11, 10], [10, 12], [13, 10], [14], [14], [16, 14], [17, 14], [18, 14], [15, 19, 14], [14, 20], [21, 14], [22], [23, 22], [24, 22], [25, 22], [22], [22], [28, 22], [29, 22], [30, 22], [31, 22, 22], [27, 32, 22], [22], [34, 22], [33, 35, 22], [26, 36, 22], [37, 22], [22], [39, 22], [40, 22], [38, 41, 22], [42, 22], [22, 43], [44, 32, 0, 1, 2, 3, 4, 5, 6, 7, 8, 9, 10, 11, 12, 13, 14, 15, 16, 17, 18, 19, 20, 21, 22, 23, 24, 25, 26, 27, 28, 29, 30, 31, 32, 33, 34, 35, 36, 37, 38, 39, 40, 41, 42, 43, 44]]
def bitmap_Is_c : SF := ⟨52, (.seq (.reg bitmap_Is_r0)
  (.seq (.regd bitmap_Is_r1 bitmap_Is_a1)
  .ret)), [.tmp 6]⟩
theorem bitmap_Is_s : slimF Try.prog 51 = some bitmap_Is_c := by kernel_rfl
abbrev bitmap_Is_f : Nat := 51
/-- printworks/bitmap.from -/
def bitmap_from_r0 : List SO := [rZ 6 (.alloc 29)]
def bitmap_from_r1 : List SO := [mvZ 10 0, mvZ 11 1, rZ 12 (.call ⟨(.value (.func (36 : Nat))), #[(tZ 10), (tZ 11)], #[3, 3]⟩), rZ 7 (.alloc 29), stZ 29 7 12]
def bitmap_from_r2 : List SO := [mvZ 13 1, rZ 14 (.move (ciZ 0))]
def bitmap_from_r3 : List SO := [boZ 15 .lss 3 14 13 3]
def bitmap_from_r4 : List SO := [mvZ 16 14, asZ 8 16]
def bitmap_from_r5 : List SO := [mvZ 17 0, rZ 18 (.move (ciZ 0))]
def bitmap_from_r6 : List SO := [boZ 19 .lss 3 18 17 3]
def bitmap_from_r7 : List SO := [mvZ 20 18, asZ 9 20]
def bitmap_from_r8 : List SO := [mvZ 21 2, mvZ 22 9, mvZ 23 8, rZ 24 (.call ⟨(.value (tZ 21)), #[(tZ 22), (tZ 23)], #[3, 3]⟩)]
def bitmap_from_r9 : List SO := [mvZ 25 9, mvZ 26 8, rZ 27 (.call ⟨(.value (.func (38 : Nat))), #[(tZ 7), (tZ 25), (tZ 26)], #[81, 3, 3]⟩)]
def bitmap_from_r10 : List SO := [bcZ 28 .add 3 18 1 3, mvZ 18 28]
def bitmap_from_r11 : List SO := [bcZ 29 .add 3 14 1 3, mvZ 14 29]
def bitmap_from_r12 : List SO := [ldZ 30 29 7, stZ 29 6 30]
def bitmap_from_c : SF := ⟨31, (.seq (.reg bitmap_from_r0)
  (.seq (.reg bitmap_from_r1)
  (.seq (.seq (.reg bitmap_from_r2)
  (.block 0 (.loop (.seq (.reg bitmap_from_r3)
  (.seq (.cond (tZ 15) .skip (.exit 0))
  (.seq (.block 1 (.seq (.reg bitmap_from_r4)
  (.seq (.reg bitmap_from_r5)
  (.block 2 (.loop (.seq (.reg bitmap_from_r6)
  (.seq (.cond (tZ 19) .skip (.exit 2))
  (.seq (.block 3 (.seq (.reg bitmap_from_r7)
  (.seq (.reg bitmap_from_r8)
  (.cond (tZ 24) (.reg bitmap_from_r9) .skip))))
  (.reg bitmap_from_r10)))))))))
  (.reg bitmap_from_r11)))))))
  (.seq (.reg bitmap_from_r12)
  .ret)))), [.cell 6 29]⟩
theorem bitmap_from_s : slimF Try.prog 65 = some bitmap_from_c := by kernel_rfl
abbrev bitmap_from_f : Nat := 65
/-- printworks/bitmap.Turned$1 -/
def bitmap_Turned_1_r0 : List SO := [rZ 5 (.assign (.const (.bool false)))]
def bitmap_Turned_1_r1 : List SO := [ldZ 6 81 2, ldZ 7 81 2, rZ 8 (.nilCheck (tZ 7)), faZ 9 29 8 0, ldZ 10 3 9, bcZ 11 .sub 3 10 1 3, mvZ 12 0, boZ 13 .sub 3 11 12 3, mvZ 14 1, rZ 15 (.call ⟨(.value (.func (51 : Nat))), #[(tZ 6), (tZ 13), (tZ 14)], #[81, 3, 3]⟩), asZ 5 15]
def bitmap_Turned_1_a1 : List (List Nat) := [[], [], [1], [2], [3], [4], [], [5, 6], [], [0, 7, 8], [9, 9, 0, 1, 2, 3, 4, 5, 6, 7, 8, 9]]
def bitmap_Turned_1_c : SF := ⟨16, (.seq (.reg bitmap_Turned_1_r0)
  (.seq (.regd bitmap_Turned_1_r1 bitmap_Turned_1_a1)
  .ret)), [.tmp 5]⟩
theorem bitmap_Turned_1_s : slimF Try.prog 69 = some bitmap_Turned_1_c := by kernel_rfl
abbrev bitmap_Turned_1_f : Nat := 69
/-- printworks/bitmap.Turned$2 -/
def bitmap_Turned_2_r0 : List SO := [rZ 5 (.assign (.const (.bool false)))]
def bitmap_Turned_2_r1 : List SO := [mvZ 6 1, faZ 7 29 2 1, ldZ 8 3 7, bcZ 9 .sub 3 8 1 3, mvZ 10 0, boZ 11 .sub 3 9 10 3, rZ 12 (.call ⟨(.value (.func (51 : Nat))), #[(tZ 2), (tZ 6), (tZ 11)], #[81, 3, 3]⟩), asZ 5 12]
def bitmap_Turned_2_c : SF := ⟨13, (.seq (.reg bitmap_Turned_2_r0)
  (.seq (.reg bitmap_Turned_2_r1)
  .ret)), [.tmp 5]⟩
theorem bitmap_Turned_2_s : slimF Try.prog 70 = some bitmap_Turned_2_c := by kernel_rfl
abbrev bitmap_Turned_2_f : Nat := 70
/-- printworks/bitmap.Row -/
def bitmap_Row_r0 : List SO := [rZ 2 (.box 81 (tZ 0)), rZ 3 (.box 3 (tZ 1)), rZ 4 (.assign (.const .nilFunc))]
def bitmap_Row_r1 : List SO := [rZ 5 (.makeFunc (.func (78 : Nat)) #[] #[(tZ 2), (tZ 3)]), asZ 4 5]
def bitmap_Row_c : SF := ⟨6, (.seq (.reg bitmap_Row_r0)
  (.seq (.reg bitmap_Row_r1)
  .ret)), [.tmp 4]⟩
theorem bitmap_Row_s : slimF Try.prog 76 = some bitmap_Row_c := by kernel_rfl
abbrev bitmap_Row_f : Nat := 76
/-- printworks/bitmap.Row$1 -/
def bitmap_Row_1_r0 : List SO := [rZ 4 (.assign (ciZ 0))]
def bitmap_Row_1_r1 : List SO := [mvZ 6 4, ldZ 7 81 1, rZ 8 (.nilCheck (tZ 7)), faZ 9 29 8 0, ldZ 10 3 9, boZ 11 .lss 3 6 10 3]
def bitmap_Row_1_r2 : List SO := [ldZ 12 81 1, mvZ 13 4, ldZ 14 3 2, rZ 15 (.call ⟨(.value (.func (51 : Nat))), #[(tZ 12), (tZ 13), (tZ 14)], #[81, 3, 3]⟩), rZ 16 (.unOp .not 4 (tZ 15))]
def bitmap_Row_1_r3 : List SO := [mvZ 17 4, bcZ 18 .add 3 17 1 3, asZ 4 18]
def bitmap_Row_1_r4 : List SO := [mvZ 19 4, asZ 5 19]
def bitmap_Row_1_r5 : List SO := [mvZ 20 4, ldZ 21 81 1, rZ 22 (.nilCheck (tZ 21)), faZ 23 29 22 0, ldZ 24 3 23, boZ 25 .lss 3 20 24 3, mvZ 26 25, gZ 26 true (ldZ 27 81 1), gZ 26 true (mvZ 28 4), gZ 26 true (ldZ 29 3 2), gZ 26 true (rZ 30 (.call ⟨(.value (.func (51 : Nat))), #[(tZ 27), (tZ 28), (tZ 29)], #[81, 3, 3]⟩)), rZ 31 (.pick (tZ 26) (tZ 30) (.const (.bool false)))]
def bitmap_Row_1_r6 : List SO := [mvZ 32 4, bcZ 33 .add 3 32 1 3, asZ 4 33]
def bitmap_Row_1_r7 : List SO := [mvZ 34 0, ldZ 35 3 2, mvZ 36 5, mvZ 37 4, rZ 38 (.build 134 #[(0, (tZ 35)), (1, (tZ 36)), (2, (tZ 37))]), rZ 39 (.call ⟨(.value (tZ 34)), #[(tZ 38)], #[134]⟩), rZ 40 (.unOp .not 4 (tZ 39))]
def bitmap_Row_1_c : SF := ⟨41, (.seq (.reg bitmap_Row_1_r0)
  (.block 0 (.loop (.seq (.seq (.reg bitmap_Row_1_r1)
  (.cond (tZ 11) .skip (.exit 0)))
  (.block 1 (.seq (.seq (.reg bitmap_Row_1_r2)
  (.cond (tZ 16) (.seq (.reg bitmap_Row_1_r3)
  (.exit 1)) .skip))
  (.seq (.reg bitmap_Row_1_r4)
  (.seq (.block 2 (.loop (.seq (.seq (.reg bitmap_Row_1_r5)
  (.cond (tZ 31) .skip (.exit 2)))
  (.block 3 (.reg bitmap_Row_1_r6)))))
  (.seq (.reg bitmap_Row_1_r7)
  (.cond (tZ 40) .ret .skip)))))))))), []⟩
theorem bitmap_Row_1_s : slimF Try.prog 78 = some bitmap_Row_1_c := by kernel_rfl
abbrev bitmap_Row_1_f : Nat := 78

end Go.Proofs.Ythkilkjngincpaa
namespace Go.Proofs.Ythkilkjngincpaa
open Go Go.Lite
set_option linter.unusedVariables false

/-- printworks/matrix.Size -/
def matrix_Size_r0 : List SO := [rZ 2 (.assign (ciZ 0)), rZ 3 (.assign (ciZ 0)), rZ 4 (.assign (ciZ 0)), rZ 5 (.assign (ciZ 0))]
def matrix_Size_r1 : List SO := [mvZ 6 0, rZ 7 (.call ⟨(.value (.func (35 : Nat))), #[(tZ 6)], #[3]⟩), rZ 8 (.unOp .not 4 (tZ 7))]
def matrix_Size_r2 : List SO := [rZ 2 (.assign (ciZ 0)), rZ 3 (.assign (ciZ 0)), rZ 4 (.assign (ciZ 0)), rZ 5 (.assign (ciZ 3))]
def matrix_Size_r3 : List SO := [mvZ 9 0, bcZ 10 .sub 3 9 2 3, mvZ 11 0, bcZ 12 .sub 3 11 2 3, boZ 13 .mul 3 10 12 3, bcZ 14 .quo 3 13 8 3, asZ 2 14]
def matrix_Size_r4 : List SO := [mvZ 15 2, bcZ 16 .quo 3 15 6 3, bcZ 17 .mul 3 16 2 3, rZ 18 (.call ⟨(.builtin .max), #[(ciZ 2), (tZ 17)], #[3, 3]⟩), asZ 3 18]
def matrix_Size_r5 : List SO := [mvZ 19 2, mvZ 20 3, mvZ 21 2, mvZ 22 3, boZ 23 .sub 3 21 22 3, bcZ 24 .sub 3 23 1 3, asZ 2 19, asZ 3 20, asZ 4 24, rZ 5 (.assign (ciZ 0))]
def matrix_Size_c : SF := ⟨25, (.seq (.reg matrix_Size_r0)
  (.seq (.seq (.reg matrix_Size_r1)
  (.cond (tZ 8) (.seq (.reg matrix_Size_r2)
  .ret) .skip))
  (.seq (.reg matrix_Size_r3)
  (.seq (.reg matrix_Size_r4)
  (.seq (.reg matrix_Size_r5)
  .ret))))), [.tmp 2, .tmp 3, .tmp 4, .tmp 5]⟩
theorem matrix_Size_s : slimF Try.prog 10 = some matrix_Size_c := by kernel_rfl
abbrev matrix_Size_f : Nat := 10
/-- printworks/matrix.Encode -/
def matrix_Encode_r0 : List SO := [rZ 4 (.alloc 29), rZ 5 (.assign (ciZ 0))]
def matrix_Encode_r1 : List SO := [mvZ 19 1, rZ 20 (.call ⟨(.value (.func (10 : Nat))), #[(tZ 19)], #[3]⟩), mvZ 18 20, exZ 21 18 0, exZ 22 18 1, exZ 23 18 2, exZ 24 18 3, asZ 6 21, asZ 7 22, asZ 8 23, asZ 9 24]
def matrix_Encode_r2 : List SO := [mvZ 25 9, bcZ 26 .neq 25 25 0 25]
def matrix_Encode_r3 : List SO := [rZ 27 (.build 29 #[]), mvZ 28 9, stZ 29 4 27, asZ 5 28]
def matrix_Encode_r4 : List SO := [mvZ 29 0, rZ 30 (.call ⟨(.builtin .len), #[(tZ 29)], #[22]⟩), mvZ 31 8, boZ 32 .gtr 3 30 31 3]
def matrix_Encode_r5 : List SO := [rZ 33 (.build 29 #[]), stZ 29 4 33, rZ 5 (.assign (ciZ 2))]
def matrix_Encode_r6 : List SO := [mvZ 34 6, mvZ 35 7, boZ 36 .sub 3 34 35 3, rZ 37 (.makeSlice 22 (tZ 36) (tZ 36)), asZ 10 37]
def matrix_Encode_r7 : List SO := [mvZ 38 10, mvZ 39 0, rZ 40 (.call ⟨(.builtin .len), #[(tZ 39)], #[22]⟩), rZ 41 (.convert 3 5 (tZ 40)), rZ 42 (.indexAddr 22 (tZ 38) (ciZ 0)), stZ 5 42 41]
def matrix_Encode_r8 : List SO := [mvZ 43 10, rZ 44 (.slice 22 (tZ 43) (some (ciZ 1)) none none), mvZ 45 0, rZ 46 (.call ⟨(.builtin .copy), #[(tZ 44), (tZ 45)], #[22, 22]⟩)]
def matrix_Encode_r9 : List SO := [mvZ 48 10, mvZ 49 7, rZ 50 (.call ⟨(.value (.func (17 : Nat))), #[(tZ 48), (tZ 49)], #[22, 3]⟩), mvZ 47 50, exZ 51 47 0, exZ 52 47 1, asZ 11 51, asZ 9 52]
def matrix_Encode_r10 : List SO := [mvZ 53 9, bcZ 54 .neq 25 53 0 25]
def matrix_Encode_r11 : List SO := [rZ 55 (.build 29 #[]), mvZ 56 9, stZ 29 4 55, asZ 5 56]
def matrix_Encode_r12 : List SO := [mvZ 57 1, mvZ 58 1, rZ 59 (.call ⟨(.value (.func (36 : Nat))), #[(tZ 57), (tZ 58)], #[3, 3]⟩), rZ 12 (.alloc 29), stZ 29 12 59]
def matrix_Encode_r13 : List SO := [rZ 13 (.assign (ciZ 0))]
def matrix_Encode_r14 : List SO := [mvZ 60 1, rZ 61 (.move (ciZ 0))]
def matrix_Encode_r15 : List SO := [boZ 62 .lss 3 61 60 3]
def matrix_Encode_r16 : List SO := [mvZ 63 61, asZ 14 63]
def matrix_Encode_r17 : List SO := [mvZ 64 1, rZ 65 (.move (ciZ 0))]
def matrix_Encode_r18 : List SO := [boZ 66 .lss 3 65 64 3]
def matrix_Encode_r19 : List SO := [mvZ 67 65, asZ 15 67]
def matrix_Encode_r20 : List SO := [mvZ 69 1, mvZ 70 15, mvZ 71 14, rZ 72 (.call ⟨(.value (.func (37 : Nat))), #[(tZ 69), (tZ 70), (tZ 71)], #[3, 3, 3]⟩), mvZ 68 72, exZ 73 68 0, exZ 74 68 1, asZ 16 73, asZ 17 74]
def matrix_Encode_r21 : List SO := [mvZ 75 17, rZ 76 (.unOp .not 4 (tZ 75))]
def matrix_Encode_r22 : List SO := [mvZ 77 13, mvZ 78 6, rZ 79 (.binOp .mul 3 (ciZ 8) (tZ 78) 3), boZ 80 .lss 3 77 79 3, mvZ 81 80, gZ 81 true (mvZ 82 11), gZ 81 true (mvZ 83 13), gZ 81 true (bcZ 84 .quo 3 83 8 3), gZ 81 true (iaZ 85 22 82 84), gZ 81 true (ldZ 86 5 85), gZ 81 true (mvZ 87 13), gZ 81 true (bcZ 88 .rem 3 87 8 3), gZ 81 true (rZ 89 (.binOp .sub 3 (ciZ 7) (tZ 88) 3)), gZ 81 true (boZ 90 .shr 5 86 89 3), gZ 81 true (rZ 91 (.binOp .and 5 (tZ 90) (.const (.int .u8 1)) 5)), gZ 81 true (rZ 92 (.binOp .eql 5 (tZ 91) (.const (.int .u8 1)) 5)), rZ 93 (.pick (tZ 81) (tZ 92) (.const (.bool false))), asZ 16 93]
def matrix_Encode_r23 : List SO := [mvZ 94 13, bcZ 95 .add 3 94 1 3, asZ 13 95]
def matrix_Encode_r24 : List SO := [mvZ 96 16]
def matrix_Encode_r25 : List SO := [mvZ 97 15, mvZ 98 14, rZ 99 (.call ⟨(.value (.func (38 : Nat))), #[(tZ 12), (tZ 97), (tZ 98)], #[81, 3, 3]⟩)]
def matrix_Encode_r26 : List SO := [bcZ 100 .add 3 65 1 3, mvZ 65 100]
def matrix_Encode_r27 : List SO := [bcZ 101 .add 3 61 1 3, mvZ 61 101]
def matrix_Encode_r28 : List SO := [ldZ 102 29 12, stZ 29 4 102, rZ 5 (.assign (ciZ 0))]
def matrix_Encode_c : SF := ⟨103, (.seq (.reg matrix_Encode_r0)
  (.seq (.reg matrix_Encode_r1)
  (.seq (.seq (.reg matrix_Encode_r2)
  (.cond (tZ 26) (.seq (.reg matrix_Encode_r3)
  .ret) .skip))
  (.seq (.seq (.reg matrix_Encode_r4)
  (.cond (tZ 32) (.seq (.reg matrix_Encode_r5)
  .ret) .skip))
  (.seq (.reg matrix_Encode_r6)
  (.seq (.reg matrix_Encode_r7)
  (.seq (.reg matrix_Encode_r8)
  (.seq (.reg matrix_Encode_r9)
  (.seq (.seq (.reg matrix_Encode_r10)
  (.cond (tZ 54) (.seq (.reg matrix_Encode_r11)
  .ret) .skip))
  (.seq (.reg matrix_Encode_r12)
  (.seq (.reg matrix_Encode_r13)
  (.seq (.seq (.reg matrix_Encode_r14)
  (.block 0 (.loop (.seq (.reg matrix_Encode_r15)
  (.seq (.cond (tZ 62) .skip (.exit 0))
  (.seq (.block 1 (.seq (.reg matrix_Encode_r16)
  (.seq (.reg matrix_Encode_r17)
  (.block 2 (.loop (.seq (.reg matrix_Encode_r18)
  (.seq (.cond (tZ 66) .skip (.exit 2))
  (.seq (.block 3 (.seq (.reg matrix_Encode_r19)
  (.seq (.reg matrix_Encode_r20)
  (.seq (.seq (.reg matrix_Encode_r21)
  (.cond (tZ 76) (.seq (.reg matrix_Encode_r22)
  (.reg matrix_Encode_r23)) .skip))
  (.seq (.reg matrix_Encode_r24)
  (.cond (tZ 96) (.reg matrix_Encode_r25) .skip))))))
  (.reg matrix_Encode_r26)))))))))
  (.reg matrix_Encode_r27)))))))
  (.seq (.reg matrix_Encode_r28)
  .ret))))))))))))), [.cell 4 29, .tmp 5]⟩
theorem matrix_Encode_s : slimF Try.prog 11 = some matrix_Encode_c := by kernel_rfl
abbrev matrix_Encode_f : Nat := 11
/-- printworks/matrix.Decode -/
def matrix_Decode_r0 : List SO := [rZ 1 (.box 29 (tZ 0)), rZ 2 (.assign (.const (.slice none 0 0))), rZ 3 (.assign (ciZ 0)), rZ 4 (.assign (ciZ 0)), rZ 5 (.assign (ciZ 0))]
def matrix_Decode_r1 : List SO := [ldZ 22 29 1, rZ 23 (.call ⟨(.value (.func (12 : Nat))), #[(tZ 22)], #[29]⟩), asZ 6 23]
def matrix_Decode_r2 : List SO := [mvZ 24 6, bcZ 25 .neq 25 24 0 25]
def matrix_Decode_r3 : List SO := [mvZ 26 6, rZ 2 (.assign (.const (.slice none 0 0))), rZ 3 (.assign (ciZ 0)), rZ 4 (.assign (ciZ 0)), asZ 5 26]
def matrix_Decode_r4 : List SO := [faZ 27 29 1 0, ldZ 28 3 27, faZ 29 29 1 1, ldZ 30 3 29, boZ 31 .neq 3 28 30 3, mvZ 32 31, gZ 32 false (faZ 33 29 1 0), gZ 32 false (ldZ 34 3 33), gZ 32 false (rZ 35 (.call ⟨(.value (.func (35 : Nat))), #[(tZ 34)], #[3]⟩)), gZ 32 false (rZ 36 (.unOp .not 4 (tZ 35))), rZ 37 (.pick (tZ 32) (.const (.bool true)) (tZ 36))]
def matrix_Decode_r5 : List SO := [rZ 2 (.assign (.const (.slice none 0 0))), rZ 3 (.assign (ciZ 0)), rZ 4 (.assign (ciZ 0)), rZ 5 (.assign (ciZ 4))]
def matrix_Decode_r6 : List SO := [rZ 39 (.call ⟨(.value (.func (50 : Nat))), #[(tZ 1)], #[81]⟩), mvZ 38 39, exZ 40 38 0, exZ 41 38 1, asZ 4 40, asZ 7 41]
def matrix_Decode_r7 : List SO := [mvZ 42 7, faZ 43 29 1 0, ldZ 44 3 43, bcZ 45 .quo 3 44 4 3, boZ 46 .gtr 3 42 45 3]
def matrix_Decode_r8 : List SO := [rZ 2 (.assign (.const (.slice none 0 0))), rZ 3 (.assign (ciZ 0)), rZ 4 (.assign (ciZ 0)), rZ 5 (.assign (ciZ 21))]
def matrix_Decode_r9 : List SO := [mvZ 47 4, rZ 48 (.call ⟨(.value (.func (49 : Nat))), #[(tZ 1), (tZ 47)], #[81, 3]⟩), rZ 8 (.alloc 29), stZ 29 8 48]
def matrix_Decode_r10 : List SO := [faZ 50 29 1 0, ldZ 51 3 50, rZ 52 (.call ⟨(.value (.func (10 : Nat))), #[(tZ 51)], #[3]⟩), mvZ 49 52, exZ 53 49 0, exZ 54 49 1, exZ 55 49 2, exZ 56 49 3, asZ 9 53, asZ 10 54, asZ 11 55, asZ 12 56]
def matrix_Decode_r11 : List SO := [mvZ 57 9, rZ 58 (.makeSlice 22 (tZ 57) (tZ 57)), asZ 13 58]
def matrix_Decode_r12 : List SO := [rZ 14 (.assign (ciZ 0))]
def matrix_Decode_r13 : List SO := [faZ 59 29 8 1, ldZ 60 3 59, rZ 61 (.move (ciZ 0))]
def matrix_Decode_r14 : List SO := [boZ 62 .lss 3 61 60 3]
def matrix_Decode_r15 : List SO := [mvZ 63 61, asZ 15 63]
def matrix_Decode_r16 : List SO := [faZ 64 29 8 0, ldZ 65 3 64, rZ 66 (.move (ciZ 0))]
def matrix_Decode_r17 : List SO := [boZ 67 .lss 3 66 65 3]
def matrix_Decode_r18 : List SO := [mvZ 68 66, asZ 16 68]
def matrix_Decode_r19 : List SO := [faZ 70 29 8 0, ldZ 71 3 70, mvZ 72 16, mvZ 73 15, rZ 74 (.call ⟨(.value (.func (37 : Nat))), #[(tZ 71), (tZ 72), (tZ 73)], #[3, 3, 3]⟩), mvZ 69 74, exZ 75 69 0, exZ 76 69 1, asZ 17 75, asZ 18 76]
def matrix_Decode_r20 : List SO := [mvZ 77 18]
def matrix_Decode_r21 : List SO := [mvZ 78 14, mvZ 79 9, rZ 80 (.binOp .mul 3 (ciZ 8) (tZ 79) 3), boZ 81 .lss 3 78 80 3, mvZ 82 81, gZ 82 true (mvZ 83 16), gZ 82 true (mvZ 84 15), gZ 82 true (rZ 85 (.call ⟨(.value (.func (51 : Nat))), #[(tZ 8), (tZ 83), (tZ 84)], #[81, 3, 3]⟩)), rZ 86 (.pick (tZ 82) (tZ 85) (.const (.bool false)))]
def matrix_Decode_r22 : List SO := [mvZ 87 13, mvZ 88 14, bcZ 89 .quo 3 88 8 3, iaZ 90 22 87 89, ldZ 91 5 90, mvZ 92 14, bcZ 93 .rem 3 92 8 3, rZ 94 (.binOp .shr 5 (.const (.int .u8 128)) (tZ 93) 3), boZ 95 .or 5 91 94 5, iaZ 96 22 87 89, stZ 5 96 95]
def matrix_Decode_a22 : List (List Nat) := [[], [], [1], [0, 2], [3], [], [5], [6], [4, 7], [0, 2, 0, 1, 2, 3, 4, 5, 6, 7, 8], [9, 8, 0, 1, 2, 3, 4, 5, 6, 7, 8]]
def matrix_Decode_r23 : List SO := [mvZ 97 14, bcZ 98 .add 3 97 1 3, asZ 14 98]
def matrix_Decode_r24 : List SO := [bcZ 99 .add 3 66 1 3, mvZ 66 99]
def matrix_Decode_r25 : List SO := [bcZ 100 .add 3 61 1 3, mvZ 61 100]
def matrix_Decode_r26 : List SO := [mvZ 102 13, mvZ 103 10, rZ 104 (.call ⟨(.value (.func (18 : Nat))), #[(tZ 102), (tZ 103), (.const (.slice none 0 0))], #[22, 3, 38]⟩), mvZ 101 104, exZ 105 101 0, exZ 106 101 1, exZ 107 101 2, asZ 13 105, asZ 3 106, asZ 5 107]
def matrix_Decode_r27 : List SO := [mvZ 108 5, bcZ 109 .neq 25 108 0 25]
def matrix_Decode_r28 : List SO := [mvZ 110 5, rZ 2 (.assign (.const (.slice none 0 0))), rZ 3 (.assign (ciZ 0)), rZ 4 (.assign (ciZ 0)), asZ 5 110]
def matrix_Decode_r29 : List SO := [mvZ 111 13, rZ 112 (.indexAddr 22 (tZ 111) (ciZ 0)), ldZ 113 5 112, rZ 114 (.convert 5 3 (tZ 113)), asZ 19 114]
def matrix_Decode_r30 : List SO := [mvZ 115 19, mvZ 116 11, boZ 117 .gtr 3 115 116 3]
def matrix_Decode_r31 : List SO := [rZ 2 (.assign (.const (.slice none 0 0))), rZ 3 (.assign (ciZ 0)), rZ 4 (.assign (ciZ 0)), rZ 5 (.assign (ciZ 4))]
def matrix_Decode_r32 : List SO := [mvZ 118 13, mvZ 119 19, rZ 120 (.binOp .add 3 (ciZ 1) (tZ 119) 3), mvZ 121 9, mvZ 122 10, boZ 123 .sub 3 121 122 3, rZ 124 (.slice 22 (tZ 118) (some (tZ 120)) (some (tZ 123)) none), rZ 125 (.call ⟨(.builtin .len), #[(tZ 124)], #[22]⟩), rZ 126 (.move (ciZ 0))]
def matrix_Decode_r33 : List SO := [boZ 127 .lss 3 126 125 3]
def matrix_Decode_r34 : List SO := [iaZ 128 22 124 126, ldZ 129 5 128, asZ 21 129]
def matrix_Decode_r35 : List SO := [mvZ 130 21, rZ 131 (.binOp .neq 5 (tZ 130) (.const (.int .u8 0)) 5)]
def matrix_Decode_r36 : List SO := [rZ 2 (.assign (.const (.slice none 0 0))), rZ 3 (.assign (ciZ 0)), rZ 4 (.assign (ciZ 0)), rZ 5 (.assign (ciZ 4))]
def matrix_Decode_r37 : List SO := [bcZ 132 .add 3 126 1 3, mvZ 126 132]
def matrix_Decode_r38 : List SO := [mvZ 133 13, mvZ 134 19, rZ 135 (.binOp .add 3 (ciZ 1) (tZ 134) 3), rZ 136 (.slice 22 (tZ 133) (some (ciZ 1)) (some (tZ 135)) none), rZ 137 (.call ⟨(.builtin .append), #[(.const (.slice none 0 0)), (tZ 136)], #[22, 22]⟩), mvZ 138 3, mvZ 139 4, asZ 2 137, asZ 3 138, asZ 4 139, rZ 5 (.assign (ciZ 0))]
def matrix_Decode_c : SF := ⟨140, (.seq (.reg matrix_Decode_r0)
  (.seq (.seq (.reg matrix_Decode_r1)
  (.seq (.reg matrix_Decode_r2)
  (.cond (tZ 25) (.seq (.reg matrix_Decode_r3)
  .ret) .skip)))
  (.seq (.seq (.reg matrix_Decode_r4)
  (.cond (tZ 37) (.seq (.reg matrix_Decode_r5)
  .ret) .skip))
  (.seq (.reg matrix_Decode_r6)
  (.seq (.seq (.reg matrix_Decode_r7)
  (.cond (tZ 46) (.seq (.reg matrix_Decode_r8)
  .ret) .skip))
  (.seq (.reg matrix_Decode_r9)
  (.seq (.reg matrix_Decode_r10)
  (.seq (.reg matrix_Decode_r11)
  (.seq (.reg matrix_Decode_r12)
  (.seq (.seq (.reg matrix_Decode_r13)
  (.block 0 (.loop (.seq (.reg matrix_Decode_r14)
  (.seq (.cond (tZ 62) .skip (.exit 0))
  (.seq (.block 1 (.seq (.reg matrix_Decode_r15)
  (.seq (.reg matrix_Decode_r16)
  (.block 2 (.loop (.seq (.reg matrix_Decode_r17)
  (.seq (.cond (tZ 67) .skip (.exit 2))
  (.seq (.block 3 (.seq (.reg matrix_Decode_r18)
  (.seq (.seq (.reg matrix_Decode_r19)
  (.seq (.reg matrix_Decode_r20)
  (.cond (tZ 77) (.exit 3) .skip)))
  (.seq (.seq (.reg matrix_Decode_r21)
  (.cond (tZ 86) (.regd matrix_Decode_r22 matrix_Decode_a22) .skip))
  (.reg matrix_Decode_r23)))))
  (.reg matrix_Decode_r24)))))))))
  (.reg matrix_Decode_r25)))))))
  (.seq (.reg matrix_Decode_r26)
  (.seq (.seq (.reg matrix_Decode_r27)
  (.cond (tZ 109) (.seq (.reg matrix_Decode_r28)
  .ret) .skip))
  (.seq (.reg matrix_Decode_r29)
  (.seq (.seq (.reg matrix_Decode_r30)
  (.cond (tZ 117) (.seq (.reg matrix_Decode_r31)
  .ret) .skip))
  (.seq (.seq (.reg matrix_Decode_r32)
  (.block 4 (.loop (.seq (.reg matrix_Decode_r33)
  (.seq (.cond (tZ 127) .skip (.exit 4))
  (.seq (.block 5 (.seq (.reg matrix_Decode_r34)
  (.seq (.reg matrix_Decode_r35)
  (.cond (tZ 131) (.seq (.reg matrix_Decode_r36)
  .ret) .skip))))
  (.reg matrix_Decode_r37)))))))
  (.seq (.reg matrix_Decode_r38)
  .ret)))))))))))))))), [.tmp 2, .tmp 3, .tmp 4, .tmp 5]⟩
theorem matrix_Decode_s : slimF Try.prog 22 = some matrix_Decode_c := by kernel_rfl
abbrev matrix_Decode_f : Nat := 22
/-- printworks/matrix.isSide -/
def matrix_isSide_r0 : List SO := [rZ 2 (.assign (.const (.bool false)))]
def matrix_isSide_r1 : List SO := [mvZ 3 0, bcZ 4 .geq 3 3 8 3, mvZ 5 4, gZ 5 true (mvZ 6 0), gZ 5 true (bcZ 7 .leq 3 6 32 3), rZ 8 (.pick (tZ 5) (tZ 7) (.const (.bool false))), mvZ 9 8, gZ 9 true (mvZ 10 0), gZ 9 true (bcZ 11 .rem 3 10 2 3), gZ 9 true (bcZ 12 .eql 3 11 0 3), rZ 13 (.pick (tZ 9) (tZ 12) (.const (.bool false))), asZ 2 13]
def matrix_isSide_c : SF := ⟨14, (.seq (.reg matrix_isSide_r0)
  (.seq (.reg matrix_isSide_r1)
  .ret)), [.tmp 2]⟩
theorem matrix_isSide_s : slimF Try.prog 35 = some matrix_isSide_c := by kernel_rfl
abbrev matrix_isSide_f : Nat := 35
/-- printworks/matrix.dark -/
def matrix_dark_r0 : List SO := [rZ 6 (.assign (.const (.bool false))), rZ 7 (.assign (.const (.bool false)))]
def matrix_dark_r1 : List SO := [mvZ 9 1, bcZ 10 .eql 3 9 0 3, mvZ 11 10, gZ 11 false (mvZ 12 2), gZ 11 false (mvZ 13 0), gZ 11 false (bcZ 14 .sub 3 13 1 3), gZ 11 false (boZ 15 .eql 3 12 14 3), rZ 16 (.pick (tZ 11) (.const (.bool true)) (tZ 15)), asZ 8 16]
def matrix_dark_r2 : List SO := [rZ 6 (.assign (.const (.bool true))), rZ 7 (.assign (.const (.bool true)))]
def matrix_dark_r3 : List SO := [mvZ 18 2, bcZ 19 .eql 3 18 0 3, asZ 17 19]
def matrix_dark_r4 : List SO := [mvZ 20 1, bcZ 21 .rem 3 20 2 3, bcZ 22 .eql 3 21 0 3, asZ 6 22, rZ 7 (.assign (.const (.bool true)))]
def matrix_dark_r5 : List SO := [mvZ 24 1, mvZ 25 0, bcZ 26 .sub 3 25 1 3, boZ 27 .eql 3 24 26 3, asZ 23 27]
def matrix_dark_r6 : List SO := [mvZ 28 0, bcZ 29 .sub 3 28 1 3, mvZ 30 2, boZ 31 .sub 3 29 30 3, bcZ 32 .rem 3 31 2 3, bcZ 33 .eql 3 32 0 3, asZ 6 33, rZ 7 (.assign (.const (.bool true)))]
def matrix_dark_r7 : List SO := [rZ 6 (.assign (.const (.bool false))), rZ 7 (.assign (.const (.bool false)))]
def matrix_dark_c : SF := ⟨34, (.seq (.reg matrix_dark_r0)
  (.seq (.block 0 (.seq (.reg matrix_dark_r1)
  (.cond (tZ 8) (.seq (.reg matrix_dark_r2)
  .ret) (.seq (.reg matrix_dark_r3)
  (.cond (tZ 17) (.seq (.reg matrix_dark_r4)
  .ret) (.seq (.reg matrix_dark_r5)
  (.cond (tZ 23) (.seq (.reg matrix_dark_r6)
  .ret) .skip)))))))
  (.seq (.reg matrix_dark_r7)
  .ret))), [.tmp 6, .tmp 7]⟩
theorem matrix_dark_s : slimF Try.prog 37 = some matrix_dark_c := by kernel_rfl
abbrev matrix_dark_f : Nat := 37
/-- printworks/matrix.Border -/
def matrix_Border_r0 : List SO := [rZ 2 (.assign (ciZ 0)), rZ 3 (.assign (ciZ 0))]
def matrix_Border_r1 : List SO := [mvZ 11 0, rZ 12 (.nilCheck (tZ 11)), faZ 13 29 12 0, ldZ 14 3 13, rZ 15 (.binOp .mul 3 (ciZ 4) (tZ 14) 3), asZ 3 15]
def matrix_Border_r2 : List SO := [rZ 16 (.move (ciZ 0))]
def matrix_Border_r3 : List SO := [bcZ 17 .lss 3 16 4 3]
def matrix_Border_r4 : List SO := [mvZ 18 16, asZ 4 18]
def matrix_Border_r5 : List SO := [mvZ 19 0, mvZ 20 4, rZ 21 (.call ⟨(.value (.func (49 : Nat))), #[(tZ 19), (tZ 20)], #[81, 3]⟩), rZ 5 (.alloc 29), stZ 29 5 21]
def matrix_Border_r6 : List SO := [rZ 6 (.assign (ciZ 0))]
def matrix_Border_r7 : List SO := [faZ 22 29 5 1, ldZ 23 3 22, rZ 24 (.move (ciZ 0))]
def matrix_Border_r8 : List SO := [boZ 25 .lss 3 24 23 3]
def matrix_Border_r9 : List SO := [mvZ 26 24, asZ 7 26]
def matrix_Border_r10 : List SO := [faZ 27 29 5 0, ldZ 28 3 27, rZ 29 (.move (ciZ 0))]
def matrix_Border_r11 : List SO := [boZ 30 .lss 3 29 28 3]
def matrix_Border_r12 : List SO := [mvZ 31 29, asZ 8 31]
def matrix_Border_r13 : List SO := [faZ 33 29 5 0, ldZ 34 3 33, mvZ 35 8, mvZ 36 7, rZ 37 (.call ⟨(.value (.func (37 : Nat))), #[(tZ 34), (tZ 35), (tZ 36)], #[3, 3, 3]⟩), mvZ 32 37, exZ 38 32 0, exZ 39 32 1, asZ 9 38, asZ 10 39]
def matrix_Border_r14 : List SO := [mvZ 40 10, mvZ 41 40, gZ 41 true (mvZ 42 9), gZ 41 true (mvZ 43 8), gZ 41 true (mvZ 44 7), gZ 41 true (rZ 45 (.call ⟨(.value (.func (51 : Nat))), #[(tZ 5), (tZ 43), (tZ 44)], #[81, 3, 3]⟩)), gZ 41 true (boZ 46 .neq 4 42 45 4), rZ 47 (.pick (tZ 41) (tZ 46) (.const (.bool false)))]
def matrix_Border_r15 : List SO := [mvZ 48 6, bcZ 49 .add 3 48 1 3, asZ 6 49]
def matrix_Border_r16 : List SO := [bcZ 50 .add 3 29 1 3, mvZ 29 50]
def matrix_Border_r17 : List SO := [bcZ 51 .add 3 24 1 3, mvZ 24 51]
def matrix_Border_r18 : List SO := [mvZ 52 6, mvZ 53 3, boZ 54 .lss 3 52 53 3]
def matrix_Border_r19 : List SO := [mvZ 55 4, mvZ 56 6, asZ 2 55, asZ 3 56]
def matrix_Border_r20 : List SO := [bcZ 57 .add 3 16 1 3, mvZ 16 57]
def matrix_Border_r21 : List SO := [mvZ 58 2, mvZ 59 3, asZ 2 58, asZ 3 59]
def matrix_Border_c : SF := ⟨60, (.seq (.reg matrix_Border_r0)
  (.seq (.reg matrix_Border_r1)
  (.seq (.seq (.reg matrix_Border_r2)
  (.block 0 (.loop (.seq (.reg matrix_Border_r3)
  (.seq (.cond (tZ 17) .skip (.exit 0))
  (.seq (.block 1 (.seq (.reg matrix_Border_r4)
  (.seq (.reg matrix_Border_r5)
  (.seq (.reg matrix_Border_r6)
  (.seq (.seq (.reg matrix_Border_r7)
  (.block 2 (.loop (.seq (.reg matrix_Border_r8)
  (.seq (.cond (tZ 25) .skip (.exit 2))
  (.seq (.block 3 (.seq (.reg matrix_Border_r9)
  (.seq (.reg matrix_Border_r10)
  (.block 4 (.loop (.seq (.reg matrix_Border_r11)
  (.seq (.cond (tZ 30) .skip (.exit 4))
  (.seq (.block 5 (.seq (.reg matrix_Border_r12)
  (.seq (.reg matrix_Border_r13)
  (.seq (.reg matrix_Border_r14)
  (.cond (tZ 47) (.reg matrix_Border_r15) .skip)))))
  (.reg matrix_Border_r16)))))))))
  (.reg matrix_Border_r17)))))))
  (.seq (.reg matrix_Border_r18)
  (.cond (tZ 54) (.reg matrix_Border_r19) .skip)))))))
  (.reg matrix_Border_r20)))))))
  (.seq (.reg matrix_Border_r21)
  .ret)))), [.tmp 2, .tmp 3]⟩
theorem matrix_Border_s : slimF Try.prog 50 = some matrix_Border_c := by kernel_rfl
abbrev matrix_Border_f : Nat := 50

end Go.Proofs.Ythkilkjngincpaa
namespace Go.Proofs.Ythkilkjngincpaa
open Go Go.Lite
set_option linter.unusedVariables false

/-- printworks/reedsolomon.Encode -/
def reedsolomon_Encode_r0 : List SO := [rZ 4 (.assign (.const (.slice none 0 0))), rZ 5 (.assign (ciZ 0))]
def reedsolomon_Encode_r1 : List SO := [mvZ 13 1, bcZ 14 .lss 3 13 1 3, mvZ 15 14, gZ 15 false (mvZ 16 1), gZ 15 false (bcZ 17 .gtr 3 16 64 3), rZ 18 (.pick (tZ 15) (.const (.bool true)) (tZ 17))]
def reedsolomon_Encode_r2 : List SO := [rZ 4 (.assign (.const (.slice none 0 0))), rZ 5 (.assign (ciZ 3))]
def reedsolomon_Encode_r3 : List SO := [mvZ 19 0, rZ 20 (.call ⟨(.builtin .len), #[(tZ 19)], #[22]⟩), bcZ 21 .eql 3 20 0 3]
def reedsolomon_Encode_r4 : List SO := [rZ 4 (.assign (.const (.slice none 0 0))), rZ 5 (.assign (ciZ 1))]
def reedsolomon_Encode_r5 : List SO := [mvZ 22 0, rZ 23 (.call ⟨(.builtin .len), #[(tZ 22)], #[22]⟩), mvZ 24 1, boZ 25 .add 3 23 24 3, bcZ 26 .gtr 3 25 255 3]
def reedsolomon_Encode_r6 : List SO := [rZ 4 (.assign (.const (.slice none 0 0))), rZ 5 (.assign (ciZ 2))]
def reedsolomon_Encode_r7 : List SO := [rZ 27 (.buildSlice 85 1 #[(0, (.const (.int .u8 1)))]), asZ 6 27]
def reedsolomon_Encode_r8 : List SO := [mvZ 28 1, rZ 29 (.move (ciZ 0))]
def reedsolomon_Encode_r9 : List SO := [boZ 30 .lss 3 29 28 3]
def reedsolomon_Encode_r10 : List SO := [mvZ 31 29, asZ 7 31]
def reedsolomon_Encode_r11 : List SO := [mvZ 32 6, mvZ 33 7, rZ 34 (.call ⟨(.value (.func (46 : Nat))), #[(.const (.int .u8 2)), (tZ 33)], #[5, 3]⟩), rZ 35 (.buildSlice 85 2 #[(0, (tZ 34)), (1, (.const (.int .u8 1)))]), mvZ 36 1, bcZ 37 .add 3 36 1 3, rZ 38 (.call ⟨(.value (.func (45 : Nat))), #[(tZ 32), (tZ 35), (tZ 37)], #[85, 85, 3]⟩), asZ 6 38]
def reedsolomon_Encode_r12 : List SO := [bcZ 39 .add 3 29 1 3, mvZ 29 39]
def reedsolomon_Encode_r13 : List SO := [mvZ 40 1, rZ 41 (.makeSlice 22 (tZ 40) (tZ 40)), asZ 8 41]
def reedsolomon_Encode_r14 : List SO := [mvZ 42 0, rZ 43 (.call ⟨(.builtin .len), #[(tZ 42)], #[22]⟩), rZ 44 (.move (ciZ 0))]
def reedsolomon_Encode_r15 : List SO := [boZ 45 .lss 3 44 43 3]
def reedsolomon_Encode_r16 : List SO := [iaZ 46 22 42 44, ldZ 47 5 46, asZ 10 47]
def reedsolomon_Encode_r17 : List SO := [mvZ 48 10, mvZ 49 8, rZ 50 (.indexAddr 22 (tZ 49) (ciZ 0)), ldZ 51 5 50, boZ 52 .xor 5 48 51 5, asZ 11 52]
def reedsolomon_Encode_r18 : List SO := [mvZ 53 8, mvZ 54 8, rZ 55 (.slice 22 (tZ 54) (some (ciZ 1)) none none), rZ 56 (.call ⟨(.builtin .copy), #[(tZ 53), (tZ 55)], #[22, 22]⟩)]
def reedsolomon_Encode_r19 : List SO := [mvZ 57 8, mvZ 58 1, bcZ 59 .sub 3 58 1 3, iaZ 60 22 57 59, ⟨none, .store 5 (tZ 60) (.const (.int .u8 0)), none⟩]
def reedsolomon_Encode_r20 : List SO := [mvZ 61 8, rZ 62 (.call ⟨(.builtin .len), #[(tZ 61)], #[22]⟩), rZ 63 (.move (ciZ 0))]
def reedsolomon_Encode_r21 : List SO := [boZ 64 .lss 3 63 62 3]
def reedsolomon_Encode_r22 : List SO := [mvZ 65 63, asZ 12 65]
def reedsolomon_Encode_r23 : List SO := [mvZ 66 8, mvZ 67 12, iaZ 68 22 66 67, ldZ 69 5 68, mvZ 70 11, mvZ 71 6, mvZ 72 1, bcZ 73 .sub 3 72 1 3, mvZ 74 12, boZ 75 .sub 3 73 74 3, iaZ 76 85 71 75, ldZ 77 5 76, rZ 78 (.call ⟨(.value (.func (44 : Nat))), #[(tZ 70), (tZ 77)], #[5, 5]⟩), boZ 79 .xor 5 69 78 5, iaZ 80 22 66 67, stZ 5 80 79]
def reedsolomon_Encode_a23 : List (List Nat) := [[], [], [0, 1], [2], [], [], [], [6], [], [7, 8], [5, 9], [10], [4, 11], [3, 12], [0, 1, 0, 1, 2, 3, 4, 5, 6, 7, 8, 9, 10, 11, 12, 13], [14, 13, 12, 0, 1, 2, 3, 4, 5, 6, 7, 8, 9, 10, 11, 12, 13]]
def reedsolomon_Encode_r24 : List SO := [bcZ 81 .add 3 63 1 3, mvZ 63 81]
def reedsolomon_Encode_r25 : List SO := [bcZ 82 .add 3 44 1 3, mvZ 44 82]
def reedsolomon_Encode_r26 : List SO := [mvZ 83 0, rZ 84 (.call ⟨(.builtin .append), #[(.const (.slice none 0 0)), (tZ 83)], #[22, 22]⟩), mvZ 85 8, rZ 86 (.call ⟨(.builtin .append), #[(tZ 84), (tZ 85)], #[22, 22]⟩), asZ 4 86, rZ 5 (.assign (ciZ 0))]
def reedsolomon_Encode_c : SF := ⟨87, (.seq (.reg reedsolomon_Encode_r0)
  (.seq (.seq (.reg reedsolomon_Encode_r1)
  (.cond (tZ 18) (.seq (.reg reedsolomon_Encode_r2)
  .ret) .skip))
  (.seq (.seq (.reg reedsolomon_Encode_r3)
  (.cond (tZ 21) (.seq (.reg reedsolomon_Encode_r4)
  .ret) .skip))
  (.seq (.seq (.reg reedsolomon_Encode_r5)
  (.cond (tZ 26) (.seq (.reg reedsolomon_Encode_r6)
  .ret) .skip))
  (.seq (.reg reedsolomon_Encode_r7)
  (.seq (.seq (.reg reedsolomon_Encode_r8)
  (.block 0 (.loop (.seq (.reg reedsolomon_Encode_r9)
  (.seq (.cond (tZ 30) .skip (.exit 0))
  (.seq (.block 1 (.seq (.reg reedsolomon_Encode_r10)
  (.reg reedsolomon_Encode_r11)))
  (.reg reedsolomon_Encode_r12)))))))
  (.seq (.reg reedsolomon_Encode_r13)
  (.seq (.seq (.reg reedsolomon_Encode_r14)
  (.block 2 (.loop (.seq (.reg reedsolomon_Encode_r15)
  (.seq (.cond (tZ 45) .skip (.exit 2))
  (.seq (.block 3 (.seq (.reg reedsolomon_Encode_r16)
  (.seq (.reg reedsolomon_Encode_r17)
  (.seq (.reg reedsolomon_Encode_r18)
  (.seq (.reg reedsolomon_Encode_r19)
  (.seq (.reg reedsolomon_Encode_r20)
  (.block 4 (.loop (.seq (.reg reedsolomon_Encode_r21)
  (.seq (.cond (tZ 64) .skip (.exit 4))
  (.seq (.block 5 (.seq (.reg reedsolomon_Encode_r22)
  (.regd reedsolomon_Encode_r23 reedsolomon_Encode_a23)))
  (.reg reedsolomon_Encode_r24))))))))))))
  (.reg reedsolomon_Encode_r25)))))))
  (.seq (.reg reedsolomon_Encode_r26)
  .ret))))))))), [.tmp 4, .tmp 5]⟩
theorem reedsolomon_Encode_s : slimF Try.prog 17 = some reedsolomon_Encode_c := by kernel_rfl
abbrev reedsolomon_Encode_f : Nat := 17
/-- printworks/reedsolomon.Decode -/
def reedsolomon_Decode_r0 : List SO := [rZ 6 (.assign (.const (.slice none 0 0))), rZ 7 (.assign (ciZ 0)), rZ 8 (.assign (ciZ 0))]
def reedsolomon_Decode_r1 : List SO := [mvZ 21 0, mvZ 22 1, rZ 23 (.call ⟨(.value (.func (41 : Nat))), #[(tZ 21), (tZ 22)], #[22, 3]⟩), asZ 9 23]
def reedsolomon_Decode_r2 : List SO := [mvZ 24 9, bcZ 25 .neq 25 24 0 25]
def reedsolomon_Decode_r3 : List SO := [mvZ 26 9, rZ 6 (.assign (.const (.slice none 0 0))), rZ 7 (.assign (ciZ 0)), asZ 8 26]
def reedsolomon_Decode_r4 : List SO := [mvZ 27 0, rZ 28 (.call ⟨(.builtin .len), #[(tZ 27)], #[22]⟩), rZ 29 (.makeSlice 41 (tZ 28) (tZ 28)), asZ 10 29]
def reedsolomon_Decode_r5 : List SO := [rZ 30 (.buildSlice 85 1 #[(0, (.const (.int .u8 1)))]), asZ 11 30]
def reedsolomon_Decode_r6 : List SO := [mvZ 31 2, rZ 32 (.call ⟨(.builtin .len), #[(tZ 31)], #[38]⟩), rZ 33 (.move (ciZ 0))]
def reedsolomon_Decode_r7 : List SO := [boZ 34 .lss 3 33 32 3]
def reedsolomon_Decode_r8 : List SO := [iaZ 35 38 31 33, ldZ 36 3 35, asZ 13 36]
def reedsolomon_Decode_r9 : List SO := [mvZ 37 13, bcZ 38 .lss 3 37 0 3, mvZ 39 38, gZ 39 false (mvZ 40 13), gZ 39 false (mvZ 41 0), gZ 39 false (rZ 42 (.call ⟨(.builtin .len), #[(tZ 41)], #[22]⟩)), gZ 39 false (boZ 43 .geq 3 40 42 3), rZ 44 (.pick (tZ 39) (.const (.bool true)) (tZ 43))]
def reedsolomon_Decode_r10 : List SO := [rZ 6 (.assign (.const (.slice none 0 0))), rZ 7 (.assign (ciZ 0)), rZ 8 (.assign (ciZ 3))]
def reedsolomon_Decode_r11 : List SO := [mvZ 45 10, mvZ 46 13, iaZ 47 41 45 46, ldZ 48 4 47]
def reedsolomon_Decode_r12 : List SO := [rZ 6 (.assign (.const (.slice none 0 0))), rZ 7 (.assign (ciZ 0)), rZ 8 (.assign (ciZ 7))]
def reedsolomon_Decode_r13 : List SO := [mvZ 49 10, mvZ 50 13, iaZ 51 41 49 50, ⟨none, .store 4 (tZ 51) (.const (.bool true)), none⟩]
def reedsolomon_Decode_r14 : List SO := [mvZ 52 11, mvZ 53 0, rZ 54 (.call ⟨(.builtin .len), #[(tZ 53)], #[22]⟩), bcZ 55 .sub 3 54 1 3, mvZ 56 13, boZ 57 .sub 3 55 56 3, rZ 58 (.call ⟨(.value (.func (46 : Nat))), #[(.const (.int .u8 2)), (tZ 57)], #[5, 3]⟩), rZ 59 (.buildSlice 85 2 #[(0, (.const (.int .u8 1))), (1, (tZ 58))]), rZ 60 (.call ⟨(.value (.func (45 : Nat))), #[(tZ 52), (tZ 59), (ciZ 256)], #[85, 85, 3]⟩), asZ 11 60]
def reedsolomon_Decode_r15 : List SO := [bcZ 61 .add 3 33 1 3, mvZ 33 61]
def reedsolomon_Decode_r16 : List SO := [mvZ 62 2, rZ 63 (.call ⟨(.builtin .len), #[(tZ 62)], #[38]⟩), mvZ 64 1, boZ 65 .gtr 3 63 64 3]
def reedsolomon_Decode_r17 : List SO := [rZ 6 (.assign (.const (.slice none 0 0))), rZ 7 (.assign (ciZ 0)), rZ 8 (.assign (ciZ 21))]
def reedsolomon_Decode_r18 : List SO := [mvZ 66 0, rZ 67 (.call ⟨(.builtin .append), #[(.const (.slice none 0 0)), (tZ 66)], #[22, 22]⟩), asZ 14 67]
def reedsolomon_Decode_r19 : List SO := [mvZ 69 0, mvZ 70 1, rZ 71 (.call ⟨(.value (.func (42 : Nat))), #[(tZ 69), (tZ 70)], #[22, 3]⟩), mvZ 68 71, exZ 72 68 0, exZ 73 68 1, asZ 15 72, asZ 16 73]
def reedsolomon_Decode_r20 : List SO := [mvZ 74 16]
def reedsolomon_Decode_r21 : List SO := [mvZ 75 14, asZ 6 75, rZ 7 (.assign (ciZ 0)), rZ 8 (.assign (ciZ 0))]
def reedsolomon_Decode_r22 : List SO := [mvZ 76 14, mvZ 77 15, mvZ 78 15, mvZ 79 11, mvZ 80 2, rZ 81 (.call ⟨(.builtin .len), #[(tZ 80)], #[38]⟩), rZ 82 (.call ⟨(.value (.func (48 : Nat))), #[(tZ 78), (tZ 79), (tZ 81)], #[85, 85, 3]⟩), rZ 83 (.call ⟨(.value (.func (47 : Nat))), #[(tZ 76), (tZ 77), (tZ 82)], #[22, 85, 85]⟩)]
def reedsolomon_Decode_r23 : List SO := [rZ 17 (.assign (ciZ 0)), rZ 18 (.assign (ciZ 0))]
def reedsolomon_Decode_r24 : List SO := [mvZ 84 14, rZ 85 (.call ⟨(.builtin .len), #[(tZ 84)], #[22]⟩), rZ 86 (.move (ciZ 0))]
def reedsolomon_Decode_r25 : List SO := [boZ 87 .lss 3 86 85 3]
def reedsolomon_Decode_r26 : List SO := [mvZ 88 86, iaZ 89 22 84 86, ldZ 90 5 89, asZ 19 88, asZ 20 90]
def reedsolomon_Decode_r27 : List SO := [mvZ 91 20, mvZ 92 0, mvZ 93 19, iaZ 94 22 92 93, ldZ 95 5 94, boZ 96 .neq 5 91 95 5]
def reedsolomon_Decode_r28 : List SO := [mvZ 97 17, bcZ 98 .add 3 97 1 3, asZ 17 98]
def reedsolomon_Decode_r29 : List SO := [mvZ 99 10, mvZ 100 19, iaZ 101 41 99 100, ldZ 102 4 101, rZ 103 (.unOp .not 4 (tZ 102))]
def reedsolomon_Decode_r30 : List SO := [mvZ 104 18, bcZ 105 .add 3 104 1 3, asZ 18 105]
def reedsolomon_Decode_r31 : List SO := [bcZ 106 .add 3 86 1 3, mvZ 86 106]
def reedsolomon_Decode_r32 : List SO := [mvZ 108 14, mvZ 109 1, rZ 110 (.call ⟨(.value (.func (42 : Nat))), #[(tZ 108), (tZ 109)], #[22, 3]⟩), mvZ 107 110, exZ 111 107 0, exZ 112 107 1, asZ 16 112]
def reedsolomon_Decode_r33 : List SO := [mvZ 113 16, rZ 114 (.unOp .not 4 (tZ 113)), mvZ 115 114, gZ 115 false (mvZ 116 18), gZ 115 false (rZ 117 (.binOp .mul 3 (ciZ 2) (tZ 116) 3)), gZ 115 false (mvZ 118 1), gZ 115 false (mvZ 119 2), gZ 115 false (rZ 120 (.call ⟨(.builtin .len), #[(tZ 119)], #[38]⟩)), gZ 115 false (boZ 121 .sub 3 118 120 3), gZ 115 false (boZ 122 .gtr 3 117 121 3), rZ 123 (.pick (tZ 115) (.const (.bool true)) (tZ 122))]
def reedsolomon_Decode_r34 : List SO := [rZ 6 (.assign (.const (.slice none 0 0))), rZ 7 (.assign (ciZ 0)), rZ 8 (.assign (ciZ 21))]
def reedsolomon_Decode_r35 : List SO := [mvZ 124 14, mvZ 125 17, asZ 6 124, asZ 7 125, rZ 8 (.assign (ciZ 0))]
def reedsolomon_Decode_c : SF := ⟨126, (.seq (.reg reedsolomon_Decode_r0)
  (.seq (.seq (.reg reedsolomon_Decode_r1)
  (.seq (.reg reedsolomon_Decode_r2)
  (.cond (tZ 25) (.seq (.reg reedsolomon_Decode_r3)
  .ret) .skip)))
  (.seq (.reg reedsolomon_Decode_r4)
  (.seq (.reg reedsolomon_Decode_r5)
  (.seq (.seq (.reg reedsolomon_Decode_r6)
  (.block 0 (.loop (.seq (.reg reedsolomon_Decode_r7)
  (.seq (.cond (tZ 34) .skip (.exit 0))
  (.seq (.block 1 (.seq (.reg reedsolomon_Decode_r8)
  (.seq (.seq (.reg reedsolomon_Decode_r9)
  (.cond (tZ 44) (.seq (.reg reedsolomon_Decode_r10)
  .ret) .skip))
  (.seq (.seq (.reg reedsolomon_Decode_r11)
  (.cond (tZ 48) (.seq (.reg reedsolomon_Decode_r12)
  .ret) .skip))
  (.seq (.reg reedsolomon_Decode_r13)
  (.reg reedsolomon_Decode_r14))))))
  (.reg reedsolomon_Decode_r15)))))))
  (.seq (.seq (.reg reedsolomon_Decode_r16)
  (.cond (tZ 65) (.seq (.reg reedsolomon_Decode_r17)
  .ret) .skip))
  (.seq (.reg reedsolomon_Decode_r18)
  (.seq (.reg reedsolomon_Decode_r19)
  (.seq (.seq (.reg reedsolomon_Decode_r20)
  (.cond (tZ 74) (.seq (.reg reedsolomon_Decode_r21)
  .ret) .skip))
  (.seq (.reg reedsolomon_Decode_r22)
  (.seq (.reg reedsolomon_Decode_r23)
  (.seq (.seq (.reg reedsolomon_Decode_r24)
  (.block 2 (.loop (.seq (.reg reedsolomon_Decode_r25)
  (.seq (.cond (tZ 87) .skip (.exit 2))
  (.seq (.block 3 (.seq (.reg reedsolomon_Decode_r26)
  (.seq (.reg reedsolomon_Decode_r27)
  (.cond (tZ 96) (.seq (.reg reedsolomon_Decode_r28)
  (.seq (.reg reedsolomon_Decode_r29)
  (.cond (tZ 103) (.reg reedsolomon_Decode_r30) .skip))) .skip))))
  (.reg reedsolomon_Decode_r31)))))))
  (.seq (.seq (.reg reedsolomon_Decode_r32)
  (.seq (.reg reedsolomon_Decode_r33)
  (.cond (tZ 123) (.seq (.reg reedsolomon_Decode_r34)
  .ret) .skip)))
  (.seq (.reg reedsolomon_Decode_r35)
  .ret)))))))))))))), [.tmp 6, .tmp 7, .tmp 8]⟩
theorem reedsolomon_Decode_s : slimF Try.prog 18 = some reedsolomon_Decode_c := by kernel_rfl
abbrev reedsolomon_Decode_f : Nat := 18
/-- printworks/reedsolomon.check -/
def reedsolomon_check_r0 : List SO := [rZ 4 (.assign (ciZ 0))]
def reedsolomon_check_r1 : List SO := [mvZ 6 1, bcZ 7 .lss 3 6 1 3, mvZ 8 7, gZ 8 false (mvZ 9 1), gZ 8 false (bcZ 10 .gtr 3 9 64 3), rZ 11 (.pick (tZ 8) (.const (.bool true)) (tZ 10)), asZ 5 11]
def reedsolomon_check_r2 : List SO := [rZ 4 (.assign (ciZ 3))]
def reedsolomon_check_r3 : List SO := [mvZ 13 0, rZ 14 (.call ⟨(.builtin .len), #[(tZ 13)], #[22]⟩), bcZ 15 .gtr 3 14 255 3, asZ 12 15]
def reedsolomon_check_r4 : List SO := [rZ 4 (.assign (ciZ 2))]
def reedsolomon_check_r5 : List SO := [mvZ 17 0, rZ 18 (.call ⟨(.builtin .len), #[(tZ 17)], #[22]⟩), mvZ 19 1, boZ 20 .leq 3 18 19 3, asZ 16 20]
def reedsolomon_check_r6 : List SO := [rZ 4 (.assign (ciZ 12))]
def reedsolomon_check_r7 : List SO := [rZ 4 (.assign (ciZ 0))]
def reedsolomon_check_c : SF := ⟨21, (.seq (.reg reedsolomon_check_r0)
  (.seq (.block 0 (.seq (.reg reedsolomon_check_r1)
  (.cond (tZ 5) (.seq (.reg reedsolomon_check_r2)
  .ret) (.seq (.reg reedsolomon_check_r3)
  (.cond (tZ 12) (.seq (.reg reedsolomon_check_r4)
  .ret) (.seq (.reg reedsolomon_check_r5)
  (.cond (tZ 16) (.seq (.reg reedsolomon_check_r6)
  .ret) .skip)))))))
  (.seq (.reg reedsolomon_check_r7)
  .ret))), [.tmp 4]⟩
theorem reedsolomon_check_s : slimF Try.prog 41 = some reedsolomon_check_c := by kernel_rfl
abbrev reedsolomon_check_f : Nat := 41
/-- printworks/reedsolomon.syndromes -/
def reedsolomon_syndromes_r0 : List SO := [rZ 4 (.assign (.const (.slice none 0 0))), rZ 5 (.assign (.const (.bool false)))]
def reedsolomon_syndromes_r1 : List SO := [mvZ 13 1, rZ 14 (.makeSlice 85 (tZ 13) (tZ 13)), asZ 6 14, rZ 7 (.assign (.const (.bool true)))]
def reedsolomon_syndromes_r2 : List SO := [mvZ 15 6, rZ 16 (.call ⟨(.builtin .len), #[(tZ 15)], #[85]⟩), rZ 17 (.move (ciZ 0))]
def reedsolomon_syndromes_r3 : List SO := [boZ 18 .lss 3 17 16 3]
def reedsolomon_syndromes_r4 : List SO := [mvZ 19 17, asZ 8 19]
def reedsolomon_syndromes_r5 : List SO := [mvZ 20 8, rZ 21 (.call ⟨(.value (.func (46 : Nat))), #[(.const (.int .u8 2)), (tZ 20)], #[5, 3]⟩), asZ 9 21]
def reedsolomon_syndromes_r6 : List SO := [rZ 10 (.assign (.const (.int .u8 0)))]
def reedsolomon_syndromes_r7 : List SO := [mvZ 22 0, rZ 23 (.call ⟨(.builtin .len), #[(tZ 22)], #[22]⟩), rZ 24 (.move (ciZ 0))]
def reedsolomon_syndromes_r8 : List SO := [boZ 25 .lss 3 24 23 3]
def reedsolomon_syndromes_r9 : List SO := [iaZ 26 22 22 24, ldZ 27 5 26, asZ 12 27]
def reedsolomon_syndromes_r10 : List SO := [mvZ 28 10, mvZ 29 9, rZ 30 (.call ⟨(.value (.func (44 : Nat))), #[(tZ 28), (tZ 29)], #[5, 5]⟩), mvZ 31 12, boZ 32 .xor 5 30 31 5, asZ 10 32]
def reedsolomon_syndromes_r11 : List SO := [bcZ 33 .add 3 24 1 3, mvZ 24 33]
def reedsolomon_syndromes_r12 : List SO := [mvZ 34 6, mvZ 35 8, mvZ 36 10, iaZ 37 85 34 35, stZ 5 37 36]
def reedsolomon_syndromes_r13 : List SO := [mvZ 38 7, mvZ 39 38, gZ 39 true (mvZ 40 10), gZ 39 true (rZ 41 (.binOp .eql 5 (tZ 40) (.const (.int .u8 0)) 5)), rZ 42 (.pick (tZ 39) (tZ 41) (.const (.bool false))), asZ 7 42]
def reedsolomon_syndromes_r14 : List SO := [bcZ 43 .add 3 17 1 3, mvZ 17 43]
def reedsolomon_syndromes_r15 : List SO := [mvZ 44 6, mvZ 45 7, asZ 4 44, asZ 5 45]
def reedsolomon_syndromes_c : SF := ⟨46, (.seq (.reg reedsolomon_syndromes_r0)
  (.seq (.reg reedsolomon_syndromes_r1)
  (.seq (.seq (.reg reedsolomon_syndromes_r2)
  (.block 0 (.loop (.seq (.reg reedsolomon_syndromes_r3)
  (.seq (.cond (tZ 18) .skip (.exit 0))
  (.seq (.block 1 (.seq (.reg reedsolomon_syndromes_r4)
  (.seq (.reg reedsolomon_syndromes_r5)
  (.seq (.reg reedsolomon_syndromes_r6)
  (.seq (.seq (.reg reedsolomon_syndromes_r7)
  (.block 2 (.loop (.seq (.reg reedsolomon_syndromes_r8)
  (.seq (.cond (tZ 25) .skip (.exit 2))
  (.seq (.block 3 (.seq (.reg reedsolomon_syndromes_r9)
  (.reg reedsolomon_syndromes_r10)))
  (.reg reedsolomon_syndromes_r11)))))))
  (.seq (.reg reedsolomon_syndromes_r12)
  (.reg reedsolomon_syndromes_r13)))))))
  (.reg reedsolomon_syndromes_r14)))))))
  (.seq (.reg reedsolomon_syndromes_r15)
  .ret)))), [.tmp 4, .tmp 5]⟩
theorem reedsolomon_syndromes_s : slimF Try.prog 42 = some reedsolomon_syndromes_c := by kernel_rfl
abbrev reedsolomon_syndromes_f : Nat := 42
/-- printworks/reedsolomon.Mul -/
def reedsolomon_Mul_r0 : List SO := [rZ 4 (.assign (.const (.int .u8 0)))]
def reedsolomon_Mul_r1 : List SO := [rZ 5 (.assign (.const (.int .u8 0)))]
def reedsolomon_Mul_r2 : List SO := [mvZ 6 1, rZ 7 (.binOp .gtr 5 (tZ 6) (.const (.int .u8 0)) 5)]
def reedsolomon_Mul_r3 : List SO := [mvZ 8 5, mvZ 9 0, mvZ 10 1, rZ 11 (.binOp .and 5 (tZ 10) (.const (.int .u8 1)) 5), rZ 12 (.unOp .neg 5 (tZ 11)), boZ 13 .and 5 9 12 5, boZ 14 .xor 5 8 13 5, asZ 5 14]
def reedsolomon_Mul_r4 : List SO := [mvZ 15 0, rZ 16 (.binOp .shl 5 (tZ 15) (.const (.int .u64 1)) 123), mvZ 17 0, rZ 18 (.binOp .shr 5 (tZ 17) (.const (.int .u64 7)) 123), rZ 19 (.unOp .neg 5 (tZ 18)), rZ 20 (.binOp .and 5 (.const (.int .u8 29)) (tZ 19) 5), boZ 21 .xor 5 16 20 5, asZ 0 21]
def reedsolomon_Mul_r5 : List SO := [mvZ 22 1, rZ 23 (.binOp .shr 5 (tZ 22) (.const (.int .u64 1)) 123), asZ 1 23]
def reedsolomon_Mul_r6 : List SO := [mvZ 24 5, asZ 4 24]
def reedsolomon_Mul_c : SF := ⟨25, (.seq (.reg reedsolomon_Mul_r0)
  (.seq (.reg reedsolomon_Mul_r1)
  (.seq (.block 0 (.loop (.seq (.seq (.reg reedsolomon_Mul_r2)
  (.cond (tZ 7) .skip (.exit 0)))
  (.block 1 (.seq (.reg reedsolomon_Mul_r3)
  (.seq (.reg reedsolomon_Mul_r4)
  (.reg reedsolomon_Mul_r5)))))))
  (.seq (.reg reedsolomon_Mul_r6)
  .ret)))), [.tmp 4]⟩
theorem reedsolomon_Mul_s : slimF Try.prog 44 = some reedsolomon_Mul_c := by kernel_rfl
abbrev reedsolomon_Mul_f : Nat := 44
/-- printworks/reedsolomon.power -/
def reedsolomon_power_r0 : List SO := [rZ 4 (.assign (.const (.int .u8 0)))]
def reedsolomon_power_r1 : List SO := [rZ 5 (.assign (.const (.int .u8 1)))]
def reedsolomon_power_r2 : List SO := [mvZ 6 1, bcZ 7 .gtr 3 6 0 3]
def reedsolomon_power_r3 : List SO := [mvZ 10 1, bcZ 11 .and 3 10 1 3, bcZ 12 .eql 3 11 1 3]
def reedsolomon_power_r4 : List SO := [mvZ 13 5, mvZ 14 0, rZ 15 (.call ⟨(.value (.func (44 : Nat))), #[(tZ 13), (tZ 14)], #[5, 5]⟩), asZ 5 15]
def reedsolomon_power_r5 : List SO := [mvZ 16 0, mvZ 17 0, rZ 18 (.call ⟨(.value (.func (44 : Nat))), #[(tZ 16), (tZ 17)], #[5, 5]⟩), asZ 0 18]
def reedsolomon_power_r6 : List SO := [mvZ 8 1, rZ 9 (.binOp .shr 3 (tZ 8) (.const (.int .u64 1)) 123), asZ 1 9]
def reedsolomon_power_r7 : List SO := [mvZ 19 5, asZ 4 19]
def reedsolomon_power_c : SF := ⟨20, (.seq (.reg reedsolomon_power_r0)
  (.seq (.reg reedsolomon_power_r1)
  (.seq (.block 0 (.loop (.seq (.seq (.reg reedsolomon_power_r2)
  (.cond (tZ 7) .skip (.exit 0)))
  (.seq (.block 1 (.seq (.seq (.reg reedsolomon_power_r3)
  (.cond (tZ 12) (.reg reedsolomon_power_r4) .skip))
  (.reg reedsolomon_power_r5)))
  (.reg reedsolomon_power_r6)))))
  (.seq (.reg reedsolomon_power_r7)
  .ret)))), [.tmp 4]⟩
theorem reedsolomon_power_s : slimF Try.prog 46 = some reedsolomon_power_c := by kernel_rfl
abbrev reedsolomon_power_f : Nat := 46
/-- (printworks/reedsolomon.poly).times -/
def _reedsolomon_poly__times_r0 : List SO := [rZ 6 (.assign (.const (.slice none 0 0)))]
def _reedsolomon_poly__times_r1 : List SO := [mvZ 12 2, mvZ 13 0, rZ 14 (.call ⟨(.builtin .len), #[(tZ 13)], #[85]⟩), mvZ 15 1, rZ 16 (.call ⟨(.builtin .len), #[(tZ 15)], #[85]⟩), boZ 17 .add 3 14 16 3, bcZ 18 .sub 3 17 1 3, rZ 19 (.call ⟨(.builtin .min), #[(tZ 12), (tZ 18)], #[3, 3]⟩), rZ 20 (.makeSlice 85 (tZ 19) (tZ 19)), asZ 7 20]
def _reedsolomon_poly__times_r2 : List SO := [mvZ 21 0, rZ 22 (.call ⟨(.builtin .len), #[(tZ 21)], #[85]⟩), rZ 23 (.move (ciZ 0))]
def _reedsolomon_poly__times_r3 : List SO := [boZ 24 .lss 3 23 22 3]
def _reedsolomon_poly__times_r4 : List SO := [mvZ 25 23, iaZ 26 85 21 23, ldZ 27 5 26, asZ 8 25, asZ 9 27]
def _reedsolomon_poly__times_r5 : List SO := [mvZ 28 1, rZ 29 (.call ⟨(.builtin .len), #[(tZ 28)], #[85]⟩), rZ 30 (.move (ciZ 0))]
def _reedsolomon_poly__times_r6 : List SO := [boZ 31 .lss 3 30 29 3]
def _reedsolomon_poly__times_r7 : List SO := [mvZ 32 30, iaZ 33 85 28 30, ldZ 34 5 33, asZ 10 32, asZ 11 34]
def _reedsolomon_poly__times_r8 : List SO := [mvZ 35 8, mvZ 36 10, boZ 37 .add 3 35 36 3, mvZ 38 7, rZ 39 (.call ⟨(.builtin .len), #[(tZ 38)], #[85]⟩), boZ 40 .lss 3 37 39 3]
def _reedsolomon_poly__times_r9 : List SO := [mvZ 41 7, mvZ 42 8, mvZ 43 10, boZ 44 .add 3 42 43 3, iaZ 45 85 41 44, ldZ 46 5 45, mvZ 47 9, mvZ 48 11, rZ 49 (.call ⟨(.value (.func (44 : Nat))), #[(tZ 47), (tZ 48)], #[5, 5]⟩), boZ 50 .xor 5 46 49 5, iaZ 51 85 41 44, stZ 5 51 50]
def _reedsolomon_poly__times_a9 : List (List Nat) := [[], [], [], [1, 2], [0, 3], [4], [], [], [6, 7], [5, 8], [0, 3, 0, 1, 2, 3, 4, 5, 6, 7, 8, 9], [10, 9, 8, 0, 1, 2, 3, 4, 5, 6, 7, 8, 9]]
def _reedsolomon_poly__times_r10 : List SO := [bcZ 52 .add 3 30 1 3, mvZ 30 52]
def _reedsolomon_poly__times_r11 : List SO := [bcZ 53 .add 3 23 1 3, mvZ 23 53]
def _reedsolomon_poly__times_r12 : List SO := [mvZ 54 7, asZ 6 54]
def _reedsolomon_poly__times_c : SF := ⟨55, (.seq (.reg _reedsolomon_poly__times_r0)
  (.seq (.reg _reedsolomon_poly__times_r1)
  (.seq (.seq (.reg _reedsolomon_poly__times_r2)
  (.block 0 (.loop (.seq (.reg _reedsolomon_poly__times_r3)
  (.seq (.cond (tZ 24) .skip (.exit 0))
  (.seq (.block 1 (.seq (.reg _reedsolomon_poly__times_r4)
  (.seq (.reg _reedsolomon_poly__times_r5)
  (.block 2 (.loop (.seq (.reg _reedsolomon_poly__times_r6)
  (.seq (.cond (tZ 31) .skip (.exit 2))
  (.seq (.block 3 (.seq (.reg _reedsolomon_poly__times_r7)
  (.seq (.reg _reedsolomon_poly__times_r8)
  (.cond (tZ 40) (.regd _reedsolomon_poly__times_r9 _reedsolomon_poly__times_a9) .skip))))
  (.reg _reedsolomon_poly__times_r10)))))))))
  (.reg _reedsolomon_poly__times_r11)))))))
  (.seq (.reg _reedsolomon_poly__times_r12)
  .ret)))), [.tmp 6]⟩
theorem _reedsolomon_poly__times_s : slimF Try.prog 45 = some _reedsolomon_poly__times_c := by kernel_rfl
abbrev _reedsolomon_poly__times_f : Nat := 45
/-- printworks/reedsolomon.locate -/
def reedsolomon_locate_r0 : List SO := [rZ 6 (.assign (.const (.slice none 0 0)))]
def reedsolomon_locate_r1 : List SO := [mvZ 19 1, rZ 20 (.call ⟨(.builtin .append), #[(.const (.slice none 0 0)), (tZ 19)], #[85, 85]⟩), mvZ 21 1, rZ 22 (.call ⟨(.builtin .append), #[(.const (.slice none 0 0)), (tZ 21)], #[85, 85]⟩), asZ 7 20, asZ 8 22]
def reedsolomon_locate_r2 : List SO := [mvZ 23 2, asZ 9 23, rZ 10 (.assign (ciZ 1)), rZ 11 (.assign (.const (.int .u8 1)))]
def reedsolomon_locate_r3 : List SO := [mvZ 24 2, asZ 12 24]
def reedsolomon_locate_r4 : List SO := [mvZ 25 12, mvZ 26 0, rZ 27 (.call ⟨(.builtin .len), #[(tZ 26)], #[85]⟩), boZ 28 .lss 3 25 27 3]
def reedsolomon_locate_r5 : List SO := [mvZ 31 0, mvZ 32 12, iaZ 33 85 31 32, ldZ 34 5 33, asZ 13 34]
def reedsolomon_locate_r6 : List SO := [rZ 14 (.assign (ciZ 1))]
def reedsolomon_locate_r7 : List SO := [mvZ 35 14, mvZ 36 7, rZ 37 (.call ⟨(.builtin .len), #[(tZ 36)], #[85]⟩), boZ 38 .lss 3 35 37 3, mvZ 39 38, gZ 39 true (mvZ 40 14), gZ 39 true (mvZ 41 12), gZ 39 true (boZ 42 .leq 3 40 41 3), rZ 43 (.pick (tZ 39) (tZ 42) (.const (.bool false)))]
def reedsolomon_locate_r8 : List SO := [mvZ 46 13, mvZ 47 7, mvZ 48 14, iaZ 49 85 47 48, ldZ 50 5 49, mvZ 51 0, mvZ 52 12, mvZ 53 14, boZ 54 .sub 3 52 53 3, iaZ 55 85 51 54, ldZ 56 5 55, rZ 57 (.call ⟨(.value (.func (44 : Nat))), #[(tZ 50), (tZ 56)], #[5, 5]⟩), boZ 58 .xor 5 46 57 5, asZ 13 58]
def reedsolomon_locate_a8 : List (List Nat) := [[], [], [], [1, 2], [3], [], [], [], [6, 7], [5, 8], [9], [4, 10], [0, 11], [12, 11, 0, 1, 2, 3, 4, 5, 6, 7, 8, 9, 10, 11, 12]]
def reedsolomon_locate_r9 : List SO := [mvZ 44 14, bcZ 45 .add 3 44 1 3, asZ 14 45]
def reedsolomon_locate_r10 : List SO := [mvZ 59 13, rZ 60 (.binOp .eql 5 (tZ 59) (.const (.int .u8 0)) 5)]
def reedsolomon_locate_r11 : List SO := [mvZ 61 10, bcZ 62 .add 3 61 1 3, asZ 10 62]
def reedsolomon_locate_r12 : List SO := [mvZ 63 7, rZ 64 (.call ⟨(.builtin .append), #[(.const (.slice none 0 0)), (tZ 63)], #[85, 85]⟩), asZ 15 64]
def reedsolomon_locate_r13 : List SO := [mvZ 65 13, mvZ 66 11, rZ 67 (.call ⟨(.value (.func (46 : Nat))), #[(tZ 66), (ciZ 254)], #[5, 3]⟩), rZ 68 (.call ⟨(.value (.func (44 : Nat))), #[(tZ 65), (tZ 67)], #[5, 5]⟩), asZ 16 68]
def reedsolomon_locate_r14 : List SO := [mvZ 69 7, rZ 70 (.call ⟨(.builtin .len), #[(tZ 69)], #[85]⟩), mvZ 71 8, rZ 72 (.call ⟨(.builtin .len), #[(tZ 71)], #[85]⟩), mvZ 73 10, boZ 74 .add 3 72 73 3, boZ 75 .lss 3 70 74 3]
def reedsolomon_locate_r15 : List SO := [mvZ 76 7, rZ 77 (.buildSlice 85 1 #[(0, (.const (.int .u8 0)))]), rZ 78 (.call ⟨(.builtin .append), #[(tZ 76), (tZ 77)], #[85, 85]⟩), asZ 7 78]
def reedsolomon_locate_r16 : List SO := [mvZ 79 8, rZ 80 (.call ⟨(.builtin .len), #[(tZ 79)], #[85]⟩), rZ 81 (.move (ciZ 0))]
def reedsolomon_locate_r17 : List SO := [boZ 82 .lss 3 81 80 3]
def reedsolomon_locate_r18 : List SO := [mvZ 83 81, iaZ 84 85 79 81, ldZ 85 5 84, asZ 17 83, asZ 18 85]
def reedsolomon_locate_r19 : List SO := [mvZ 86 7, mvZ 87 17, mvZ 88 10, boZ 89 .add 3 87 88 3, iaZ 90 85 86 89, ldZ 91 5 90, mvZ 92 16, mvZ 93 18, rZ 94 (.call ⟨(.value (.func (44 : Nat))), #[(tZ 92), (tZ 93)], #[5, 5]⟩), boZ 95 .xor 5 91 94 5, iaZ 96 85 86 89, stZ 5 96 95]
def reedsolomon_locate_a19 : List (List Nat) := [[], [], [], [1, 2], [0, 3], [4], [], [], [6, 7], [5, 8], [0, 3, 0, 1, 2, 3, 4, 5, 6, 7, 8, 9], [10, 9, 8, 0, 1, 2, 3, 4, 5, 6, 7, 8, 9]]
def reedsolomon_locate_r20 : List SO := [bcZ 97 .add 3 81 1 3, mvZ 81 97]
def reedsolomon_locate_r21 : List SO := [mvZ 98 9, rZ 99 (.binOp .mul 3 (ciZ 2) (tZ 98) 3), mvZ 100 12, mvZ 101 2, boZ 102 .add 3 100 101 3, boZ 103 .leq 3 99 102 3]
def reedsolomon_locate_r22 : List SO := [mvZ 104 12, bcZ 105 .add 3 104 1 3, mvZ 106 2, boZ 107 .add 3 105 106 3, mvZ 108 9, boZ 109 .sub 3 107 108 3, mvZ 110 15, mvZ 111 13, asZ 9 109, asZ 8 110, asZ 11 111, rZ 10 (.assign (ciZ 1))]
def reedsolomon_locate_r23 : List SO := [mvZ 112 10, bcZ 113 .add 3 112 1 3, asZ 10 113]
def reedsolomon_locate_r24 : List SO := [mvZ 29 12, bcZ 30 .add 3 29 1 3, asZ 12 30]
def reedsolomon_locate_r25 : List SO := [mvZ 114 7, asZ 6 114]
def reedsolomon_locate_c : SF := ⟨115, (.seq (.reg reedsolomon_locate_r0)
  (.seq (.reg reedsolomon_locate_r1)
  (.seq (.reg reedsolomon_locate_r2)
  (.seq (.seq (.reg reedsolomon_locate_r3)
  (.block 0 (.loop (.seq (.seq (.reg reedsolomon_locate_r4)
  (.cond (tZ 28) .skip (.exit 0)))
  (.seq (.block 1 (.seq (.reg reedsolomon_locate_r5)
  (.seq (.seq (.reg reedsolomon_locate_r6)
  (.block 2 (.loop (.seq (.seq (.reg reedsolomon_locate_r7)
  (.cond (tZ 43) .skip (.exit 2)))
  (.seq (.block 3 (.regd reedsolomon_locate_r8 reedsolomon_locate_a8))
  (.reg reedsolomon_locate_r9))))))
  (.seq (.seq (.reg reedsolomon_locate_r10)
  (.cond (tZ 60) (.seq (.reg reedsolomon_locate_r11)
  (.exit 1)) .skip))
  (.seq (.reg reedsolomon_locate_r12)
  (.seq (.reg reedsolomon_locate_r13)
  (.seq (.block 4 (.loop (.seq (.seq (.reg reedsolomon_locate_r14)
  (.cond (tZ 75) .skip (.exit 4)))
  (.block 5 (.reg reedsolomon_locate_r15)))))
  (.seq (.seq (.reg reedsolomon_locate_r16)
  (.block 6 (.loop (.seq (.reg reedsolomon_locate_r17)
  (.seq (.cond (tZ 82) .skip (.exit 6))
  (.seq (.block 7 (.seq (.reg reedsolomon_locate_r18)
  (.regd reedsolomon_locate_r19 reedsolomon_locate_a19)))
  (.reg reedsolomon_locate_r20)))))))
  (.seq (.reg reedsolomon_locate_r21)
  (.cond (tZ 103) (.reg reedsolomon_locate_r22) (.reg reedsolomon_locate_r23)))))))))))
  (.reg reedsolomon_locate_r24))))))
  (.seq (.reg reedsolomon_locate_r25)
  .ret))))), [.tmp 6]⟩
theorem reedsolomon_locate_s : slimF Try.prog 48 = some reedsolomon_locate_c := by kernel_rfl
abbrev reedsolomon_locate_f : Nat := 48
/-- printworks/reedsolomon.repair -/
def reedsolomon_repair_r0 : List SO := [mvZ 12 1, mvZ 13 2, mvZ 14 1, rZ 15 (.call ⟨(.builtin .len), #[(tZ 14)], #[85]⟩), rZ 16 (.call ⟨(.value (.func (45 : Nat))), #[(tZ 12), (tZ 13), (tZ 15)], #[85, 85, 3]⟩), asZ 6 16]
def reedsolomon_repair_r1 : List SO := [mvZ 17 0, rZ 18 (.call ⟨(.builtin .len), #[(tZ 17)], #[22]⟩), rZ 19 (.move (ciZ 0))]
def reedsolomon_repair_r2 : List SO := [boZ 20 .lss 3 19 18 3]
def reedsolomon_repair_r3 : List SO := [mvZ 21 19, asZ 7 21]
def reedsolomon_repair_r4 : List SO := [mvZ 22 0, rZ 23 (.call ⟨(.builtin .len), #[(tZ 22)], #[22]⟩), bcZ 24 .sub 3 23 1 3, mvZ 25 7, boZ 26 .sub 3 24 25 3, rZ 27 (.call ⟨(.value (.func (46 : Nat))), #[(.const (.int .u8 2)), (tZ 26)], #[5, 3]⟩), asZ 8 27]
def reedsolomon_repair_r5 : List SO := [mvZ 28 8, rZ 29 (.call ⟨(.value (.func (46 : Nat))), #[(tZ 28), (ciZ 254)], #[5, 3]⟩), asZ 9 29]
def reedsolomon_repair_r6 : List SO := [mvZ 30 2, mvZ 31 9, rZ 32 (.call ⟨(.value (.func (68 : Nat))), #[(tZ 30), (tZ 31)], #[85, 5]⟩), rZ 33 (.binOp .neq 5 (tZ 32) (.const (.int .u8 0)) 5)]
def reedsolomon_repair_r7 : List SO := [rZ 10 (.assign (.const (.int .u8 0)))]
def reedsolomon_repair_r8 : List SO := [rZ 11 (.assign (ciZ 1))]
def reedsolomon_repair_r9 : List SO := [mvZ 34 11, mvZ 35 2, rZ 36 (.call ⟨(.builtin .len), #[(tZ 35)], #[85]⟩), boZ 37 .lss 3 34 36 3]
def reedsolomon_repair_r10 : List SO := [mvZ 40 10, mvZ 41 2, mvZ 42 11, iaZ 43 85 41 42, ldZ 44 5 43, mvZ 45 9, mvZ 46 11, bcZ 47 .sub 3 46 1 3, rZ 48 (.call ⟨(.value (.func (46 : Nat))), #[(tZ 45), (tZ 47)], #[5, 3]⟩), rZ 49 (.call ⟨(.value (.func (44 : Nat))), #[(tZ 44), (tZ 48)], #[5, 5]⟩), boZ 50 .xor 5 40 49 5, asZ 10 50]
def reedsolomon_repair_a10 : List (List Nat) := [[], [], [], [1, 2], [3], [], [], [6], [5, 7], [4, 8, 8], [0, 9], [10, 9, 0, 1, 2, 3, 4, 5, 6, 7, 8, 9, 10]]
def reedsolomon_repair_r11 : List SO := [mvZ 38 11, bcZ 39 .add 3 38 2 3, asZ 11 39]
def reedsolomon_repair_r12 : List SO := [mvZ 51 10, rZ 52 (.binOp .neq 5 (tZ 51) (.const (.int .u8 0)) 5)]
def reedsolomon_repair_r13 : List SO := [mvZ 53 0, mvZ 54 7, iaZ 55 22 53 54, ldZ 56 5 55, mvZ 57 8, mvZ 58 6, mvZ 59 9, rZ 60 (.call ⟨(.value (.func (68 : Nat))), #[(tZ 58), (tZ 59)], #[85, 5]⟩), rZ 61 (.call ⟨(.value (.func (44 : Nat))), #[(tZ 57), (tZ 60)], #[5, 5]⟩), mvZ 62 10, rZ 63 (.call ⟨(.value (.func (46 : Nat))), #[(tZ 62), (ciZ 254)], #[5, 3]⟩), rZ 64 (.call ⟨(.value (.func (44 : Nat))), #[(tZ 61), (tZ 63)], #[5, 5]⟩), boZ 65 .xor 5 56 64 5, iaZ 66 22 53 54, stZ 5 66 65]
def reedsolomon_repair_a13 : List (List Nat) := [[], [], [0, 1], [2], [], [], [], [5, 6], [4, 7, 7], [], [9, 8], [8, 10, 10], [3, 11], [0, 1, 0, 1, 2, 3, 4, 5, 6, 7, 8, 9, 10, 11, 12], [13, 12, 11, 0, 1, 2, 3, 4, 5, 6, 7, 8, 9, 10, 11, 12]]
def reedsolomon_repair_r14 : List SO := [bcZ 67 .add 3 19 1 3, mvZ 19 67]
def reedsolomon_repair_c : SF := ⟨68, (.seq (.reg reedsolomon_repair_r0)
  (.seq (.reg reedsolomon_repair_r1)
  (.block 0 (.loop (.seq (.reg reedsolomon_repair_r2)
  (.seq (.cond (tZ 20) .skip (.exit 0))
  (.seq (.block 1 (.seq (.reg reedsolomon_repair_r3)
  (.seq (.reg reedsolomon_repair_r4)
  (.seq (.reg reedsolomon_repair_r5)
  (.seq (.seq (.reg reedsolomon_repair_r6)
  (.cond (tZ 33) (.exit 1) .skip))
  (.seq (.reg reedsolomon_repair_r7)
  (.seq (.seq (.reg reedsolomon_repair_r8)
  (.block 2 (.loop (.seq (.seq (.reg reedsolomon_repair_r9)
  (.cond (tZ 37) .skip (.exit 2)))
  (.seq (.block 3 (.regd reedsolomon_repair_r10 reedsolomon_repair_a10))
  (.reg reedsolomon_repair_r11))))))
  (.seq (.reg reedsolomon_repair_r12)
  (.cond (tZ 52) (.regd reedsolomon_repair_r13 reedsolomon_repair_a13) .skip)))))))))
  (.reg reedsolomon_repair_r14)))))))), []⟩
theorem reedsolomon_repair_s : slimF Try.prog 47 = some reedsolomon_repair_c := by kernel_rfl
abbrev reedsolomon_repair_f : Nat := 47
/-- (printworks/reedsolomon.poly).at -/
def _reedsolomon_poly__at_r0 : List SO := [rZ 4 (.assign (.const (.int .u8 0)))]
def _reedsolomon_poly__at_r1 : List SO := [rZ 5 (.assign (.const (.int .u8 0)))]
def _reedsolomon_poly__at_r2 : List SO := [mvZ 7 0, rZ 8 (.call ⟨(.builtin .len), #[(tZ 7)], #[85]⟩), bcZ 9 .sub 3 8 1 3, asZ 6 9]
def _reedsolomon_poly__at_r3 : List SO := [mvZ 10 6, bcZ 11 .geq 3 10 0 3]
def _reedsolomon_poly__at_r4 : List SO := [mvZ 14 5, mvZ 15 1, rZ 16 (.call ⟨(.value (.func (44 : Nat))), #[(tZ 14), (tZ 15)], #[5, 5]⟩), mvZ 17 0, mvZ 18 6, iaZ 19 85 17 18, ldZ 20 5 19, boZ 21 .xor 5 16 20 5, asZ 5 21]
def _reedsolomon_poly__at_a4 : List (List Nat) := [[], [], [0, 1], [], [], [3, 4], [5], [2, 6], [7, 2, 0, 1, 2, 3, 4, 5, 6, 7]]
def _reedsolomon_poly__at_r5 : List SO := [mvZ 12 6, bcZ 13 .sub 3 12 1 3, asZ 6 13]
def _reedsolomon_poly__at_r6 : List SO := [mvZ 22 5, asZ 4 22]
def _reedsolomon_poly__at_c : SF := ⟨23, (.seq (.reg _reedsolomon_poly__at_r0)
  (.seq (.reg _reedsolomon_poly__at_r1)
  (.seq (.seq (.reg _reedsolomon_poly__at_r2)
  (.block 0 (.loop (.seq (.seq (.reg _reedsolomon_poly__at_r3)
  (.cond (tZ 11) .skip (.exit 0)))
  (.seq (.block 1 (.regd _reedsolomon_poly__at_r4 _reedsolomon_poly__at_a4))
  (.reg _reedsolomon_poly__at_r5))))))
  (.seq (.reg _reedsolomon_poly__at_r6)
  .ret)))), [.tmp 4]⟩
theorem _reedsolomon_poly__at_s : slimF Try.prog 68 = some _reedsolomon_poly__at_c := by kernel_rfl
abbrev _reedsolomon_poly__at_f : Nat := 68

end Go.Proofs.Ythkilkjngincpaa
namespace Go.Proofs.Ythkilkjngincpaa
open Go Go.Lite
set_option linter.unusedVariables false

/-- printworks/printworkstop.sCodes -/
def T_sCodes_r0 : List SO := [rZ 0 (.assign (.const (.bool false)))]
def T_sCodes_r1 : List SO := [⟨(some 6), .call ⟨(.value (.func (52 : Nat))), #[(.const (.string ⟨([48, 48] : List UInt8).toArray⟩))], #[9]⟩, none⟩, mvZ 5 6, exZ 7 5 0, exZ 8 5 1, asZ 1 7, asZ 2 8]
def T_sCodes_r2 : List SO := [mvZ 10 1, rZ 11 (.call ⟨(.value (.func (53 : Nat))), #[(tZ 10)], #[38]⟩), mvZ 9 11, exZ 12 9 0, exZ 13 9 1, asZ 3 12, asZ 4 13]
def T_sCodes_r3 : List SO := [mvZ 14 2, bcZ 15 .eql 25 14 0 25, mvZ 16 15, gZ 16 true (mvZ 17 4), gZ 16 true (bcZ 18 .eql 25 17 0 25), rZ 19 (.pick (tZ 16) (tZ 18) (.const (.bool false))), mvZ 20 19, gZ 20 true (mvZ 21 1), gZ 20 true (rZ 22 (.call ⟨(.builtin .len), #[(tZ 21)], #[38]⟩)), gZ 20 true (bcZ 23 .eql 3 22 25 3), rZ 24 (.pick (tZ 20) (tZ 23) (.const (.bool false))), mvZ 25 24, gZ 25 true (mvZ 26 3), gZ 25 true (rZ 27 (.binOp .eql 9 (tZ 26) (.const (.string ⟨([48, 48] : List UInt8).toArray⟩)) 9)), rZ 28 (.pick (tZ 25) (tZ 27) (.const (.bool false))), asZ 0 28]
def T_sCodes_c : SF := ⟨29, (.seq (.reg T_sCodes_r0)
  (.seq (.reg T_sCodes_r1)
  (.seq (.reg T_sCodes_r2)
  (.seq (.reg T_sCodes_r3)
  .ret)))), [.tmp 0]⟩
theorem T_sCodes_s : slimF Try.prog 23 = some T_sCodes_c := by kernel_rfl
abbrev T_sCodes_f : Nat := 23
/-- printworks/printworkstop.sMod -/
def T_sMod_r0 : List SO := [rZ 4 (.assign (ciZ 0))]
def T_sMod_r1 : List SO := [mvZ 5 0, mvZ 6 1, boZ 7 .rem 3 5 6 3, mvZ 8 1, boZ 9 .add 3 7 8 3, mvZ 10 1, boZ 11 .rem 3 9 10 3, asZ 4 11]
def T_sMod_c : SF := ⟨12, (.seq (.reg T_sMod_r0)
  (.seq (.reg T_sMod_r1)
  .ret)), [.tmp 4]⟩
theorem T_sMod_s : slimF Try.prog 24 = some T_sMod_c := by kernel_rfl
abbrev T_sMod_f : Nat := 24

end Go.Proofs.Ythkilkjngincpaa
namespace Go.Proofs.Ythkilkjngincpaa
open Go Go.Lite
set_option linter.unusedVariables false

/-- printworks/camera.Capture -/
def camera_Capture_r0 : List SO := [rZ 2 (.box 29 (tZ 0)), rZ 3 (.box 52 (tZ 1)), rZ 4 (.alloc 56), rZ 5 (.assign (ciZ 0))]
def camera_Capture_r1 : List SO := [ldZ 20 29 2, rZ 21 (.call ⟨(.value (.func (12 : Nat))), #[(tZ 20)], #[29]⟩), asZ 6 21]
def camera_Capture_r2 : List SO := [mvZ 22 6, bcZ 23 .neq 25 22 0 25]
def camera_Capture_r3 : List SO := [rZ 24 (.build 56 #[]), mvZ 25 6, stZ 56 4 24, asZ 5 25]
def camera_Capture_r4 : List SO := [ldZ 26 52 3, rZ 27 (.call ⟨(.value (.func (54 : Nat))), #[(tZ 26)], #[52]⟩), asZ 7 27]
def camera_Capture_r5 : List SO := [mvZ 28 7, bcZ 29 .neq 25 28 0 25]
def camera_Capture_r6 : List SO := [rZ 30 (.build 56 #[]), mvZ 31 7, stZ 56 4 30, asZ 5 31]
def camera_Capture_r7 : List SO := [faZ 32 52 3 3, ldZ 33 3 32, rZ 34 (.call ⟨(.value (.func (49 : Nat))), #[(tZ 2), (tZ 33)], #[81, 3]⟩), rZ 8 (.alloc 29), stZ 29 8 34]
def camera_Capture_r8 : List SO := [faZ 35 29 8 0, ldZ 36 3 35, faZ 37 52 3 0, ldZ 38 3 37, boZ 39 .mul 3 36 38 3, bcZ 40 .add 3 39 32 3, faZ 41 29 8 1, ldZ 42 3 41, faZ 43 52 3 0, ldZ 44 3 43, boZ 45 .mul 3 42 44 3, bcZ 46 .add 3 45 32 3, rZ 47 (.build 56 #[(0, (tZ 40)), (1, (tZ 46))]), rZ 9 (.alloc 56), stZ 56 9 47]
def camera_Capture_r9 : List SO := [faZ 48 56 9 0, ldZ 49 3 48, bcZ 50 .gtr 3 49 1024 3, mvZ 51 50, gZ 51 false (faZ 52 56 9 1), gZ 51 false (ldZ 53 3 52), gZ 51 false (bcZ 54 .gtr 3 53 1024 3), rZ 55 (.pick (tZ 51) (.const (.bool true)) (tZ 54))]
def camera_Capture_r10 : List SO := [rZ 56 (.build 56 #[]), stZ 56 4 56, rZ 5 (.assign (ciZ 19))]
def camera_Capture_r11 : List SO := [faZ 57 56 9 0, ldZ 58 3 57, faZ 59 56 9 1, ldZ 60 3 59, boZ 61 .mul 3 58 60 3, rZ 62 (.makeSlice 22 (tZ 61) (tZ 61)), faZ 63 56 9 2, stZ 22 63 62]
def camera_Capture_r12 : List SO := [faZ 64 56 9 1, ldZ 65 3 64, rZ 66 (.move (ciZ 0))]
def camera_Capture_r13 : List SO := [boZ 67 .lss 3 66 65 3]
def camera_Capture_r14 : List SO := [mvZ 68 66, asZ 10 68]
def camera_Capture_r15 : List SO := [faZ 69 56 9 0, ldZ 70 3 69, rZ 71 (.move (ciZ 0))]
def camera_Capture_r16 : List SO := [boZ 72 .lss 3 71 70 3]
def camera_Capture_r17 : List SO := [mvZ 73 71, asZ 11 73]
def camera_Capture_r18 : List SO := [mvZ 74 11, faZ 75 52 3 1, ldZ 76 3 75, boZ 77 .sub 3 74 76 3, mvZ 78 10, faZ 79 52 3 2, ldZ 80 3 79, boZ 81 .sub 3 78 80 3, asZ 12 77, asZ 13 81]
def camera_Capture_a18 : List (List Nat) := [[], [], [1], [0, 2], [], [], [5], [4, 6], [3, 0, 1, 2, 3], [7, 8, 0, 1, 2, 3, 4, 5, 6, 7, 8]]
def camera_Capture_r19 : List SO := [faZ 82 52 3 5, ldZ 83 3 82, asZ 14 83]
def camera_Capture_r20 : List SO := [mvZ 84 12, bcZ 85 .geq 3 84 0 3, mvZ 86 85, gZ 86 true (mvZ 87 13), gZ 86 true (bcZ 88 .geq 3 87 0 3), rZ 89 (.pick (tZ 86) (tZ 88) (.const (.bool false))), mvZ 90 89, gZ 90 true (mvZ 91 12), gZ 90 true (faZ 92 52 3 0), gZ 90 true (ldZ 93 3 92), gZ 90 true (boZ 94 .quo 3 91 93 3), gZ 90 true (mvZ 95 13), gZ 90 true (faZ 96 52 3 0), gZ 90 true (ldZ 97 3 96), gZ 90 true (boZ 98 .quo 3 95 97 3), gZ 90 true (rZ 99 (.call ⟨(.value (.func (51 : Nat))), #[(tZ 8), (tZ 94), (tZ 98)], #[81, 3, 3]⟩)), rZ 100 (.pick (tZ 90) (tZ 99) (.const (.bool false)))]
def camera_Capture_a20 : List (List Nat) := [[], [0], [1], [2], [3, 2], [2, 4], [5, 2], [6], [6], [8, 6], [7, 9, 6], [6], [6], [12, 6], [11, 13, 6], [10, 14, 6, 6], [6, 15]]
def camera_Capture_r21 : List SO := [faZ 101 52 3 6, ldZ 102 3 101, asZ 14 102]
def camera_Capture_r22 : List SO := [faZ 103 56 9 2, ldZ 104 22 103, mvZ 105 10, faZ 106 56 9 0, ldZ 107 3 106, boZ 108 .mul 3 105 107 3, mvZ 109 11, boZ 110 .add 3 108 109 3, mvZ 111 14, rZ 112 (.convert 3 5 (tZ 111)), iaZ 113 22 104 110, stZ 5 113 112]
def camera_Capture_r23 : List SO := [bcZ 114 .add 3 71 1 3, mvZ 71 114]
def camera_Capture_r24 : List SO := [bcZ 115 .add 3 66 1 3, mvZ 66 115]
def camera_Capture_r25 : List SO := [faZ 116 52 3 4, ldZ 117 3 116, rZ 118 (.move (ciZ 0))]
def camera_Capture_r26 : List SO := [boZ 119 .lss 3 118 117 3]
def camera_Capture_r27 : List SO := [ldZ 120 56 9, rZ 15 (.alloc 56), stZ 56 15 120]
def camera_Capture_r28 : List SO := [faZ 121 56 9 2, ldZ 122 22 121, rZ 123 (.call ⟨(.builtin .append), #[(.const (.slice none 0 0)), (tZ 122)], #[22, 22]⟩), faZ 124 56 15 2, stZ 22 124 123]
def camera_Capture_r29 : List SO := [faZ 125 56 9 2, ldZ 126 22 125, rZ 127 (.call ⟨(.builtin .len), #[(tZ 126)], #[22]⟩), rZ 128 (.move (ciZ 0))]
def camera_Capture_r30 : List SO := [boZ 129 .lss 3 128 127 3]
def camera_Capture_r31 : List SO := [mvZ 130 128, asZ 16 130]
def camera_Capture_r32 : List SO := [mvZ 132 16, faZ 133 56 9 0, ldZ 134 3 133, boZ 135 .rem 3 132 134 3, mvZ 136 16, faZ 137 56 9 0, ldZ 138 3 137, boZ 139 .quo 3 136 138 3, rZ 140 (.call ⟨(.value (.func (55 : Nat))), #[(tZ 15), (tZ 135), (tZ 139), (ciZ 1)], #[105, 3, 3, 3]⟩), mvZ 131 140, exZ 141 131 0, exZ 142 131 1, asZ 17 141, asZ 18 142]
def camera_Capture_a32 : List (List Nat) := [[], [], [1], [0, 2], [], [], [5], [4, 6], [3, 7], [8], [9], [9], [10, 8, 0, 1, 2, 3, 4, 5, 6, 7, 8, 9, 10], [11, 12, 0, 1, 2, 3, 4, 5, 6, 7, 8, 9, 10, 11, 12]]
def camera_Capture_r33 : List SO := [faZ 143 56 9 2, ldZ 144 22 143, mvZ 145 16, mvZ 146 17, mvZ 147 18, rZ 148 (.call ⟨(.value (.func (56 : Nat))), #[(tZ 146), (tZ 147)], #[3, 3]⟩), rZ 149 (.convert 3 5 (tZ 148)), iaZ 150 22 144 145, stZ 5 150 149]
def camera_Capture_a33 : List (List Nat) := [[], [0], [], [], [], [3, 4], [5], [1, 2, 0, 1, 2, 3, 4, 5, 6], [7, 6, 5, 0, 1, 2, 3, 4, 5, 6]]
def camera_Capture_r34 : List SO := [bcZ 151 .add 3 128 1 3, mvZ 128 151]
def camera_Capture_r35 : List SO := [bcZ 152 .add 3 118 1 3, mvZ 118 152]
def camera_Capture_r36 : List SO := [faZ 153 56 9 2, ldZ 154 22 153, rZ 155 (.call ⟨(.builtin .len), #[(tZ 154)], #[22]⟩), rZ 156 (.move (ciZ 0))]
def camera_Capture_r37 : List SO := [boZ 157 .lss 3 156 155 3]
def camera_Capture_r38 : List SO := [mvZ 158 156, asZ 19 158]
def camera_Capture_r39 : List SO := [faZ 159 52 3 7, ldZ 160 38 159, rZ 161 (.call ⟨(.builtin .len), #[(tZ 160)], #[38]⟩), bcZ 162 .gtr 3 161 0 3]
def camera_Capture_r40 : List SO := [faZ 163 56 9 2, ldZ 164 22 163, mvZ 165 19, faZ 166 56 9 2, ldZ 167 22 166, mvZ 168 19, iaZ 169 22 167 168, ldZ 170 5 169, rZ 171 (.convert 5 3 (tZ 170)), faZ 172 52 3 7, ldZ 173 38 172, mvZ 174 19, faZ 175 52 3 7, ldZ 176 38 175, rZ 177 (.call ⟨(.builtin .len), #[(tZ 176)], #[38]⟩), boZ 178 .rem 3 174 177 3, iaZ 179 38 173 178, ldZ 180 3 179, boZ 181 .add 3 171 180 3, rZ 182 (.call ⟨(.builtin .min), #[(ciZ 255), (tZ 181)], #[3, 3]⟩), rZ 183 (.call ⟨(.builtin .max), #[(ciZ 0), (tZ 182)], #[3, 3]⟩), rZ 184 (.convert 3 5 (tZ 183)), iaZ 185 22 164 165, stZ 5 185 184]
def camera_Capture_a40 : List (List Nat) := [[], [0], [], [], [3], [], [4, 5], [6], [7], [], [9], [], [], [12], [13], [11, 14], [10, 15], [16], [8, 17], [18], [19], [20], [1, 2, 0, 1, 2, 3, 4, 5, 6, 7, 8, 9, 10, 11, 12, 13, 14, 15, 16, 17, 18, 19, 20, 21], [22, 21, 0, 1, 2, 3, 4, 5, 6, 7, 8, 9, 10, 11, 12, 13, 14, 15, 16, 17, 18, 19, 20, 21]]
def camera_Capture_r41 : List SO := [bcZ 186 .add 3 156 1 3, mvZ 156 186]
def camera_Capture_r42 : List SO := [ldZ 187 56 9, stZ 56 4 187, rZ 5 (.assign (ciZ 0))]
def camera_Capture_c : SF := ⟨188, (.seq (.reg camera_Capture_r0)
  (.seq (.seq (.reg camera_Capture_r1)
  (.seq (.reg camera_Capture_r2)
  (.cond (tZ 23) (.seq (.reg camera_Capture_r3)
  .ret) .skip)))
  (.seq (.seq (.reg camera_Capture_r4)
  (.seq (.reg camera_Capture_r5)
  (.cond (tZ 29) (.seq (.reg camera_Capture_r6)
  .ret) .skip)))
  (.seq (.reg camera_Capture_r7)
  (.seq (.reg camera_Capture_r8)
  (.seq (.seq (.reg camera_Capture_r9)
  (.cond (tZ 55) (.seq (.reg camera_Capture_r10)
  .ret) .skip))
  (.seq (.reg camera_Capture_r11)
  (.seq (.seq (.reg camera_Capture_r12)
  (.block 0 (.loop (.seq (.reg camera_Capture_r13)
  (.seq (.cond (tZ 67) .skip (.exit 0))
  (.seq (.block 1 (.seq (.reg camera_Capture_r14)
  (.seq (.reg camera_Capture_r15)
  (.block 2 (.loop (.seq (.reg camera_Capture_r16)
  (.seq (.cond (tZ 72) .skip (.exit 2))
  (.seq (.block 3 (.seq (.reg camera_Capture_r17)
  (.seq (.regd camera_Capture_r18 camera_Capture_a18)
  (.seq (.reg camera_Capture_r19)
  (.seq (.seq (.regd camera_Capture_r20 camera_Capture_a20)
  (.cond (tZ 100) (.reg camera_Capture_r21) .skip))
  (.reg camera_Capture_r22))))))
  (.reg camera_Capture_r23)))))))))
  (.reg camera_Capture_r24)))))))
  (.seq (.seq (.reg camera_Capture_r25)
  (.block 4 (.loop (.seq (.reg camera_Capture_r26)
  (.seq (.cond (tZ 119) .skip (.exit 4))
  (.seq (.block 5 (.seq (.reg camera_Capture_r27)
  (.seq (.reg camera_Capture_r28)
  (.seq (.reg camera_Capture_r29)
  (.block 6 (.loop (.seq (.reg camera_Capture_r30)
  (.seq (.cond (tZ 129) .skip (.exit 6))
  (.seq (.block 7 (.seq (.reg camera_Capture_r31)
  (.seq (.regd camera_Capture_r32 camera_Capture_a32)
  (.regd camera_Capture_r33 camera_Capture_a33))))
  (.reg camera_Capture_r34))))))))))
  (.reg camera_Capture_r35)))))))
  (.seq (.seq (.reg camera_Capture_r36)
  (.block 8 (.loop (.seq (.reg camera_Capture_r37)
  (.seq (.cond (tZ 157) .skip (.exit 8))
  (.seq (.block 9 (.seq (.reg camera_Capture_r38)
  (.seq (.reg camera_Capture_r39)
  (.cond (tZ 162) (.regd camera_Capture_r40 camera_Capture_a40) .skip))))
  (.reg camera_Capture_r41)))))))
  (.seq (.reg camera_Capture_r42)
  .ret))))))))))), [.cell 4 56, .tmp 5]⟩
theorem camera_Capture_s : slimF Try.prog 27 = some camera_Capture_c := by kernel_rfl
abbrev camera_Capture_f : Nat := 27
/-- printworks/camera.Matrix -/
def camera_Matrix_r0 : List SO := [rZ 1 (.box 56 (tZ 0)), rZ 2 (.assign (.const (.slice none 0 0))), rZ 3 (.assign (ciZ 0))]
def camera_Matrix_r1 : List SO := [ldZ 20 56 1, rZ 21 (.call ⟨(.value (.func (57 : Nat))), #[(tZ 20)], #[56]⟩), asZ 4 21]
def camera_Matrix_r2 : List SO := [mvZ 22 4, bcZ 23 .neq 25 22 0 25]
def camera_Matrix_r3 : List SO := [mvZ 24 4, rZ 2 (.assign (.const (.slice none 0 0))), asZ 3 24]
def camera_Matrix_r4 : List SO := [rZ 25 (.call ⟨(.value (.func (58 : Nat))), #[(tZ 1)], #[105]⟩), rZ 5 (.alloc 29), stZ 29 5 25]
def camera_Matrix_r5 : List SO := [rZ 27 (.call ⟨(.value (.func (59 : Nat))), #[(tZ 5)], #[81]⟩), mvZ 26 27, exZ 28 26 0, exZ 29 26 1, exZ 30 26 2, exZ 31 26 3, asZ 6 28, asZ 7 29, asZ 8 30, asZ 9 31]
def camera_Matrix_r6 : List SO := [rZ 10 (.alloc 29)]
def camera_Matrix_r7 : List SO := [rZ 11 (.assign (ciZ 128))]
def camera_Matrix_r8 : List SO := [rZ 12 (.assign (ciZ 32))]
def camera_Matrix_r9 : List SO := [mvZ 32 12, bcZ 33 .geq 3 32 8 3]
def camera_Matrix_r10 : List SO := [mvZ 36 8, mvZ 37 6, boZ 38 .sub 3 36 37 3, mvZ 39 12, boZ 40 .lss 3 38 39 3, mvZ 41 40, gZ 41 false (mvZ 42 9), gZ 41 false (mvZ 43 7), gZ 41 false (boZ 44 .sub 3 42 43 3), gZ 41 false (mvZ 45 12), gZ 41 false (boZ 46 .lss 3 44 45 3), rZ 47 (.pick (tZ 41) (.const (.bool true)) (tZ 46))]
def camera_Matrix_r11 : List SO := [mvZ 48 6, mvZ 49 7, mvZ 50 8, mvZ 51 9, mvZ 52 12, rZ 53 (.call ⟨(.value (.func (60 : Nat))), #[(tZ 5), (tZ 48), (tZ 49), (tZ 50), (tZ 51), (tZ 52)], #[81, 3, 3, 3, 3, 3]⟩), rZ 13 (.alloc 29), stZ 29 13 53]
def camera_Matrix_r12 : List SO := [rZ 55 (.call ⟨(.value (.func (50 : Nat))), #[(tZ 13)], #[81]⟩), mvZ 54 55, exZ 56 54 0, exZ 57 54 1, asZ 14 56, asZ 15 57]
def camera_Matrix_r13 : List SO := [mvZ 58 15, mvZ 59 11, boZ 60 .lss 3 58 59 3]
def camera_Matrix_r14 : List SO := [ldZ 61 29 13, mvZ 62 15, stZ 29 10 61, asZ 11 62]
def camera_Matrix_r15 : List SO := [mvZ 34 12, bcZ 35 .sub 3 34 2 3, asZ 12 35]
def camera_Matrix_r16 : List SO := [faZ 63 29 10 0, ldZ 64 3 63, bcZ 65 .eql 3 64 0 3]
def camera_Matrix_r17 : List SO := [rZ 2 (.assign (.const (.slice none 0 0))), rZ 3 (.assign (ciZ 8))]
def camera_Matrix_r18 : List SO := [ldZ 67 29 10, rZ 68 (.call ⟨(.value (.func (22 : Nat))), #[(tZ 67)], #[29]⟩), mvZ 66 68, exZ 69 66 0, exZ 70 66 1, exZ 71 66 2, exZ 72 66 3, asZ 16 69, asZ 17 70, asZ 18 71, asZ 19 72]
def camera_Matrix_r19 : List SO := [mvZ 73 16, mvZ 74 19, asZ 2 73, asZ 3 74]
def camera_Matrix_c : SF := ⟨75, (.seq (.reg camera_Matrix_r0)
  (.seq (.seq (.reg camera_Matrix_r1)
  (.seq (.reg camera_Matrix_r2)
  (.cond (tZ 23) (.seq (.reg camera_Matrix_r3)
  .ret) .skip)))
  (.seq (.reg camera_Matrix_r4)
  (.seq (.reg camera_Matrix_r5)
  (.seq (.reg camera_Matrix_r6)
  (.seq (.reg camera_Matrix_r7)
  (.seq (.seq (.reg camera_Matrix_r8)
  (.block 0 (.loop (.seq (.seq (.reg camera_Matrix_r9)
  (.cond (tZ 33) .skip (.exit 0)))
  (.seq (.block 1 (.seq (.seq (.reg camera_Matrix_r10)
  (.cond (tZ 47) (.exit 1) .skip))
  (.seq (.reg camera_Matrix_r11)
  (.seq (.reg camera_Matrix_r12)
  (.seq (.reg camera_Matrix_r13)
  (.cond (tZ 60) (.reg camera_Matrix_r14) .skip))))))
  (.reg camera_Matrix_r15))))))
  (.seq (.seq (.reg camera_Matrix_r16)
  (.cond (tZ 65) (.seq (.reg camera_Matrix_r17)
  .ret) .skip))
  (.seq (.reg camera_Matrix_r18)
  (.seq (.reg camera_Matrix_r19)
  .ret)))))))))), [.tmp 2, .tmp 3]⟩
theorem camera_Matrix_s : slimF Try.prog 28 = some camera_Matrix_c := by kernel_rfl
abbrev camera_Matrix_f : Nat := 28
/-- printworks/camera.CheckView -/
def camera_CheckView_r0 : List SO := [rZ 1 (.box 52 (tZ 0)), rZ 2 (.assign (ciZ 0))]
def camera_CheckView_r1 : List SO := [faZ 5 52 1 0, ldZ 6 3 5, bcZ 7 .lss 3 6 1 3, mvZ 8 7, gZ 8 false (faZ 9 52 1 0), gZ 8 false (ldZ 10 3 9), gZ 8 false (bcZ 11 .gtr 3 10 8 3), rZ 12 (.pick (tZ 8) (.const (.bool true)) (tZ 11)), mvZ 13 12, gZ 13 false (faZ 14 52 1 1), gZ 13 false (ldZ 15 3 14), gZ 13 false (bcZ 16 .lss 3 15 0 3), rZ 17 (.pick (tZ 13) (.const (.bool true)) (tZ 16)), mvZ 18 17, gZ 18 false (faZ 19 52 1 1), gZ 18 false (ldZ 20 3 19), gZ 18 false (bcZ 21 .gtr 3 20 32 3), rZ 22 (.pick (tZ 18) (.const (.bool true)) (tZ 21)), mvZ 23 22, gZ 23 false (faZ 24 52 1 2), gZ 23 false (ldZ 25 3 24), gZ 23 false (bcZ 26 .lss 3 25 0 3), rZ 27 (.pick (tZ 23) (.const (.bool true)) (tZ 26)), mvZ 28 27, gZ 28 false (faZ 29 52 1 2), gZ 28 false (ldZ 30 3 29), gZ 28 false (bcZ 31 .gtr 3 30 32 3), rZ 32 (.pick (tZ 28) (.const (.bool true)) (tZ 31)), mvZ 33 32, gZ 33 false (faZ 34 52 1 3), gZ 33 false (ldZ 35 3 34), gZ 33 false (bcZ 36 .lss 3 35 0 3), rZ 37 (.pick (tZ 33) (.const (.bool true)) (tZ 36)), mvZ 38 37, gZ 38 false (faZ 39 52 1 3), gZ 38 false (ldZ 40 3 39), gZ 38 false (bcZ 41 .gtr 3 40 3 3), rZ 42 (.pick (tZ 38) (.const (.bool true)) (tZ 41)), mvZ 43 42, gZ 43 false (faZ 44 52 1 4), gZ 43 false (ldZ 45 3 44), gZ 43 false (bcZ 46 .lss 3 45 0 3), rZ 47 (.pick (tZ 43) (.const (.bool true)) (tZ 46)), mvZ 48 47, gZ 48 false (faZ 49 52 1 4), gZ 48 false (ldZ 50 3 49), gZ 48 false (bcZ 51 .gtr 3 50 2 3), rZ 52 (.pick (tZ 48) (.const (.bool true)) (tZ 51))]
def camera_CheckView_r2 : List SO := [rZ 2 (.assign (ciZ 3))]
def camera_CheckView_r3 : List SO := [faZ 53 52 1 5, ldZ 54 3 53, bcZ 55 .lss 3 54 0 3, mvZ 56 55, gZ 56 false (faZ 57 52 1 5), gZ 56 false (ldZ 58 3 57), gZ 56 false (bcZ 59 .gtr 3 58 255 3), rZ 60 (.pick (tZ 56) (.const (.bool true)) (tZ 59)), mvZ 61 60, gZ 61 false (faZ 62 52 1 6), gZ 61 false (ldZ 63 3 62), gZ 61 false (bcZ 64 .lss 3 63 0 3), rZ 65 (.pick (tZ 61) (.const (.bool true)) (tZ 64)), mvZ 66 65, gZ 66 false (faZ 67 52 1 6), gZ 66 false (ldZ 68 3 67), gZ 66 false (bcZ 69 .gtr 3 68 255 3), rZ 70 (.pick (tZ 66) (.const (.bool true)) (tZ 69))]
def camera_CheckView_r4 : List SO := [rZ 2 (.assign (ciZ 3))]
def camera_CheckView_r5 : List SO := [faZ 71 52 1 6, ldZ 72 3 71, faZ 73 52 1 5, ldZ 74 3 73, boZ 75 .geq 3 72 74 3]
def camera_CheckView_r6 : List SO := [rZ 2 (.assign (ciZ 18))]
def camera_CheckView_r7 : List SO := [faZ 76 52 1 7, ldZ 77 38 76, rZ 78 (.call ⟨(.builtin .len), #[(tZ 77)], #[38]⟩), bcZ 79 .gtr 3 78 64 3]
def camera_CheckView_r8 : List SO := [rZ 2 (.assign (ciZ 2))]
def camera_CheckView_r9 : List SO := [faZ 80 52 1 7, ldZ 81 38 80, rZ 82 (.call ⟨(.builtin .len), #[(tZ 81)], #[38]⟩), rZ 83 (.move (ciZ 0))]
def camera_CheckView_r10 : List SO := [boZ 84 .lss 3 83 82 3]
def camera_CheckView_r11 : List SO := [iaZ 85 38 81 83, ldZ 86 3 85, asZ 4 86]
def camera_CheckView_r12 : List SO := [mvZ 87 4, rZ 88 (.binOp .lss 3 (tZ 87) (.const (.int .i64 (-64))) 3), mvZ 89 88, gZ 89 false (mvZ 90 4), gZ 89 false (bcZ 91 .gtr 3 90 64 3), rZ 92 (.pick (tZ 89) (.const (.bool true)) (tZ 91))]
def camera_CheckView_r13 : List SO := [rZ 2 (.assign (ciZ 3))]
def camera_CheckView_r14 : List SO := [bcZ 93 .add 3 83 1 3, mvZ 83 93]
def camera_CheckView_r15 : List SO := [rZ 2 (.assign (ciZ 0))]
def camera_CheckView_c : SF := ⟨94, (.seq (.reg camera_CheckView_r0)
  (.seq (.seq (.reg camera_CheckView_r1)
  (.cond (tZ 52) (.seq (.reg camera_CheckView_r2)
  .ret) .skip))
  (.seq (.seq (.reg camera_CheckView_r3)
  (.cond (tZ 70) (.seq (.reg camera_CheckView_r4)
  .ret) .skip))
  (.seq (.seq (.reg camera_CheckView_r5)
  (.cond (tZ 75) (.seq (.reg camera_CheckView_r6)
  .ret) .skip))
  (.seq (.seq (.reg camera_CheckView_r7)
  (.cond (tZ 79) (.seq (.reg camera_CheckView_r8)
  .ret) .skip))
  (.seq (.seq (.reg camera_CheckView_r9)
  (.block 0 (.loop (.seq (.reg camera_CheckView_r10)
  (.seq (.cond (tZ 84) .skip (.exit 0))
  (.seq (.block 1 (.seq (.reg camera_CheckView_r11)
  (.seq (.reg camera_CheckView_r12)
  (.cond (tZ 92) (.seq (.reg camera_CheckView_r13)
  .ret) .skip))))
  (.reg camera_CheckView_r14)))))))
  (.seq (.reg camera_CheckView_r15)
  .ret))))))), [.tmp 2]⟩
theorem camera_CheckView_s : slimF Try.prog 54 = some camera_CheckView_c := by kernel_rfl
abbrev camera_CheckView_f : Nat := 54
/-- printworks/camera.window -/
def camera_window_r0 : List SO := [rZ 8 (.assign (ciZ 0)), rZ 9 (.assign (ciZ 0))]
def camera_window_r1 : List SO := [mvZ 12 2, mvZ 13 3, boZ 14 .sub 3 12 13 3, rZ 15 (.call ⟨(.builtin .max), #[(ciZ 0), (tZ 14)], #[3, 3]⟩), asZ 10 15]
def camera_window_r2 : List SO := [mvZ 16 10, mvZ 17 0, rZ 18 (.nilCheck (tZ 17)), faZ 19 56 18 1, ldZ 20 3 19, bcZ 21 .sub 3 20 1 3, mvZ 22 2, mvZ 23 3, boZ 24 .add 3 22 23 3, rZ 25 (.call ⟨(.builtin .min), #[(tZ 21), (tZ 24)], #[3, 3]⟩), boZ 26 .leq 3 16 25 3]
def camera_window_r3 : List SO := [mvZ 29 1, mvZ 30 3, boZ 31 .sub 3 29 30 3, rZ 32 (.call ⟨(.builtin .max), #[(ciZ 0), (tZ 31)], #[3, 3]⟩), asZ 11 32]
def camera_window_r4 : List SO := [mvZ 33 11, mvZ 34 0, rZ 35 (.nilCheck (tZ 34)), faZ 36 56 35 0, ldZ 37 3 36, bcZ 38 .sub 3 37 1 3, mvZ 39 1, mvZ 40 3, boZ 41 .add 3 39 40 3, rZ 42 (.call ⟨(.builtin .min), #[(tZ 38), (tZ 41)], #[3, 3]⟩), boZ 43 .leq 3 33 42 3]
def camera_window_r5 : List SO := [mvZ 46 8, mvZ 47 0, rZ 48 (.nilCheck (tZ 47)), faZ 49 56 48 2, ldZ 50 22 49, mvZ 51 10, mvZ 52 0, rZ 53 (.nilCheck (tZ 52)), faZ 54 56 53 0, ldZ 55 3 54, boZ 56 .mul 3 51 55 3, mvZ 57 11, boZ 58 .add 3 56 57 3, iaZ 59 22 50 58, ldZ 60 5 59, rZ 61 (.convert 5 3 (tZ 60)), boZ 62 .add 3 46 61 3, asZ 8 62]
def camera_window_a5 : List (List Nat) := [[], [], [1], [2], [3], [], [], [6], [7], [8], [5, 9], [], [10, 11], [4, 12], [13], [14], [0, 15], [16, 0, 1, 2, 3, 4, 5, 6, 7, 8, 9, 10, 11, 12, 13, 14, 15, 16]]
def camera_window_r6 : List SO := [mvZ 63 9, bcZ 64 .add 3 63 1 3, asZ 9 64]
def camera_window_r7 : List SO := [mvZ 44 11, bcZ 45 .add 3 44 1 3, asZ 11 45]
def camera_window_r8 : List SO := [mvZ 27 10, bcZ 28 .add 3 27 1 3, asZ 10 28]
def camera_window_r9 : List SO := [mvZ 65 8, mvZ 66 9, asZ 8 65, asZ 9 66]
def camera_window_c : SF := ⟨67, (.seq (.reg camera_window_r0)
  (.seq (.seq (.reg camera_window_r1)
  (.block 0 (.loop (.seq (.seq (.reg camera_window_r2)
  (.cond (tZ 26) .skip (.exit 0)))
  (.seq (.block 1 (.seq (.reg camera_window_r3)
  (.block 2 (.loop (.seq (.seq (.reg camera_window_r4)
  (.cond (tZ 43) .skip (.exit 2)))
  (.seq (.block 3 (.seq (.regd camera_window_r5 camera_window_a5)
  (.reg camera_window_r6)))
  (.reg camera_window_r7)))))))
  (.reg camera_window_r8))))))
  (.seq (.reg camera_window_r9)
  .ret))), [.tmp 8, .tmp 9]⟩
theorem camera_window_s : slimF Try.prog 55 = some camera_window_c := by kernel_rfl
abbrev camera_window_f : Nat := 55
/-- printworks/camera.Check -/
def camera_Check_r0 : List SO := [rZ 1 (.box 56 (tZ 0)), rZ 2 (.assign (ciZ 0))]
def camera_Check_r1 : List SO := [faZ 3 56 1 0, ldZ 4 3 3, bcZ 5 .lss 3 4 1 3, mvZ 6 5, gZ 6 false (faZ 7 56 1 0), gZ 6 false (ldZ 8 3 7), gZ 6 false (bcZ 9 .gtr 3 8 1024 3), rZ 10 (.pick (tZ 6) (.const (.bool true)) (tZ 9)), mvZ 11 10, gZ 11 false (faZ 12 56 1 1), gZ 11 false (ldZ 13 3 12), gZ 11 false (bcZ 14 .lss 3 13 1 3), rZ 15 (.pick (tZ 11) (.const (.bool true)) (tZ 14)), mvZ 16 15, gZ 16 false (faZ 17 56 1 1), gZ 16 false (ldZ 18 3 17), gZ 16 false (bcZ 19 .gtr 3 18 1024 3), rZ 20 (.pick (tZ 16) (.const (.bool true)) (tZ 19))]
def camera_Check_r2 : List SO := [rZ 2 (.assign (ciZ 3))]
def camera_Check_r3 : List SO := [faZ 21 56 1 2, ldZ 22 22 21, rZ 23 (.call ⟨(.builtin .len), #[(tZ 22)], #[22]⟩), faZ 24 56 1 0, ldZ 25 3 24, faZ 26 56 1 1, ldZ 27 3 26, boZ 28 .mul 3 25 27 3, boZ 29 .neq 3 23 28 3]
def camera_Check_r4 : List SO := [rZ 2 (.assign (ciZ 4))]
def camera_Check_r5 : List SO := [rZ 2 (.assign (ciZ 0))]
def camera_Check_c : SF := ⟨30, (.seq (.reg camera_Check_r0)
  (.seq (.seq (.reg camera_Check_r1)
  (.cond (tZ 20) (.seq (.reg camera_Check_r2)
  .ret) .skip))
  (.seq (.seq (.reg camera_Check_r3)
  (.cond (tZ 29) (.seq (.reg camera_Check_r4)
  .ret) .skip))
  (.seq (.reg camera_Check_r5)
  .ret)))), [.tmp 2]⟩
theorem camera_Check_s : slimF Try.prog 57 = some camera_Check_c := by kernel_rfl
abbrev camera_Check_f : Nat := 57
/-- printworks/camera.split -/
def camera_split_r0 : List SO := [rZ 2 (.alloc 29)]
def camera_split_r1 : List SO := [mvZ 10 0, rZ 11 (.nilCheck (tZ 10)), faZ 12 56 11 2, ldZ 13 22 12, rZ 14 (.indexAddr 22 (tZ 13) (ciZ 0)), ldZ 15 5 14, mvZ 16 0, rZ 17 (.nilCheck (tZ 16)), faZ 18 56 17 2, ldZ 19 22 18, rZ 20 (.indexAddr 22 (tZ 19) (ciZ 0)), ldZ 21 5 20, asZ 3 15, asZ 4 21]
def camera_split_a1 : List (List Nat) := [[], [0], [1], [2], [3], [4], [], [6], [7], [8], [9], [10], [5, 0, 1, 2, 3, 4, 5], [11, 12, 0, 1, 2, 3, 4, 5, 6, 7, 8, 9, 10, 11, 12]]
def camera_split_r2 : List SO := [mvZ 22 0, rZ 23 (.nilCheck (tZ 22)), faZ 24 56 23 2, ldZ 25 22 24, rZ 26 (.call ⟨(.builtin .len), #[(tZ 25)], #[22]⟩), rZ 27 (.move (ciZ 0))]
def camera_split_r3 : List SO := [boZ 28 .lss 3 27 26 3]
def camera_split_r4 : List SO := [iaZ 29 22 25 27, ldZ 30 5 29, asZ 6 30]
def camera_split_r5 : List SO := [mvZ 31 3, mvZ 32 6, rZ 33 (.call ⟨(.builtin .min), #[(tZ 31), (tZ 32)], #[5, 5]⟩), mvZ 34 4, mvZ 35 6, rZ 36 (.call ⟨(.builtin .max), #[(tZ 34), (tZ 35)], #[5, 5]⟩), asZ 3 33, asZ 4 36]
def camera_split_r6 : List SO := [bcZ 37 .add 3 27 1 3, mvZ 27 37]
def camera_split_r7 : List SO := [mvZ 38 0, rZ 39 (.nilCheck (tZ 38)), faZ 40 56 39 0, ldZ 41 3 40, mvZ 42 0, rZ 43 (.nilCheck (tZ 42)), faZ 44 56 43 1, ldZ 45 3 44, rZ 46 (.call ⟨(.value (.func (36 : Nat))), #[(tZ 41), (tZ 45)], #[3, 3]⟩), rZ 7 (.alloc 29), stZ 29 7 46]
def camera_split_a7 : List (List Nat) := [[], [0], [1], [2], [], [4], [5], [6], [3, 7], [], [9, 8, 8, 0, 1, 2, 3, 4, 5, 6, 7, 8, 9]]
def camera_split_r8 : List SO := [mvZ 47 0, rZ 48 (.nilCheck (tZ 47)), faZ 49 56 48 2, ldZ 50 22 49, rZ 51 (.call ⟨(.builtin .len), #[(tZ 50)], #[22]⟩), rZ 52 (.move (ciZ 0))]
def camera_split_r9 : List SO := [boZ 53 .lss 3 52 51 3]
def camera_split_r10 : List SO := [mvZ 54 52, iaZ 55 22 50 52, ldZ 56 5 55, asZ 8 54, asZ 9 56]
def camera_split_r11 : List SO := [mvZ 57 9, rZ 58 (.convert 5 3 (tZ 57)), rZ 59 (.binOp .mul 3 (ciZ 2) (tZ 58) 3), mvZ 60 3, rZ 61 (.convert 5 3 (tZ 60)), mvZ 62 4, rZ 63 (.convert 5 3 (tZ 62)), boZ 64 .add 3 61 63 3, boZ 65 .lss 3 59 64 3]
def camera_split_r12 : List SO := [mvZ 66 8, mvZ 67 0, rZ 68 (.nilCheck (tZ 67)), faZ 69 56 68 0, ldZ 70 3 69, boZ 71 .rem 3 66 70 3, mvZ 72 8, mvZ 73 0, rZ 74 (.nilCheck (tZ 73)), faZ 75 56 74 0, ldZ 76 3 75, boZ 77 .quo 3 72 76 3, rZ 78 (.call ⟨(.value (.func (38 : Nat))), #[(tZ 7), (tZ 71), (tZ 77)], #[81, 3, 3]⟩)]
def camera_split_a12 : List (List Nat) := [[], [], [1], [2], [3], [0, 4], [], [], [7], [8], [9], [6, 10], [5, 11]]
def camera_split_r13 : List SO := [bcZ 79 .add 3 52 1 3, mvZ 52 79]
def camera_split_r14 : List SO := [ldZ 80 29 7, stZ 29 2 80]
def camera_split_c : SF := ⟨81, (.seq (.reg camera_split_r0)
  (.seq (.regd camera_split_r1 camera_split_a1)
  (.seq (.seq (.reg camera_split_r2)
  (.block 0 (.loop (.seq (.reg camera_split_r3)
  (.seq (.cond (tZ 28) .skip (.exit 0))
  (.seq (.block 1 (.seq (.reg camera_split_r4)
  (.reg camera_split_r5)))
  (.reg camera_split_r6)))))))
  (.seq (.regd camera_split_r7 camera_split_a7)
  (.seq (.seq (.reg camera_split_r8)
  (.block 2 (.loop (.seq (.reg camera_split_r9)
  (.seq (.cond (tZ 53) .skip (.exit 2))
  (.seq (.block 3 (.seq (.reg camera_split_r10)
  (.seq (.reg camera_split_r11)
  (.cond (tZ 65) (.regd camera_split_r12 camera_split_a12) .skip))))
  (.reg camera_split_r13)))))))
  (.seq (.reg camera_split_r14)
  .ret)))))), [.cell 2 29]⟩
theorem camera_split_s : slimF Try.prog 58 = some camera_split_c := by kernel_rfl
abbrev camera_split_f : Nat := 58
/-- printworks/camera.box -/
def camera_box_r0 : List SO := [rZ 2 (.alloc 3), rZ 3 (.alloc 3), rZ 4 (.alloc 3), rZ 5 (.alloc 3)]
def camera_box_r1 : List SO := [mvZ 8 0, rZ 9 (.nilCheck (tZ 8)), faZ 10 29 9 0, ldZ 11 3 10, mvZ 12 0, rZ 13 (.nilCheck (tZ 12)), faZ 14 29 13 1, ldZ 15 3 14, stZ 3 2 11, stZ 3 3 15]
def camera_box_a1 : List (List Nat) := [[], [0], [1], [2], [], [4], [5], [6], [3, 0, 1, 2, 3], [7, 8, 0, 1, 2, 3, 4, 5, 6, 7, 8]]
def camera_box_r2 : List SO := [mvZ 16 0, rZ 17 (.nilCheck (tZ 16)), faZ 18 29 17 1, ldZ 19 3 18, rZ 20 (.move (ciZ 0))]
def camera_box_r3 : List SO := [boZ 21 .lss 3 20 19 3]
def camera_box_r4 : List SO := [mvZ 22 20, rZ 6 (.alloc 3), stZ 3 6 22]
def camera_box_r5 : List SO := [mvZ 23 0, ldZ 24 3 6, rZ 25 (.call ⟨(.value (.func (76 : Nat))), #[(tZ 23), (tZ 24)], #[81, 3]⟩)]
def camera_box_r6 : List SO := [rZ 7 (.alloc 134), stZ 134 7 26]
def camera_box_r7 : List SO := [ldZ 27 3 2, faZ 28 134 7 1, ldZ 29 3 28, rZ 30 (.call ⟨(.builtin .min), #[(tZ 27), (tZ 29)], #[3, 3]⟩), ldZ 31 3 4, faZ 32 134 7 2, ldZ 33 3 32, rZ 34 (.call ⟨(.builtin .max), #[(tZ 31), (tZ 33)], #[3, 3]⟩), stZ 3 2 30, stZ 3 4 34]
def camera_box_a7 : List (List Nat) := [[], [], [1], [0, 2], [], [], [5], [4, 6], [3, 0, 1, 2, 3], [7, 8, 0, 1, 2, 3, 4, 5, 6, 7, 8]]
def camera_box_r8 : List SO := [ldZ 35 3 3, ldZ 36 3 6, rZ 37 (.call ⟨(.builtin .min), #[(tZ 35), (tZ 36)], #[3, 3]⟩), ldZ 38 3 6, bcZ 39 .add 3 38 1 3, stZ 3 3 37, stZ 3 5 39]
def camera_box_a8 : List (List Nat) := [[], [], [0, 1], [], [3], [2, 0, 1, 2], [4, 5, 0, 1, 2, 3, 4, 5]]
def camera_box_r9 : List SO := [bcZ 40 .add 3 20 1 3, mvZ 20 40]
def camera_box_r10 : List SO := [ldZ 41 3 2, ldZ 42 3 3, ldZ 43 3 4, ldZ 44 3 5, stZ 3 2 41, stZ 3 3 42, stZ 3 4 43, stZ 3 5 44]
def camera_box_a10 : List (List Nat) := [[], [], [], [], [0, 0], [1, 4, 0, 1, 4], [2, 5, 0, 1, 2, 4, 5], [3, 6, 0, 1, 2, 3, 4, 5, 6]]
def camera_box_c : SF := ⟨45, (.seq (.reg camera_box_r0)
  (.seq (.regd camera_box_r1 camera_box_a1)
  (.seq (.seq (.reg camera_box_r2)
  (.block 0 (.loop (.seq (.reg camera_box_r3)
  (.seq (.cond (tZ 21) .skip (.exit 0))
  (.seq (.block 1 (.seq (.reg camera_box_r4)
  (.seq (.reg camera_box_r5)
  (.block 2 (.rf (tZ 25) [26] (.reg camera_box_r6) (.block 3 (.seq (.regd camera_box_r7 camera_box_a7)
  (.regd camera_box_r8 camera_box_a8))))))))
  (.reg camera_box_r9)))))))
  (.seq (.regd camera_box_r10 camera_box_a10)
  .ret)))), [.cell 2 3, .cell 3 3, .cell 4 3, .cell 5 3]⟩
theorem camera_box_s : slimF Try.prog 59 = some camera_box_c := by kernel_rfl
abbrev camera_box_f : Nat := 59
/-- printworks/camera.sample -/
def camera_sample_r0 : List SO := [rZ 12 (.alloc 29)]
def camera_sample_r1 : List SO := [mvZ 16 5, mvZ 17 5, rZ 18 (.call ⟨(.value (.func (36 : Nat))), #[(tZ 16), (tZ 17)], #[3, 3]⟩), rZ 13 (.alloc 29), stZ 29 13 18]
def camera_sample_r2 : List SO := [mvZ 19 5, rZ 20 (.move (ciZ 0))]
def camera_sample_r3 : List SO := [boZ 21 .lss 3 20 19 3]
def camera_sample_r4 : List SO := [mvZ 22 20, asZ 14 22]
def camera_sample_r5 : List SO := [mvZ 23 5, rZ 24 (.move (ciZ 0))]
def camera_sample_r6 : List SO := [boZ 25 .lss 3 24 23 3]
def camera_sample_r7 : List SO := [mvZ 26 24, asZ 15 26]
def camera_sample_r8 : List SO := [mvZ 27 0, mvZ 28 1, mvZ 29 15, rZ 30 (.binOp .mul 3 (ciZ 2) (tZ 29) 3), bcZ 31 .add 3 30 1 3, mvZ 32 3, mvZ 33 1, boZ 34 .sub 3 32 33 3, boZ 35 .mul 3 31 34 3, mvZ 36 5, rZ 37 (.binOp .mul 3 (ciZ 2) (tZ 36) 3), boZ 38 .quo 3 35 37 3, boZ 39 .add 3 28 38 3, mvZ 40 2, mvZ 41 14, rZ 42 (.binOp .mul 3 (ciZ 2) (tZ 41) 3), bcZ 43 .add 3 42 1 3, mvZ 44 4, mvZ 45 2, boZ 46 .sub 3 44 45 3, boZ 47 .mul 3 43 46 3, mvZ 48 5, rZ 49 (.binOp .mul 3 (ciZ 2) (tZ 48) 3), boZ 50 .quo 3 47 49 3, boZ 51 .add 3 40 50 3, rZ 52 (.call ⟨(.value (.func (51 : Nat))), #[(tZ 27), (tZ 39), (tZ 51)], #[81, 3, 3]⟩)]
def camera_sample_a8 : List (List Nat) := [[], [], [], [2], [3], [], [], [5, 6], [4, 7], [], [9], [8, 10], [1, 11], [], [], [14], [15], [], [], [17, 18], [16, 19], [], [21], [20, 22], [13, 23], [0, 12, 24]]
def camera_sample_r9 : List SO := [mvZ 53 15, mvZ 54 14, rZ 55 (.call ⟨(.value (.func (38 : Nat))), #[(tZ 13), (tZ 53), (tZ 54)], #[81, 3, 3]⟩)]
def camera_sample_r10 : List SO := [bcZ 56 .add 3 24 1 3, mvZ 24 56]
def camera_sample_r11 : List SO := [bcZ 57 .add 3 20 1 3, mvZ 20 57]
def camera_sample_r12 : List SO := [ldZ 58 29 13, stZ 29 12 58]
def camera_sample_c : SF := ⟨59, (.seq (.reg camera_sample_r0)
  (.seq (.reg camera_sample_r1)
  (.seq (.seq (.reg camera_sample_r2)
  (.block 0 (.loop (.seq (.reg camera_sample_r3)
  (.seq (.cond (tZ 21) .skip (.exit 0))
  (.seq (.block 1 (.seq (.reg camera_sample_r4)
  (.seq (.reg camera_sample_r5)
  (.block 2 (.loop (.seq (.reg camera_sample_r6)
  (.seq (.cond (tZ 25) .skip (.exit 2))
  (.seq (.block 3 (.seq (.reg camera_sample_r7)
  (.seq (.regd camera_sample_r8 camera_sample_a8)
  (.cond (tZ 52) (.reg camera_sample_r9) .skip))))
  (.reg camera_sample_r10)))))))))
  (.reg camera_sample_r11)))))))
  (.seq (.reg camera_sample_r12)
  .ret)))), [.cell 12 29]⟩
theorem camera_sample_s : slimF Try.prog 60 = some camera_sample_c := by kernel_rfl
abbrev camera_sample_f : Nat := 60

end Go.Proofs.Ythkilkjngincpaa
namespace Go.Proofs.Ythkilkjngincpaa
open Go Go.Lite
set_option linter.unusedVariables false

/-- printworks/printworkstop.TopMatrixRead -/
def T_TopMatrixRead_r0 : List SO := [rZ 7 (.box 52 (tZ 3)), rZ 8 (.assign (.const (.bool false)))]
def T_TopMatrixRead_r1 : List SO := [rZ 28 (.call ⟨(.value (.func (23 : Nat))), #[], #[]⟩), rZ 29 (.unOp .not 4 (tZ 28))]
def T_TopMatrixRead_r2 : List SO := [rZ 8 (.assign (.const (.bool false)))]
def T_TopMatrixRead_r3 : List SO := [mvZ 30 1, rZ 31 (.call ⟨(.value (.func (24 : Nat))), #[(tZ 30), (ciZ 9)], #[3, 3]⟩), rZ 32 (.binOp .mul 3 (ciZ 2) (tZ 31) 3), rZ 33 (.binOp .add 3 (ciZ 8) (tZ 32) 3), asZ 1 33]
def T_TopMatrixRead_r4 : List SO := [mvZ 35 1, rZ 36 (.call ⟨(.value (.func (10 : Nat))), #[(tZ 35)], #[3]⟩), mvZ 34 36, exZ 37 34 0, exZ 38 34 1, exZ 39 34 2, exZ 40 34 3, asZ 9 37, asZ 10 38, asZ 11 39, asZ 12 40]
def T_TopMatrixRead_r5 : List SO := [mvZ 41 12, bcZ 42 .neq 25 41 0 25, mvZ 43 42, gZ 43 false (mvZ 44 11), gZ 43 false (bcZ 45 .lss 3 44 1 3), rZ 46 (.pick (tZ 43) (.const (.bool true)) (tZ 45))]
def T_TopMatrixRead_r6 : List SO := [rZ 8 (.assign (.const (.bool false)))]
def T_TopMatrixRead_r7 : List SO := [mvZ 47 0, mvZ 48 0, rZ 49 (.call ⟨(.builtin .len), #[(tZ 48)], #[22]⟩), mvZ 50 11, rZ 51 (.call ⟨(.builtin .min), #[(tZ 49), (tZ 50)], #[3, 3]⟩), rZ 52 (.slice 22 (tZ 47) none (some (tZ 51)) none), asZ 0 52]
def T_TopMatrixRead_r8 : List SO := [mvZ 54 0, mvZ 55 1, rZ 56 (.call ⟨(.value (.func (11 : Nat))), #[(tZ 54), (tZ 55)], #[22, 3]⟩), mvZ 53 56, exZ 57 53 0, exZ 58 53 1, rZ 13 (.alloc 29), stZ 29 13 57, asZ 14 58]
def T_TopMatrixRead_r9 : List SO := [mvZ 59 14, bcZ 60 .neq 25 59 0 25, mvZ 61 60, gZ 61 false (faZ 62 29 13 0), gZ 61 false (ldZ 63 3 62), gZ 61 false (mvZ 64 1), gZ 61 false (boZ 65 .neq 3 63 64 3), rZ 66 (.pick (tZ 61) (.const (.bool true)) (tZ 65)), mvZ 67 66, gZ 67 false (faZ 68 29 13 1), gZ 67 false (ldZ 69 3 68), gZ 67 false (mvZ 70 1), gZ 67 false (boZ 71 .neq 3 69 70 3), rZ 72 (.pick (tZ 67) (.const (.bool true)) (tZ 71))]
def T_TopMatrixRead_r10 : List SO := [rZ 8 (.assign (.const (.bool false)))]
def T_TopMatrixRead_r11 : List SO := [mvZ 73 2, mvZ 74 2, rZ 75 (.call ⟨(.builtin .len), #[(tZ 74)], #[38]⟩), mvZ 76 10, bcZ 77 .quo 3 76 2 3, rZ 78 (.call ⟨(.builtin .min), #[(tZ 75), (tZ 77)], #[3, 3]⟩), rZ 79 (.slice 38 (tZ 73) none (some (tZ 78)) none), rZ 80 (.call ⟨(.builtin .len), #[(tZ 79)], #[38]⟩), rZ 81 (.move (ciZ 0))]
def T_TopMatrixRead_r12 : List SO := [boZ 82 .lss 3 81 80 3]
def T_TopMatrixRead_r13 : List SO := [iaZ 83 38 79 81, ldZ 84 3 83, asZ 16 84]
def T_TopMatrixRead_r14 : List SO := [mvZ 85 16, mvZ 86 9, rZ 87 (.binOp .mul 3 (ciZ 8) (tZ 86) 3), rZ 88 (.call ⟨(.value (.func (24 : Nat))), #[(tZ 85), (tZ 87)], #[3, 3]⟩), asZ 16 88]
def T_TopMatrixRead_r15 : List SO := [mvZ 89 16, mvZ 90 1, bcZ 91 .sub 3 90 2 3, boZ 92 .rem 3 89 91 3, rZ 93 (.binOp .add 3 (ciZ 1) (tZ 92) 3), mvZ 94 16, mvZ 95 1, bcZ 96 .sub 3 95 2 3, boZ 97 .quo 3 94 96 3, rZ 98 (.binOp .add 3 (ciZ 1) (tZ 97) 3), asZ 17 93, asZ 18 98]
def T_TopMatrixRead_a15 : List (List Nat) := [[], [], [1], [0, 2], [3], [], [], [6], [5, 7], [8], [4, 0, 1, 2, 3, 4], [9, 10, 0, 1, 2, 3, 4, 5, 6, 7, 8, 9, 10]]
def T_TopMatrixRead_r16 : List SO := [ldZ 100 29 13, mvZ 101 17, mvZ 102 18, rZ 103 (.call ⟨(.value (.func (25 : Nat))), #[(tZ 100), (tZ 101), (tZ 102)], #[29, 3, 3]⟩), mvZ 99 103, exZ 104 99 0, exZ 105 99 1, asZ 19 104, asZ 20 105]
def T_TopMatrixRead_r17 : List SO := [ldZ 107 29 13, mvZ 108 17, mvZ 109 18, mvZ 110 19, rZ 111 (.unOp .not 4 (tZ 110)), rZ 112 (.call ⟨(.value (.func (26 : Nat))), #[(tZ 107), (tZ 108), (tZ 109), (tZ 111)], #[29, 3, 3, 4]⟩), mvZ 106 112, exZ 113 106 0, exZ 114 106 1, stZ 29 13 113, asZ 14 114]
def T_TopMatrixRead_r18 : List SO := [mvZ 115 14, bcZ 116 .neq 25 115 0 25, mvZ 117 116, gZ 117 false (mvZ 118 20), gZ 117 false (bcZ 119 .neq 25 118 0 25), rZ 120 (.pick (tZ 117) (.const (.bool true)) (tZ 119))]
def T_TopMatrixRead_r19 : List SO := [rZ 8 (.assign (.const (.bool false)))]
def T_TopMatrixRead_r20 : List SO := [bcZ 121 .add 3 81 1 3, mvZ 81 121]
def T_TopMatrixRead_r21 : List SO := [faZ 122 52 7 0, ldZ 123 3 122, rZ 124 (.call ⟨(.value (.func (24 : Nat))), #[(tZ 123), (ciZ 5)], #[3, 3]⟩), rZ 125 (.binOp .add 3 (ciZ 2) (tZ 124) 3), faZ 126 52 7 1, ldZ 127 3 126, rZ 128 (.call ⟨(.value (.func (24 : Nat))), #[(tZ 127), (ciZ 33)], #[3, 3]⟩), faZ 129 52 7 2, ldZ 130 3 129, rZ 131 (.call ⟨(.value (.func (24 : Nat))), #[(tZ 130), (ciZ 33)], #[3, 3]⟩), faZ 132 52 7 3, ldZ 133 3 132, rZ 134 (.call ⟨(.value (.func (24 : Nat))), #[(tZ 133), (ciZ 4)], #[3, 3]⟩), faZ 135 52 7 0, stZ 3 135 125, faZ 136 52 7 1, stZ 3 136 128, faZ 137 52 7 2, stZ 3 137 131, faZ 138 52 7 3, stZ 3 138 134, faZ 139 52 7 4, ⟨none, .store 3 (tZ 139) (ciZ 0), none⟩]
def T_TopMatrixRead_a21 : List (List Nat) := [[], [0], [1], [2], [], [4], [5, 2], [], [7], [8, 6], [], [10], [11, 9], [0, 1, 2, 3, 4, 5, 7, 8, 10, 11], [13, 3, 12, 0, 1, 2, 3, 4, 5, 7, 8, 10, 11], [0, 1, 2, 3, 4, 5, 6, 7, 8, 10, 11, 13, 14], [15, 6, 14, 0, 1, 2, 3, 4, 5, 6, 7, 8, 10, 11, 13, 14], [0, 1, 2, 3, 4, 5, 6, 7, 8, 9, 10, 11, 13, 14, 15, 16], [17, 9, 16, 0, 1, 2, 3, 4, 5, 6, 7, 8, 9, 10, 11, 13, 14, 15, 16], [0, 1, 2, 3, 4, 5, 6, 7, 8, 9, 10, 11, 12, 13, 14, 15, 16, 17, 18], [19, 12, 18, 0, 1, 2, 3, 4, 5, 6, 7, 8, 9, 10, 11, 12, 13, 14, 15, 16, 17, 18], [0, 1, 2, 3, 4, 5, 6, 7, 8, 9, 10, 11, 12, 13, 14, 15, 16, 17, 18, 19, 20], [21, 20, 0, 1, 2, 3, 4, 5, 6, 7, 8, 9, 10, 11, 12, 13, 14, 15, 16, 17, 18, 19, 20]]
def T_TopMatrixRead_r22 : List SO := [faZ 140 52 7 6, ldZ 141 3 140, rZ 142 (.call ⟨(.value (.func (24 : Nat))), #[(tZ 141), (ciZ 100)], #[3, 3]⟩), faZ 143 52 7 6, stZ 3 143 142]
def T_TopMatrixRead_r23 : List SO := [faZ 144 52 7 6, ldZ 145 3 144, bcZ 146 .add 3 145 60 3, faZ 147 52 7 5, ldZ 148 3 147, rZ 149 (.call ⟨(.value (.func (24 : Nat))), #[(tZ 148), (ciZ 90)], #[3, 3]⟩), boZ 150 .add 3 146 149 3, faZ 151 52 7 5, stZ 3 151 150]
def T_TopMatrixRead_a23 : List (List Nat) := [[], [0], [1], [], [3], [4], [2, 5], [0, 1, 2, 3, 4, 5, 6], [7, 6, 5, 0, 1, 2, 3, 4, 5, 6]]
def T_TopMatrixRead_r24 : List SO := [rZ 21 (.assign (.const (.slice none 0 0)))]
def T_TopMatrixRead_r25 : List SO := [faZ 152 52 7 7, ldZ 153 38 152, faZ 154 52 7 7, ldZ 155 38 154, rZ 156 (.call ⟨(.builtin .len), #[(tZ 155)], #[38]⟩), rZ 157 (.call ⟨(.builtin .min), #[(tZ 156), (ciZ 20)], #[3, 3]⟩), rZ 158 (.slice 38 (tZ 153) none (some (tZ 157)) none), rZ 159 (.call ⟨(.builtin .len), #[(tZ 158)], #[38]⟩), rZ 160 (.move (ciZ 0))]
def T_TopMatrixRead_r26 : List SO := [boZ 161 .lss 3 160 159 3]
def T_TopMatrixRead_r27 : List SO := [iaZ 162 38 158 160, ldZ 163 3 162, asZ 23 163]
def T_TopMatrixRead_r28 : List SO := [mvZ 164 21, mvZ 165 23, rZ 166 (.call ⟨(.value (.func (24 : Nat))), #[(tZ 165), (ciZ 29)], #[3, 3]⟩), bcZ 167 .sub 3 166 14 3, rZ 168 (.buildSlice 38 1 #[(0, (tZ 167))]), rZ 169 (.call ⟨(.builtin .append), #[(tZ 164), (tZ 168)], #[38, 38]⟩), asZ 21 169]
def T_TopMatrixRead_r29 : List SO := [bcZ 170 .add 3 160 1 3, mvZ 160 170]
def T_TopMatrixRead_r30 : List SO := [mvZ 171 21, faZ 172 52 7 7, stZ 38 172 171]
def T_TopMatrixRead_r31 : List SO := [ldZ 174 29 13, ldZ 175 52 7, rZ 176 (.call ⟨(.value (.func (27 : Nat))), #[(tZ 174), (tZ 175)], #[29, 52]⟩), mvZ 173 176, exZ 177 173 0, exZ 178 173 1, rZ 24 (.alloc 56), stZ 56 24 177, asZ 25 178]
def T_TopMatrixRead_r32 : List SO := [ldZ 180 56 24, rZ 181 (.call ⟨(.value (.func (28 : Nat))), #[(tZ 180)], #[56]⟩), mvZ 179 181, exZ 182 179 0, exZ 183 179 1, asZ 26 182, asZ 27 183]
def T_TopMatrixRead_r33 : List SO := [mvZ 184 25, bcZ 185 .eql 25 184 0 25, mvZ 186 185, gZ 186 true (mvZ 187 27), gZ 186 true (bcZ 188 .eql 25 187 0 25), rZ 189 (.pick (tZ 186) (tZ 188) (.const (.bool false))), mvZ 190 189, gZ 190 true (mvZ 191 26), gZ 190 true (rZ 192 (.convert 22 9 (tZ 191))), gZ 190 true (mvZ 193 0), gZ 190 true (rZ 194 (.convert 22 9 (tZ 193))), gZ 190 true (boZ 195 .eql 9 192 194 9), rZ 196 (.pick (tZ 190) (tZ 195) (.const (.bool false))), asZ 8 196]
def T_TopMatrixRead_c : SF := ⟨197, (.seq (.reg T_TopMatrixRead_r0)
  (.seq (.seq (.reg T_TopMatrixRead_r1)
  (.cond (tZ 29) (.seq (.reg T_TopMatrixRead_r2)
  .ret) .skip))
  (.seq (.reg T_TopMatrixRead_r3)
  (.seq (.reg T_TopMatrixRead_r4)
  (.seq (.seq (.reg T_TopMatrixRead_r5)
  (.cond (tZ 46) (.seq (.reg T_TopMatrixRead_r6)
  .ret) .skip))
  (.seq (.reg T_TopMatrixRead_r7)
  (.seq (.reg T_TopMatrixRead_r8)
  (.seq (.seq (.reg T_TopMatrixRead_r9)
  (.cond (tZ 72) (.seq (.reg T_TopMatrixRead_r10)
  .ret) .skip))
  (.seq (.seq (.reg T_TopMatrixRead_r11)
  (.block 0 (.loop (.seq (.reg T_TopMatrixRead_r12)
  (.seq (.cond (tZ 82) .skip (.exit 0))
  (.seq (.block 1 (.seq (.reg T_TopMatrixRead_r13)
  (.seq (.reg T_TopMatrixRead_r14)
  (.seq (.regd T_TopMatrixRead_r15 T_TopMatrixRead_a15)
  (.seq (.reg T_TopMatrixRead_r16)
  (.seq (.reg T_TopMatrixRead_r17)
  (.seq (.reg T_TopMatrixRead_r18)
  (.cond (tZ 120) (.seq (.reg T_TopMatrixRead_r19)
  .ret) .skip))))))))
  (.reg T_TopMatrixRead_r20)))))))
  (.seq (.regd T_TopMatrixRead_r21 T_TopMatrixRead_a21)
  (.seq (.reg T_TopMatrixRead_r22)
  (.seq (.regd T_TopMatrixRead_r23 T_TopMatrixRead_a23)
  (.seq (.reg T_TopMatrixRead_r24)
  (.seq (.seq (.reg T_TopMatrixRead_r25)
  (.block 2 (.loop (.seq (.reg T_TopMatrixRead_r26)
  (.seq (.cond (tZ 161) .skip (.exit 2))
  (.seq (.block 3 (.seq (.reg T_TopMatrixRead_r27)
  (.reg T_TopMatrixRead_r28)))
  (.reg T_TopMatrixRead_r29)))))))
  (.seq (.reg T_TopMatrixRead_r30)
  (.seq (.reg T_TopMatrixRead_r31)
  (.seq (.reg T_TopMatrixRead_r32)
  (.seq (.reg T_TopMatrixRead_r33)
  .ret)))))))))))))))))), [.tmp 8]⟩
theorem T_TopMatrixRead_s : slimF Try.prog 6 = some T_TopMatrixRead_c := by kernel_rfl
abbrev T_TopMatrixRead_f : Nat := 6

end Go.Proofs.Ythkilkjngincpaa
