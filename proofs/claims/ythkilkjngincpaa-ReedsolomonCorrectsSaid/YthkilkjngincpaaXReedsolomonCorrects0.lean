/- Printed by program: the functions' code in few words; the kernel checks it against the translation. -/
import Derived.Test.YthkilkjngincpaaRows
import Derived.Test.YthkilkjngincpaaLiteTP
namespace Go.Proofs.Ythkilkjngincpaa
open Go Go.Lite
set_option linter.unusedVariables false

/-- Int -/
abbrev Ey : Nat := 0
/-- Bool -/
abbrev Eo : Nat := 1
/-- Int -/
abbrev Ei : Nat := 2
@[reducible] def A (e : Nat) : Type := match e with
  | 0 => Int
  | 1 => Bool
  | 2 => Int
  | 3 => Int × Int × Int × Int × Int
  | 4 => Int × Int × List (Int)
  | 5 => Int × Int × Int × Int
  | 6 => Int × Int × Int × Int × Int × Int
  | _ => Unit
def eSz (e : Nat) : Nat := match e with
  | 0 => 1
  | 1 => 1
  | 2 => 1
  | 3 => 5
  | 4 => 3
  | 5 => 4
  | 6 => 6
  | _ => 1
def eD (e : Nat) : A e := match e with
  | 0 => (0 : Int)
  | 1 => false
  | 2 => (0 : Int)
  | 3 => ((0 : Int), (0 : Int), (0 : Int), (0 : Int), (0 : Int))
  | 4 => ((0 : Int), (0 : Int), ([] : List (Int)))
  | 5 => ((0 : Int), (0 : Int), (0 : Int), (0 : Int))
  | 6 => ((0 : Int), (0 : Int), (0 : Int), (0 : Int), (0 : Int), (0 : Int))
  | _ + 7 => ()
def encL0 (x : Int) : List LV := [.int .u8 (x)]
def enc0 (x : Int) : List (TV A) := [.int .u8 (x)]
def dec0 (cs : List (TV A)) : Option (Int) := match cs with
  | [.int .u8 x0] => some x0
  | _ => none
def encL1 (x : Bool) : List LV := [.bool (x)]
def enc1 (x : Bool) : List (TV A) := [.bool (x)]
def dec1 (cs : List (TV A)) : Option (Bool) := match cs with
  | [.bool x0] => some x0
  | _ => none
def encL2 (x : Int) : List LV := [.int .i64 (x)]
def enc2 (x : Int) : List (TV A) := [.int .i64 (x)]
def dec2 (cs : List (TV A)) : Option (Int) := match cs with
  | [.int .i64 x0] => some x0
  | _ => none
def encL3 (x : Int × Int × Int × Int × Int) : List LV := [.int .i64 (x.1), .int .i64 (x.2.1), .int .i64 (x.2.2.1), .int .i64 (x.2.2.2.1), .int .i64 (x.2.2.2.2)]
def enc3 (x : Int × Int × Int × Int × Int) : List (TV A) := [.int .i64 (x.1), .int .i64 (x.2.1), .int .i64 (x.2.2.1), .int .i64 (x.2.2.2.1), .int .i64 (x.2.2.2.2)]
def dec3 (cs : List (TV A)) : Option (Int × Int × Int × Int × Int) := match cs with
  | [.int .i64 x0, .int .i64 x1, .int .i64 x2, .int .i64 x3, .int .i64 x4] => some (x0, x1, x2, x3, x4)
  | _ => none
def encL4 (x : Int × Int × List (Int)) : List LV := [.int .i64 (x.1), .int .i64 (x.2.1), .ps 1 (List.length (x.2.2)) (List.flatMap encL0 (x.2.2))]
def enc4 (x : Int × Int × List (Int)) : List (TV A) := [.int .i64 (x.1), .int .i64 (x.2.1), .lst 0 (x.2.2)]
def dec4 (cs : List (TV A)) : Option (Int × Int × List (Int)) := match cs with
  | [.int .i64 x0, .int .i64 x1, .lst 0 x2] => some (x0, x1, x2)
  | _ => none
def encL5 (x : Int × Int × Int × Int) : List LV := [.int .i64 (x.1), .int .i64 (x.2.1), .int .i64 (x.2.2.1), .int .i64 (x.2.2.2)]
def enc5 (x : Int × Int × Int × Int) : List (TV A) := [.int .i64 (x.1), .int .i64 (x.2.1), .int .i64 (x.2.2.1), .int .i64 (x.2.2.2)]
def dec5 (cs : List (TV A)) : Option (Int × Int × Int × Int) := match cs with
  | [.int .i64 x0, .int .i64 x1, .int .i64 x2, .int .i64 x3] => some (x0, x1, x2, x3)
  | _ => none
def encL6 (x : Int × Int × Int × Int × Int × Int) : List LV := [.int .i64 (x.1), .int .i64 (x.2.1), .int .i64 (x.2.2.1), .int .i64 (x.2.2.2.1), .int .i64 (x.2.2.2.2.1), .int .i64 (x.2.2.2.2.2)]
def enc6 (x : Int × Int × Int × Int × Int × Int) : List (TV A) := [.int .i64 (x.1), .int .i64 (x.2.1), .int .i64 (x.2.2.1), .int .i64 (x.2.2.2.1), .int .i64 (x.2.2.2.2.1), .int .i64 (x.2.2.2.2.2)]
def dec6 (cs : List (TV A)) : Option (Int × Int × Int × Int × Int × Int) := match cs with
  | [.int .i64 x0, .int .i64 x1, .int .i64 x2, .int .i64 x3, .int .i64 x4, .int .i64 x5] => some (x0, x1, x2, x3, x4, x5)
  | _ => none
def eEncL (e : Nat) (a : A e) : List LV := match e, a with
  | 0, a => encL0 a
  | 1, a => encL1 a
  | 2, a => encL2 a
  | 3, a => encL3 a
  | 4, a => encL4 a
  | 5, a => encL5 a
  | 6, a => encL6 a
  | _ + 7, _ => [.nilp]
def eEnc (e : Nat) (a : A e) : List (TV A) := match e, a with
  | 0, a => enc0 a
  | 1, a => enc1 a
  | 2, a => enc2 a
  | 3, a => enc3 a
  | 4, a => enc4 a
  | 5, a => enc5 a
  | 6, a => enc6 a
  | _ + 7, _ => [.nilp]
def eDec (e : Nat) (cs : List (TV A)) : Option (A e) := match e with
  | 0 => dec0 cs
  | 1 => dec1 cs
  | 2 => dec2 cs
  | 3 => dec3 cs
  | 4 => dec4 cs
  | 5 => dec5 cs
  | 6 => dec6 cs
  | _ + 7 => none
def eEl (t : Nat) : Option Nat := match t with
  | 22 => some 0
  | 41 => some 1
  | 38 => some 2
  | 61 => some 3
  | 64 => some 4
  | 67 => some 4
  | 70 => some 5
  | 85 => some 0
  | 125 => some 6
  | 127 => some 2
  | 136 => some 2
  | _ => none
def fl (e : Nat) : Bool := match e with
  | 0 => true
  | 1 => true
  | 2 => true
  | 3 => true
  | 4 => false
  | 5 => true
  | 6 => true
  | _ => false
def eByt (e : Nat) : Option (List (A e) → List Int) := match e with
  | 0 => some fun xs => xs
  | _ => none
theorem flat1 : ∀ xs : List Int, xs.flatMap (fun x => [LV.int .u8 x]) = xs.map (LV.int .u8)
  | [] => rfl
  | x :: r => congrArg (LV.int .u8 x :: ·) (flat1 r)
def R : Reg A := ⟨eSz, eD, eEncL, eEnc, eDec, eEl, eByt⟩
theorem R_ok : R.Ok where
  pos e := by show 0 < eSz e; unfold eSz; split <;> decide
  len e a := match e, a with
    | 0, a => rfl
    | 1, a => rfl
    | 2, a => rfl
    | 3, a => rfl
    | 4, a => rfl
    | 5, a => rfl
    | 6, a => rfl
    | e + 7, a => rfl
  ok e a := match e, a with
    | 0, a => rfl
    | 1, a => rfl
    | 2, a => rfl
    | 3, a => rfl
    | 4, a => rfl
    | 5, a => rfl
    | 6, a => rfl
    | e + 7, a => rfl
  dec e cs a h := match e, a, h with
    | 0, a, h => by
      replace h : dec0 cs = some a := h
      unfold dec0 at h
      split at h
      · cases h; rfl
      · cases h
    | 1, a, h => by
      replace h : dec1 cs = some a := h
      unfold dec1 at h
      split at h
      · cases h; rfl
      · cases h
    | 2, a, h => by
      replace h : dec2 cs = some a := h
      unfold dec2 at h
      split at h
      · cases h; rfl
      · cases h
    | 3, a, h => by
      replace h : dec3 cs = some a := h
      unfold dec3 at h
      split at h
      · cases h; rfl
      · cases h
    | 4, a, h => by
      replace h : dec4 cs = some a := h
      unfold dec4 at h
      split at h
      · cases h; rfl
      · cases h
    | 5, a, h => by
      replace h : dec5 cs = some a := h
      unfold dec5 at h
      split at h
      · cases h; rfl
      · cases h
    | 6, a, h => by
      replace h : dec6 cs = some a := h
      unfold dec6 at h
      split at h
      · cases h; rfl
      · cases h
    | e + 7, a, h => by cases h
  free e a := match e, a with
    | 0, a => rfl
    | 1, a => rfl
    | 2, a => rfl
    | 3, a => rfl
    | 4, a => rfl
    | 5, a => rfl
    | 6, a => rfl
    | e + 7, a => rfl
  sol e a := match e, a with
    | 0, a => rfl
    | 1, a => rfl
    | 2, a => rfl
    | 3, a => rfl
    | 4, a => rfl
    | 5, a => rfl
    | 6, a => rfl
    | e + 7, a => rfl
  byt e f h xs := match e, f, h with
    | 0, f, h => by cases h; exact flat1 xs
    | 1, f, h => by cases h
    | 2, f, h => by cases h
    | 3, f, h => by cases h
    | 4, f, h => by cases h
    | 5, f, h => by cases h
    | 6, f, h => by cases h
    | e + 7, f, h => by cases h
theorem fl_ok : ∀ e, fl e = true → ∀ a, psfreeL (R.encL e a) = true := fun e h a => match e, h, a with
  | 0, h, a => rfl
  | 1, h, a => rfl
  | 2, h, a => rfl
  | 3, h, a => rfl
  | 4, h, a => by cases h
  | 5, h, a => rfl
  | 6, h, a => rfl
  | e + 7, h, a => rfl

def tyL : List (Nat × TI) := [(0, ⟨.other, 1, false, [.dead]⟩),
  (3, ⟨.int .i64, 1, false, [.int .i64 0]⟩),
  (25, ⟨.int .i64, 1, false, [.int .i64 0]⟩),
  (22, ⟨.slice 1 1 [.int .u8 0], 1, false, [.nils]⟩),
  (29, ⟨.struct [(0, 1, false), (1, 1, false), (2, 1, false)], 3, true, [.int .i64 0, .int .i64 0, .nils]⟩),
  (5, ⟨.int .u8, 1, false, [.int .u8 0]⟩),
  (41, ⟨.slice 1 1 [.bool false], 1, false, [.nils]⟩),
  (38, ⟨.slice 1 8 [.int .i64 0], 1, false, [.nils]⟩),
  (4, ⟨.bool, 1, false, [.bool false]⟩),
  (52, ⟨.struct [(0, 1, false), (1, 1, false), (2, 1, false), (3, 1, false), (4, 1, false), (5, 1, false), (6, 1, false), (7, 1, false)], 8, true, [.int .i64 0, .int .i64 0, .int .i64 0, .int .i64 0, .int .i64 0, .int .i64 0, .int .i64 0, .nils]⟩),
  (56, ⟨.struct [(0, 1, false), (1, 1, false), (2, 1, false)], 3, true, [.int .i64 0, .int .i64 0, .nils]⟩),
  (9, ⟨.str, 1, false, [.str ⟨([] : List UInt8).toArray⟩]⟩),
  (61, ⟨.slice 5 40 [.int .i64 0, .int .i64 0, .int .i64 0, .int .i64 0, .int .i64 0], 1, false, [.nils]⟩),
  (64, ⟨.slice 3 40 [.int .i64 0, .int .i64 0, .nils], 1, false, [.nils]⟩),
  (68, ⟨.struct [(0, 1, false), (1, 1, false), (2, 1, false)], 3, true, [.int .i64 0, .int .i64 0, .nils]⟩),
  (67, ⟨.slice 3 40 [.int .i64 0, .int .i64 0, .nils], 1, false, [.nils]⟩),
  (70, ⟨.slice 4 32 [.int .i64 0, .int .i64 0, .int .i64 0, .int .i64 0], 1, false, [.nils]⟩),
  (74, ⟨.struct [(0, 1, false), (1, 1, false), (2, 1, false), (3, 1, false)], 4, true, [.int .i64 0, .int .i64 0, .int .i64 0, .int .i64 0]⟩),
  (81, ⟨.other, 1, false, [.nilp]⟩),
  (85, ⟨.slice 1 1 [.int .u8 0], 1, false, [.nils]⟩),
  (105, ⟨.other, 1, false, [.nilp]⟩),
  (113, ⟨.struct [(0, 1, false), (1, 1, false)], 2, true, [.int .i64 0, .int .i64 0]⟩),
  (117, ⟨.struct [(0, 1, false), (1, 1, false), (2, 1, false), (3, 1, false), (4, 1, false)], 5, true, [.int .i64 0, .int .i64 0, .int .i64 0, .int .i64 0, .int .i64 0]⟩),
  (121, ⟨.other, 1, false, [.nilf]⟩),
  (125, ⟨.slice 6 48 [.int .i64 0, .int .i64 0, .int .i64 0, .int .i64 0, .int .i64 0, .int .i64 0], 1, false, [.nils]⟩),
  (127, ⟨.arr 6 1 false, 6, true, [.int .i64 0, .int .i64 0, .int .i64 0, .int .i64 0, .int .i64 0, .int .i64 0]⟩),
  (134, ⟨.struct [(0, 1, false), (1, 1, false), (2, 1, false)], 3, true, [.int .i64 0, .int .i64 0, .int .i64 0]⟩),
  (135, ⟨.other, 1, false, [.nilf]⟩),
  (136, ⟨.arr 4 1 false, 4, true, [.int .i64 0, .int .i64 0, .int .i64 0, .int .i64 0]⟩),
  (137, ⟨.other, 1, false, [.nilf]⟩)]
theorem tyL_ok : okL (tiOf Try.prog) tyL := ⟨by kernel_rfl, by kernel_rfl, by kernel_rfl, by kernel_rfl, by kernel_rfl, by kernel_rfl, by kernel_rfl, by kernel_rfl, by kernel_rfl, by kernel_rfl, by kernel_rfl, by kernel_rfl, by kernel_rfl, by kernel_rfl, by kernel_rfl, by kernel_rfl, by kernel_rfl, by kernel_rfl, by kernel_rfl, by kernel_rfl, by kernel_rfl, by kernel_rfl, by kernel_rfl, by kernel_rfl, by kernel_rfl, by kernel_rfl, by kernel_rfl, by kernel_rfl, by kernel_rfl, by kernel_rfl, trivial⟩
def eqL : List (Nat × List Nat) := [(74, [0, 0, 0, 0]), (117, [0, 0, 0, 0, 0]), (113, [0, 0])]
theorem eqL_ok : okL (eqOf Try.prog) eqL := ⟨by kernel_rfl, by kernel_rfl, by kernel_rfl, trivial⟩
def nlL : List (Nat × Nat) := [(25, 0), (3, 0), (5, 0), (9, 0), (74, 0), (117, 0), (113, 0), (4, 0), (22, 3)]
theorem nlL_ok : okN (nilOf Try.prog) nlL := ⟨by kernel_rfl, by kernel_rfl, by kernel_rfl, by kernel_rfl, by kernel_rfl, by kernel_rfl, by kernel_rfl, by kernel_rfl, by kernel_rfl, trivial⟩
noncomputable def ty : TT := ⟨lookT tyL (tiOf Try.prog), lookT eqL (eqOf Try.prog), lookN nlL (nilOf Try.prog)⟩
theorem ty_ok : ty = ttOf Try.prog := by
  unfold ty ttOf
  rw [lookT_eq tyL_ok, lookT_eq eqL_ok, lookN_eq nlL_ok]
def Wy (x : Int) : Prop := rng .u8 x
def Wi (x : Int) : Prop := rng .i64 x
theorem rdy : R.d Ey = (0 : Int) := rfl
theorem rdo : R.d Eo = false := rfl
theorem rdi : R.d Ei = (0 : Int) := rfl
theorem env : Env A R Try.prog ty fl := ⟨R_ok, ty_ok, fl_ok, by kernel_rfl⟩

abbrev tZ (a : Nat) : Operand := .tmp a
abbrev ciZ (k : Int) : Operand := .const (.int .i64 k)
abbrev mvZ (d a : Nat) : SO := ⟨some d, .move (.tmp a), none⟩
abbrev ldZ (d t a : Nat) : SO := ⟨some d, .load t (.tmp a), none⟩
abbrev faZ (d t a i : Nat) : SO := ⟨some d, .fieldAddr t (.tmp a) i, none⟩
abbrev iaZ (d t a b : Nat) : SO := ⟨some d, .indexAddr t (.tmp a) (.tmp b), none⟩
abbrev asZ (d a : Nat) : SO := ⟨some d, .assign (.tmp a), none⟩
abbrev exZ (d a i : Nat) : SO := ⟨some d, .extract (.tmp a) i, none⟩
abbrev boZ (d : Nat) (o : BinOp) (t a b r : Nat) : SO := ⟨some d, .binOp o t (.tmp a) (.tmp b) r, none⟩
abbrev bcZ (d : Nat) (o : BinOp) (t a : Nat) (k : Int) (r : Nat) : SO := ⟨some d, .binOp o t (.tmp a) (.const (.int .i64 k)) r, none⟩
abbrev stZ (t a b : Nat) : SO := ⟨none, .store t (.tmp a) (.tmp b), none⟩
abbrev gZ (g : Nat) (b : Bool) (s : SO) : SO := ⟨s.dst, s.op, some (g, b)⟩
abbrev rZ (d : Nat) (o : Op) : SO := ⟨some d, o, none⟩

end Go.Proofs.Ythkilkjngincpaa
namespace Go.Proofs.Ythkilkjngincpaa
open Go Go.Lite
set_option linter.unusedVariables false

/-- printworks/reedsolomon.Valid -/
def reedsolomon_Valid_r0 : List SO := [rZ 4 (.assign (.const (.bool false))), rZ 5 (.assign (ciZ 0))]
def reedsolomon_Valid_r1 : List SO := [mvZ 9 0, mvZ 10 1, rZ 11 (.call ⟨(.value (.func (41 : Nat))), #[(tZ 9), (tZ 10)], #[22, 3]⟩), asZ 6 11]
def reedsolomon_Valid_r2 : List SO := [mvZ 12 6, bcZ 13 .neq 25 12 0 25]
def reedsolomon_Valid_r3 : List SO := [mvZ 14 6, rZ 4 (.assign (.const (.bool false))), asZ 5 14]
def reedsolomon_Valid_r4 : List SO := [mvZ 16 0, mvZ 17 1, rZ 18 (.call ⟨(.value (.func (42 : Nat))), #[(tZ 16), (tZ 17)], #[22, 3]⟩), mvZ 15 18, exZ 19 15 0, exZ 20 15 1, asZ 7 19, asZ 8 20]
def reedsolomon_Valid_r5 : List SO := [mvZ 21 8, asZ 4 21, rZ 5 (.assign (ciZ 0))]
def reedsolomon_Valid_c : SF := ⟨22, (.seq (.reg reedsolomon_Valid_r0)
  (.seq (.seq (.reg reedsolomon_Valid_r1)
  (.seq (.reg reedsolomon_Valid_r2)
  (.cond (tZ 13) (.seq (.reg reedsolomon_Valid_r3)
  .ret) .skip)))
  (.seq (.reg reedsolomon_Valid_r4)
  (.seq (.reg reedsolomon_Valid_r5)
  .ret)))), [.tmp 4, .tmp 5]⟩
theorem reedsolomon_Valid_s : slimF Try.prog 14 = some reedsolomon_Valid_c := by kernel_rfl
abbrev reedsolomon_Valid_f : Nat := 14
/-- printworks/reedsolomon.Encode -/
def reedsolomon_Encode_r0 : List SO := [rZ 4 (.assign (.const (.slice none 0 0))), rZ 5 (.assign (ciZ 0))]
def reedsolomon_Encode_r1 : List SO := [mvZ 13 1, bcZ 14 .lss 3 13 1 3, mvZ 15 14, gZ 15 false (mvZ 16 1), gZ 15 false (bcZ 17 .gtr 3 16 64 3), rZ 18 (.pick (tZ 15) (.const (.bool true)) (tZ 17))]
def reedsolomon_Encode_r2 : List SO := [rZ 4 (.assign (.const (.slice none 0 0))), rZ 5 (.assign (ciZ 3))]
def reedsolomon_Encode_r3 : List SO := [mvZ 19 0, rZ 20 (.call ⟨(.builtin .len), #[(tZ 19)], #[22]⟩), bcZ 21 .eql 3 20 0 3]
def reedsolomon_Encode_r4 : List SO := [rZ 4 (.assign (.const (.slice none 0 0))), rZ 5 (.assign (ciZ 1))]
def reedsolomon_Encode_r5 : List SO := [mvZ 22 0, rZ 23 (.call ⟨(.builtin .len), #[(tZ 22)], #[22]⟩), mvZ 24 1, boZ 25 .add 3 23 24 3, bcZ 26 .gtr 3 25 255 3]
def reedsolomon_Encode_r6 : List SO := [rZ 4 (.assign (.const (.slice none 0 0))), rZ 5 (.assign (ciZ 2))]
def reedsolomon_Encode_r7 : List SO := [rZ 27 (.buildSlice 85 1 #[(0, (.const (.int .u8 1)))]), asZ 6 27]
def reedsolomon_Encode_r8 : List SO := [mvZ 28 1, rZ 29 (.move (ciZ 0))]
def reedsolomon_Encode_r9 : List SO := [boZ 30 .lss 3 29 28 3]
def reedsolomon_Encode_r10 : List SO := [mvZ 31 29, asZ 7 31]
def reedsolomon_Encode_r11 : List SO := [mvZ 32 6, mvZ 33 7, rZ 34 (.call ⟨(.value (.func (46 : Nat))), #[(.const (.int .u8 2)), (tZ 33)], #[5, 3]⟩), rZ 35 (.buildSlice 85 2 #[(0, (tZ 34)), (1, (.const (.int .u8 1)))]), mvZ 36 1, bcZ 37 .add 3 36 1 3, rZ 38 (.call ⟨(.value (.func (45 : Nat))), #[(tZ 32), (tZ 35), (tZ 37)], #[85, 85, 3]⟩), asZ 6 38]
def reedsolomon_Encode_r12 : List SO := [bcZ 39 .add 3 29 1 3, mvZ 29 39]
def reedsolomon_Encode_r13 : List SO := [mvZ 40 1, rZ 41 (.makeSlice 22 (tZ 40) (tZ 40)), asZ 8 41]
def reedsolomon_Encode_r14 : List SO := [mvZ 42 0, rZ 43 (.call ⟨(.builtin .len), #[(tZ 42)], #[22]⟩), rZ 44 (.move (ciZ 0))]
def reedsolomon_Encode_r15 : List SO := [boZ 45 .lss 3 44 43 3]
def reedsolomon_Encode_r16 : List SO := [iaZ 46 22 42 44, ldZ 47 5 46, asZ 10 47]
def reedsolomon_Encode_r17 : List SO := [mvZ 48 10, mvZ 49 8, rZ 50 (.indexAddr 22 (tZ 49) (ciZ 0)), ldZ 51 5 50, boZ 52 .xor 5 48 51 5, asZ 11 52]
def reedsolomon_Encode_r18 : List SO := [mvZ 53 8, mvZ 54 8, rZ 55 (.slice 22 (tZ 54) (some (ciZ 1)) none none), rZ 56 (.call ⟨(.builtin .copy), #[(tZ 53), (tZ 55)], #[22, 22]⟩)]
def reedsolomon_Encode_r19 : List SO := [mvZ 57 8, mvZ 58 1, bcZ 59 .sub 3 58 1 3, iaZ 60 22 57 59, ⟨none, .store 5 (tZ 60) (.const (.int .u8 0)), none⟩]
def reedsolomon_Encode_r20 : List SO := [mvZ 61 8, rZ 62 (.call ⟨(.builtin .len), #[(tZ 61)], #[22]⟩), rZ 63 (.move (ciZ 0))]
def reedsolomon_Encode_r21 : List SO := [boZ 64 .lss 3 63 62 3]
def reedsolomon_Encode_r22 : List SO := [mvZ 65 63, asZ 12 65]
def reedsolomon_Encode_r23 : List SO := [mvZ 66 8, mvZ 67 12, iaZ 68 22 66 67, ldZ 69 5 68, mvZ 70 11, mvZ 71 6, mvZ 72 1, bcZ 73 .sub 3 72 1 3, mvZ 74 12, boZ 75 .sub 3 73 74 3, iaZ 76 85 71 75, ldZ 77 5 76, rZ 78 (.call ⟨(.value (.func (44 : Nat))), #[(tZ 70), (tZ 77)], #[5, 5]⟩), boZ 79 .xor 5 69 78 5, iaZ 80 22 66 67, stZ 5 80 79]
def reedsolomon_Encode_a23 : List (List Nat) := [[], [], [0, 1], [2], [], [], [], [6], [], [7, 8], [5, 9], [10], [4, 11], [3, 12], [0, 1, 0, 1, 2, 3, 4, 5, 6, 7, 8, 9, 10, 11, 12, 13], [14, 13, 12, 0, 1, 2, 3, 4, 5, 6, 7, 8, 9, 10, 11, 12, 13]]
def reedsolomon_Encode_r24 : List SO := [bcZ 81 .add 3 63 1 3, mvZ 63 81]
def reedsolomon_Encode_r25 : List SO := [bcZ 82 .add 3 44 1 3, mvZ 44 82]
def reedsolomon_Encode_r26 : List SO := [mvZ 83 0, rZ 84 (.call ⟨(.builtin .append), #[(.const (.slice none 0 0)), (tZ 83)], #[22, 22]⟩), mvZ 85 8, rZ 86 (.call ⟨(.builtin .append), #[(tZ 84), (tZ 85)], #[22, 22]⟩), asZ 4 86, rZ 5 (.assign (ciZ 0))]
def reedsolomon_Encode_c : SF := ⟨87, (.seq (.reg reedsolomon_Encode_r0)
  (.seq (.seq (.reg reedsolomon_Encode_r1)
  (.cond (tZ 18) (.seq (.reg reedsolomon_Encode_r2)
  .ret) .skip))
  (.seq (.seq (.reg reedsolomon_Encode_r3)
  (.cond (tZ 21) (.seq (.reg reedsolomon_Encode_r4)
  .ret) .skip))
  (.seq (.seq (.reg reedsolomon_Encode_r5)
  (.cond (tZ 26) (.seq (.reg reedsolomon_Encode_r6)
  .ret) .skip))
  (.seq (.reg reedsolomon_Encode_r7)
  (.seq (.seq (.reg reedsolomon_Encode_r8)
  (.block 0 (.loop (.seq (.reg reedsolomon_Encode_r9)
  (.seq (.cond (tZ 30) .skip (.exit 0))
  (.seq (.block 1 (.seq (.reg reedsolomon_Encode_r10)
  (.reg reedsolomon_Encode_r11)))
  (.reg reedsolomon_Encode_r12)))))))
  (.seq (.reg reedsolomon_Encode_r13)
  (.seq (.seq (.reg reedsolomon_Encode_r14)
  (.block 2 (.loop (.seq (.reg reedsolomon_Encode_r15)
  (.seq (.cond (tZ 45) .skip (.exit 2))
  (.seq (.block 3 (.seq (.reg reedsolomon_Encode_r16)
  (.seq (.reg reedsolomon_Encode_r17)
  (.seq (.reg reedsolomon_Encode_r18)
  (.seq (.reg reedsolomon_Encode_r19)
  (.seq (.reg reedsolomon_Encode_r20)
  (.block 4 (.loop (.seq (.reg reedsolomon_Encode_r21)
  (.seq (.cond (tZ 64) .skip (.exit 4))
  (.seq (.block 5 (.seq (.reg reedsolomon_Encode_r22)
  (.regd reedsolomon_Encode_r23 reedsolomon_Encode_a23)))
  (.reg reedsolomon_Encode_r24))))))))))))
  (.reg reedsolomon_Encode_r25)))))))
  (.seq (.reg reedsolomon_Encode_r26)
  .ret))))))))), [.tmp 4, .tmp 5]⟩
theorem reedsolomon_Encode_s : slimF Try.prog 17 = some reedsolomon_Encode_c := by kernel_rfl
abbrev reedsolomon_Encode_f : Nat := 17
/-- printworks/reedsolomon.Decode -/
def reedsolomon_Decode_r0 : List SO := [rZ 6 (.assign (.const (.slice none 0 0))), rZ 7 (.assign (ciZ 0)), rZ 8 (.assign (ciZ 0))]
def reedsolomon_Decode_r1 : List SO := [mvZ 21 0, mvZ 22 1, rZ 23 (.call ⟨(.value (.func (41 : Nat))), #[(tZ 21), (tZ 22)], #[22, 3]⟩), asZ 9 23]
def reedsolomon_Decode_r2 : List SO := [mvZ 24 9, bcZ 25 .neq 25 24 0 25]
def reedsolomon_Decode_r3 : List SO := [mvZ 26 9, rZ 6 (.assign (.const (.slice none 0 0))), rZ 7 (.assign (ciZ 0)), asZ 8 26]
def reedsolomon_Decode_r4 : List SO := [mvZ 27 0, rZ 28 (.call ⟨(.builtin .len), #[(tZ 27)], #[22]⟩), rZ 29 (.makeSlice 41 (tZ 28) (tZ 28)), asZ 10 29]
def reedsolomon_Decode_r5 : List SO := [rZ 30 (.buildSlice 85 1 #[(0, (.const (.int .u8 1)))]), asZ 11 30]
def reedsolomon_Decode_r6 : List SO := [mvZ 31 2, rZ 32 (.call ⟨(.builtin .len), #[(tZ 31)], #[38]⟩), rZ 33 (.move (ciZ 0))]
def reedsolomon_Decode_r7 : List SO := [boZ 34 .lss 3 33 32 3]
def reedsolomon_Decode_r8 : List SO := [iaZ 35 38 31 33, ldZ 36 3 35, asZ 13 36]
def reedsolomon_Decode_r9 : List SO := [mvZ 37 13, bcZ 38 .lss 3 37 0 3, mvZ 39 38, gZ 39 false (mvZ 40 13), gZ 39 false (mvZ 41 0), gZ 39 false (rZ 42 (.call ⟨(.builtin .len), #[(tZ 41)], #[22]⟩)), gZ 39 false (boZ 43 .geq 3 40 42 3), rZ 44 (.pick (tZ 39) (.const (.bool true)) (tZ 43))]
def reedsolomon_Decode_r10 : List SO := [rZ 6 (.assign (.const (.slice none 0 0))), rZ 7 (.assign (ciZ 0)), rZ 8 (.assign (ciZ 3))]
def reedsolomon_Decode_r11 : List SO := [mvZ 45 10, mvZ 46 13, iaZ 47 41 45 46, ldZ 48 4 47]
def reedsolomon_Decode_r12 : List SO := [rZ 6 (.assign (.const (.slice none 0 0))), rZ 7 (.assign (ciZ 0)), rZ 8 (.assign (ciZ 7))]
def reedsolomon_Decode_r13 : List SO := [mvZ 49 10, mvZ 50 13, iaZ 51 41 49 50, ⟨none, .store 4 (tZ 51) (.const (.bool true)), none⟩]
def reedsolomon_Decode_r14 : List SO := [mvZ 52 11, mvZ 53 0, rZ 54 (.call ⟨(.builtin .len), #[(tZ 53)], #[22]⟩), bcZ 55 .sub 3 54 1 3, mvZ 56 13, boZ 57 .sub 3 55 56 3, rZ 58 (.call ⟨(.value (.func (46 : Nat))), #[(.const (.int .u8 2)), (tZ 57)], #[5, 3]⟩), rZ 59 (.buildSlice 85 2 #[(0, (.const (.int .u8 1))), (1, (tZ 58))]), rZ 60 (.call ⟨(.value (.func (45 : Nat))), #[(tZ 52), (tZ 59), (ciZ 256)], #[85, 85, 3]⟩), asZ 11 60]
def reedsolomon_Decode_r15 : List SO := [bcZ 61 .add 3 33 1 3, mvZ 33 61]
def reedsolomon_Decode_r16 : List SO := [mvZ 62 2, rZ 63 (.call ⟨(.builtin .len), #[(tZ 62)], #[38]⟩), mvZ 64 1, boZ 65 .gtr 3 63 64 3]
def reedsolomon_Decode_r17 : List SO := [rZ 6 (.assign (.const (.slice none 0 0))), rZ 7 (.assign (ciZ 0)), rZ 8 (.assign (ciZ 21))]
def reedsolomon_Decode_r18 : List SO := [mvZ 66 0, rZ 67 (.call ⟨(.builtin .append), #[(.const (.slice none 0 0)), (tZ 66)], #[22, 22]⟩), asZ 14 67]
def reedsolomon_Decode_r19 : List SO := [mvZ 69 0, mvZ 70 1, rZ 71 (.call ⟨(.value (.func (42 : Nat))), #[(tZ 69), (tZ 70)], #[22, 3]⟩), mvZ 68 71, exZ 72 68 0, exZ 73 68 1, asZ 15 72, asZ 16 73]
def reedsolomon_Decode_r20 : List SO := [mvZ 74 16]
def reedsolomon_Decode_r21 : List SO := [mvZ 75 14, asZ 6 75, rZ 7 (.assign (ciZ 0)), rZ 8 (.assign (ciZ 0))]
def reedsolomon_Decode_r22 : List SO := [mvZ 76 14, mvZ 77 15, mvZ 78 15, mvZ 79 11, mvZ 80 2, rZ 81 (.call ⟨(.builtin .len), #[(tZ 80)], #[38]⟩), rZ 82 (.call ⟨(.value (.func (48 : Nat))), #[(tZ 78), (tZ 79), (tZ 81)], #[85, 85, 3]⟩), rZ 83 (.call ⟨(.value (.func (47 : Nat))), #[(tZ 76), (tZ 77), (tZ 82)], #[22, 85, 85]⟩)]
def reedsolomon_Decode_r23 : List SO := [rZ 17 (.assign (ciZ 0)), rZ 18 (.assign (ciZ 0))]
def reedsolomon_Decode_r24 : List SO := [mvZ 84 14, rZ 85 (.call ⟨(.builtin .len), #[(tZ 84)], #[22]⟩), rZ 86 (.move (ciZ 0))]
def reedsolomon_Decode_r25 : List SO := [boZ 87 .lss 3 86 85 3]
def reedsolomon_Decode_r26 : List SO := [mvZ 88 86, iaZ 89 22 84 86, ldZ 90 5 89, asZ 19 88, asZ 20 90]
def reedsolomon_Decode_r27 : List SO := [mvZ 91 20, mvZ 92 0, mvZ 93 19, iaZ 94 22 92 93, ldZ 95 5 94, boZ 96 .neq 5 91 95 5]
def reedsolomon_Decode_r28 : List SO := [mvZ 97 17, bcZ 98 .add 3 97 1 3, asZ 17 98]
def reedsolomon_Decode_r29 : List SO := [mvZ 99 10, mvZ 100 19, iaZ 101 41 99 100, ldZ 102 4 101, rZ 103 (.unOp .not 4 (tZ 102))]
def reedsolomon_Decode_r30 : List SO := [mvZ 104 18, bcZ 105 .add 3 104 1 3, asZ 18 105]
def reedsolomon_Decode_r31 : List SO := [bcZ 106 .add 3 86 1 3, mvZ 86 106]
def reedsolomon_Decode_r32 : List SO := [mvZ 108 14, mvZ 109 1, rZ 110 (.call ⟨(.value (.func (42 : Nat))), #[(tZ 108), (tZ 109)], #[22, 3]⟩), mvZ 107 110, exZ 111 107 0, exZ 112 107 1, asZ 16 112]
def reedsolomon_Decode_r33 : List SO := [mvZ 113 16, rZ 114 (.unOp .not 4 (tZ 113)), mvZ 115 114, gZ 115 false (mvZ 116 18), gZ 115 false (rZ 117 (.binOp .mul 3 (ciZ 2) (tZ 116) 3)), gZ 115 false (mvZ 118 1), gZ 115 false (mvZ 119 2), gZ 115 false (rZ 120 (.call ⟨(.builtin .len), #[(tZ 119)], #[38]⟩)), gZ 115 false (boZ 121 .sub 3 118 120 3), gZ 115 false (boZ 122 .gtr 3 117 121 3), rZ 123 (.pick (tZ 115) (.const (.bool true)) (tZ 122))]
def reedsolomon_Decode_r34 : List SO := [rZ 6 (.assign (.const (.slice none 0 0))), rZ 7 (.assign (ciZ 0)), rZ 8 (.assign (ciZ 21))]
def reedsolomon_Decode_r35 : List SO := [mvZ 124 14, mvZ 125 17, asZ 6 124, asZ 7 125, rZ 8 (.assign (ciZ 0))]
def reedsolomon_Decode_c : SF := ⟨126, (.seq (.reg reedsolomon_Decode_r0)
  (.seq (.seq (.reg reedsolomon_Decode_r1)
  (.seq (.reg reedsolomon_Decode_r2)
  (.cond (tZ 25) (.seq (.reg reedsolomon_Decode_r3)
  .ret) .skip)))
  (.seq (.reg reedsolomon_Decode_r4)
  (.seq (.reg reedsolomon_Decode_r5)
  (.seq (.seq (.reg reedsolomon_Decode_r6)
  (.block 0 (.loop (.seq (.reg reedsolomon_Decode_r7)
  (.seq (.cond (tZ 34) .skip (.exit 0))
  (.seq (.block 1 (.seq (.reg reedsolomon_Decode_r8)
  (.seq (.seq (.reg reedsolomon_Decode_r9)
  (.cond (tZ 44) (.seq (.reg reedsolomon_Decode_r10)
  .ret) .skip))
  (.seq (.seq (.reg reedsolomon_Decode_r11)
  (.cond (tZ 48) (.seq (.reg reedsolomon_Decode_r12)
  .ret) .skip))
  (.seq (.reg reedsolomon_Decode_r13)
  (.reg reedsolomon_Decode_r14))))))
  (.reg reedsolomon_Decode_r15)))))))
  (.seq (.seq (.reg reedsolomon_Decode_r16)
  (.cond (tZ 65) (.seq (.reg reedsolomon_Decode_r17)
  .ret) .skip))
  (.seq (.reg reedsolomon_Decode_r18)
  (.seq (.reg reedsolomon_Decode_r19)
  (.seq (.seq (.reg reedsolomon_Decode_r20)
  (.cond (tZ 74) (.seq (.reg reedsolomon_Decode_r21)
  .ret) .skip))
  (.seq (.reg reedsolomon_Decode_r22)
  (.seq (.reg reedsolomon_Decode_r23)
  (.seq (.seq (.reg reedsolomon_Decode_r24)
  (.block 2 (.loop (.seq (.reg reedsolomon_Decode_r25)
  (.seq (.cond (tZ 87) .skip (.exit 2))
  (.seq (.block 3 (.seq (.reg reedsolomon_Decode_r26)
  (.seq (.reg reedsolomon_Decode_r27)
  (.cond (tZ 96) (.seq (.reg reedsolomon_Decode_r28)
  (.seq (.reg reedsolomon_Decode_r29)
  (.cond (tZ 103) (.reg reedsolomon_Decode_r30) .skip))) .skip))))
  (.reg reedsolomon_Decode_r31)))))))
  (.seq (.seq (.reg reedsolomon_Decode_r32)
  (.seq (.reg reedsolomon_Decode_r33)
  (.cond (tZ 123) (.seq (.reg reedsolomon_Decode_r34)
  .ret) .skip)))
  (.seq (.reg reedsolomon_Decode_r35)
  .ret)))))))))))))), [.tmp 6, .tmp 7, .tmp 8]⟩
theorem reedsolomon_Decode_s : slimF Try.prog 18 = some reedsolomon_Decode_c := by kernel_rfl
abbrev reedsolomon_Decode_f : Nat := 18
/-- printworks/reedsolomon.check -/
def reedsolomon_check_r0 : List SO := [rZ 4 (.assign (ciZ 0))]
def reedsolomon_check_r1 : List SO := [mvZ 6 1, bcZ 7 .lss 3 6 1 3, mvZ 8 7, gZ 8 false (mvZ 9 1), gZ 8 false (bcZ 10 .gtr 3 9 64 3), rZ 11 (.pick (tZ 8) (.const (.bool true)) (tZ 10)), asZ 5 11]
def reedsolomon_check_r2 : List SO := [rZ 4 (.assign (ciZ 3))]
def reedsolomon_check_r3 : List SO := [mvZ 13 0, rZ 14 (.call ⟨(.builtin .len), #[(tZ 13)], #[22]⟩), bcZ 15 .gtr 3 14 255 3, asZ 12 15]
def reedsolomon_check_r4 : List SO := [rZ 4 (.assign (ciZ 2))]
def reedsolomon_check_r5 : List SO := [mvZ 17 0, rZ 18 (.call ⟨(.builtin .len), #[(tZ 17)], #[22]⟩), mvZ 19 1, boZ 20 .leq 3 18 19 3, asZ 16 20]
def reedsolomon_check_r6 : List SO := [rZ 4 (.assign (ciZ 12))]
def reedsolomon_check_r7 : List SO := [rZ 4 (.assign (ciZ 0))]
def reedsolomon_check_c : SF := ⟨21, (.seq (.reg reedsolomon_check_r0)
  (.seq (.block 0 (.seq (.reg reedsolomon_check_r1)
  (.cond (tZ 5) (.seq (.reg reedsolomon_check_r2)
  .ret) (.seq (.reg reedsolomon_check_r3)
  (.cond (tZ 12) (.seq (.reg reedsolomon_check_r4)
  .ret) (.seq (.reg reedsolomon_check_r5)
  (.cond (tZ 16) (.seq (.reg reedsolomon_check_r6)
  .ret) .skip)))))))
  (.seq (.reg reedsolomon_check_r7)
  .ret))), [.tmp 4]⟩
theorem reedsolomon_check_s : slimF Try.prog 41 = some reedsolomon_check_c := by kernel_rfl
abbrev reedsolomon_check_f : Nat := 41
/-- printworks/reedsolomon.syndromes -/
def reedsolomon_syndromes_r0 : List SO := [rZ 4 (.assign (.const (.slice none 0 0))), rZ 5 (.assign (.const (.bool false)))]
def reedsolomon_syndromes_r1 : List SO := [mvZ 13 1, rZ 14 (.makeSlice 85 (tZ 13) (tZ 13)), asZ 6 14, rZ 7 (.assign (.const (.bool true)))]
def reedsolomon_syndromes_r2 : List SO := [mvZ 15 6, rZ 16 (.call ⟨(.builtin .len), #[(tZ 15)], #[85]⟩), rZ 17 (.move (ciZ 0))]
def reedsolomon_syndromes_r3 : List SO := [boZ 18 .lss 3 17 16 3]
def reedsolomon_syndromes_r4 : List SO := [mvZ 19 17, asZ 8 19]
def reedsolomon_syndromes_r5 : List SO := [mvZ 20 8, rZ 21 (.call ⟨(.value (.func (46 : Nat))), #[(.const (.int .u8 2)), (tZ 20)], #[5, 3]⟩), asZ 9 21]
def reedsolomon_syndromes_r6 : List SO := [rZ 10 (.assign (.const (.int .u8 0)))]
def reedsolomon_syndromes_r7 : List SO := [mvZ 22 0, rZ 23 (.call ⟨(.builtin .len), #[(tZ 22)], #[22]⟩), rZ 24 (.move (ciZ 0))]
def reedsolomon_syndromes_r8 : List SO := [boZ 25 .lss 3 24 23 3]
def reedsolomon_syndromes_r9 : List SO := [iaZ 26 22 22 24, ldZ 27 5 26, asZ 12 27]
def reedsolomon_syndromes_r10 : List SO := [mvZ 28 10, mvZ 29 9, rZ 30 (.call ⟨(.value (.func (44 : Nat))), #[(tZ 28), (tZ 29)], #[5, 5]⟩), mvZ 31 12, boZ 32 .xor 5 30 31 5, asZ 10 32]
def reedsolomon_syndromes_r11 : List SO := [bcZ 33 .add 3 24 1 3, mvZ 24 33]
def reedsolomon_syndromes_r12 : List SO := [mvZ 34 6, mvZ 35 8, mvZ 36 10, iaZ 37 85 34 35, stZ 5 37 36]
def reedsolomon_syndromes_r13 : List SO := [mvZ 38 7, mvZ 39 38, gZ 39 true (mvZ 40 10), gZ 39 true (rZ 41 (.binOp .eql 5 (tZ 40) (.const (.int .u8 0)) 5)), rZ 42 (.pick (tZ 39) (tZ 41) (.const (.bool false))), asZ 7 42]
def reedsolomon_syndromes_r14 : List SO := [bcZ 43 .add 3 17 1 3, mvZ 17 43]
def reedsolomon_syndromes_r15 : List SO := [mvZ 44 6, mvZ 45 7, asZ 4 44, asZ 5 45]
def reedsolomon_syndromes_c : SF := ⟨46, (.seq (.reg reedsolomon_syndromes_r0)
  (.seq (.reg reedsolomon_syndromes_r1)
  (.seq (.seq (.reg reedsolomon_syndromes_r2)
  (.block 0 (.loop (.seq (.reg reedsolomon_syndromes_r3)
  (.seq (.cond (tZ 18) .skip (.exit 0))
  (.seq (.block 1 (.seq (.reg reedsolomon_syndromes_r4)
  (.seq (.reg reedsolomon_syndromes_r5)
  (.seq (.reg reedsolomon_syndromes_r6)
  (.seq (.seq (.reg reedsolomon_syndromes_r7)
  (.block 2 (.loop (.seq (.reg reedsolomon_syndromes_r8)
  (.seq (.cond (tZ 25) .skip (.exit 2))
  (.seq (.block 3 (.seq (.reg reedsolomon_syndromes_r9)
  (.reg reedsolomon_syndromes_r10)))
  (.reg reedsolomon_syndromes_r11)))))))
  (.seq (.reg reedsolomon_syndromes_r12)
  (.reg reedsolomon_syndromes_r13)))))))
  (.reg reedsolomon_syndromes_r14)))))))
  (.seq (.reg reedsolomon_syndromes_r15)
  .ret)))), [.tmp 4, .tmp 5]⟩
theorem reedsolomon_syndromes_s : slimF Try.prog 42 = some reedsolomon_syndromes_c := by kernel_rfl
abbrev reedsolomon_syndromes_f : Nat := 42
/-- printworks/reedsolomon.Inverse -/
def reedsolomon_Inverse_r0 : List SO := [rZ 2 (.assign (.const (.int .u8 0))), rZ 3 (.assign (ciZ 0))]
def reedsolomon_Inverse_r1 : List SO := [mvZ 4 0, rZ 5 (.binOp .eql 5 (tZ 4) (.const (.int .u8 0)) 5)]
def reedsolomon_Inverse_r2 : List SO := [rZ 2 (.assign (.const (.int .u8 0))), rZ 3 (.assign (ciZ 1))]
def reedsolomon_Inverse_r3 : List SO := [mvZ 6 0, rZ 7 (.call ⟨(.value (.func (46 : Nat))), #[(tZ 6), (ciZ 254)], #[5, 3]⟩), asZ 2 7, rZ 3 (.assign (ciZ 0))]
def reedsolomon_Inverse_c : SF := ⟨8, (.seq (.reg reedsolomon_Inverse_r0)
  (.seq (.seq (.reg reedsolomon_Inverse_r1)
  (.cond (tZ 5) (.seq (.reg reedsolomon_Inverse_r2)
  .ret) .skip))
  (.seq (.reg reedsolomon_Inverse_r3)
  .ret))), [.tmp 2, .tmp 3]⟩
theorem reedsolomon_Inverse_s : slimF Try.prog 43 = some reedsolomon_Inverse_c := by kernel_rfl
/-- printworks/reedsolomon.Mul -/
def reedsolomon_Mul_r0 : List SO := [rZ 4 (.assign (.const (.int .u8 0)))]
def reedsolomon_Mul_r1 : List SO := [rZ 5 (.assign (.const (.int .u8 0)))]
def reedsolomon_Mul_r2 : List SO := [mvZ 6 1, rZ 7 (.binOp .gtr 5 (tZ 6) (.const (.int .u8 0)) 5)]
def reedsolomon_Mul_r3 : List SO := [mvZ 8 5, mvZ 9 0, mvZ 10 1, rZ 11 (.binOp .and 5 (tZ 10) (.const (.int .u8 1)) 5), rZ 12 (.unOp .neg 5 (tZ 11)), boZ 13 .and 5 9 12 5, boZ 14 .xor 5 8 13 5, asZ 5 14]
def reedsolomon_Mul_r4 : List SO := [mvZ 15 0, rZ 16 (.binOp .shl 5 (tZ 15) (.const (.int .u64 1)) 123), mvZ 17 0, rZ 18 (.binOp .shr 5 (tZ 17) (.const (.int .u64 7)) 123), rZ 19 (.unOp .neg 5 (tZ 18)), rZ 20 (.binOp .and 5 (.const (.int .u8 29)) (tZ 19) 5), boZ 21 .xor 5 16 20 5, asZ 0 21]
def reedsolomon_Mul_r5 : List SO := [mvZ 22 1, rZ 23 (.binOp .shr 5 (tZ 22) (.const (.int .u64 1)) 123), asZ 1 23]
def reedsolomon_Mul_r6 : List SO := [mvZ 24 5, asZ 4 24]
def reedsolomon_Mul_c : SF := ⟨25, (.seq (.reg reedsolomon_Mul_r0)
  (.seq (.reg reedsolomon_Mul_r1)
  (.seq (.block 0 (.loop (.seq (.seq (.reg reedsolomon_Mul_r2)
  (.cond (tZ 7) .skip (.exit 0)))
  (.block 1 (.seq (.reg reedsolomon_Mul_r3)
  (.seq (.reg reedsolomon_Mul_r4)
  (.reg reedsolomon_Mul_r5)))))))
  (.seq (.reg reedsolomon_Mul_r6)
  .ret)))), [.tmp 4]⟩
theorem reedsolomon_Mul_s : slimF Try.prog 44 = some reedsolomon_Mul_c := by kernel_rfl
abbrev reedsolomon_Mul_f : Nat := 44
/-- printworks/reedsolomon.power -/
def reedsolomon_power_r0 : List SO := [rZ 4 (.assign (.const (.int .u8 0)))]
def reedsolomon_power_r1 : List SO := [rZ 5 (.assign (.const (.int .u8 1)))]
def reedsolomon_power_r2 : List SO := [mvZ 6 1, bcZ 7 .gtr 3 6 0 3]
def reedsolomon_power_r3 : List SO := [mvZ 10 1, bcZ 11 .and 3 10 1 3, bcZ 12 .eql 3 11 1 3]
def reedsolomon_power_r4 : List SO := [mvZ 13 5, mvZ 14 0, rZ 15 (.call ⟨(.value (.func (44 : Nat))), #[(tZ 13), (tZ 14)], #[5, 5]⟩), asZ 5 15]
def reedsolomon_power_r5 : List SO := [mvZ 16 0, mvZ 17 0, rZ 18 (.call ⟨(.value (.func (44 : Nat))), #[(tZ 16), (tZ 17)], #[5, 5]⟩), asZ 0 18]
def reedsolomon_power_r6 : List SO := [mvZ 8 1, rZ 9 (.binOp .shr 3 (tZ 8) (.const (.int .u64 1)) 123), asZ 1 9]
def reedsolomon_power_r7 : List SO := [mvZ 19 5, asZ 4 19]
def reedsolomon_power_c : SF := ⟨20, (.seq (.reg reedsolomon_power_r0)
  (.seq (.reg reedsolomon_power_r1)
  (.seq (.block 0 (.loop (.seq (.seq (.reg reedsolomon_power_r2)
  (.cond (tZ 7) .skip (.exit 0)))
  (.seq (.block 1 (.seq (.seq (.reg reedsolomon_power_r3)
  (.cond (tZ 12) (.reg reedsolomon_power_r4) .skip))
  (.reg reedsolomon_power_r5)))
  (.reg reedsolomon_power_r6)))))
  (.seq (.reg reedsolomon_power_r7)
  .ret)))), [.tmp 4]⟩
theorem reedsolomon_power_s : slimF Try.prog 46 = some reedsolomon_power_c := by kernel_rfl
abbrev reedsolomon_power_f : Nat := 46
/-- (printworks/reedsolomon.poly).times -/
def _reedsolomon_poly__times_r0 : List SO := [rZ 6 (.assign (.const (.slice none 0 0)))]
def _reedsolomon_poly__times_r1 : List SO := [mvZ 12 2, mvZ 13 0, rZ 14 (.call ⟨(.builtin .len), #[(tZ 13)], #[85]⟩), mvZ 15 1, rZ 16 (.call ⟨(.builtin .len), #[(tZ 15)], #[85]⟩), boZ 17 .add 3 14 16 3, bcZ 18 .sub 3 17 1 3, rZ 19 (.call ⟨(.builtin .min), #[(tZ 12), (tZ 18)], #[3, 3]⟩), rZ 20 (.makeSlice 85 (tZ 19) (tZ 19)), asZ 7 20]
def _reedsolomon_poly__times_r2 : List SO := [mvZ 21 0, rZ 22 (.call ⟨(.builtin .len), #[(tZ 21)], #[85]⟩), rZ 23 (.move (ciZ 0))]
def _reedsolomon_poly__times_r3 : List SO := [boZ 24 .lss 3 23 22 3]
def _reedsolomon_poly__times_r4 : List SO := [mvZ 25 23, iaZ 26 85 21 23, ldZ 27 5 26, asZ 8 25, asZ 9 27]
def _reedsolomon_poly__times_r5 : List SO := [mvZ 28 1, rZ 29 (.call ⟨(.builtin .len), #[(tZ 28)], #[85]⟩), rZ 30 (.move (ciZ 0))]
def _reedsolomon_poly__times_r6 : List SO := [boZ 31 .lss 3 30 29 3]
def _reedsolomon_poly__times_r7 : List SO := [mvZ 32 30, iaZ 33 85 28 30, ldZ 34 5 33, asZ 10 32, asZ 11 34]
def _reedsolomon_poly__times_r8 : List SO := [mvZ 35 8, mvZ 36 10, boZ 37 .add 3 35 36 3, mvZ 38 7, rZ 39 (.call ⟨(.builtin .len), #[(tZ 38)], #[85]⟩), boZ 40 .lss 3 37 39 3]
def _reedsolomon_poly__times_r9 : List SO := [mvZ 41 7, mvZ 42 8, mvZ 43 10, boZ 44 .add 3 42 43 3, iaZ 45 85 41 44, ldZ 46 5 45, mvZ 47 9, mvZ 48 11, rZ 49 (.call ⟨(.value (.func (44 : Nat))), #[(tZ 47), (tZ 48)], #[5, 5]⟩), boZ 50 .xor 5 46 49 5, iaZ 51 85 41 44, stZ 5 51 50]
def _reedsolomon_poly__times_a9 : List (List Nat) := [[], [], [], [1, 2], [0, 3], [4], [], [], [6, 7], [5, 8], [0, 3, 0, 1, 2, 3, 4, 5, 6, 7, 8, 9], [10, 9, 8, 0, 1, 2, 3, 4, 5, 6, 7, 8, 9]]
def _reedsolomon_poly__times_r10 : List SO := [bcZ 52 .add 3 30 1 3, mvZ 30 52]
def _reedsolomon_poly__times_r11 : List SO := [bcZ 53 .add 3 23 1 3, mvZ 23 53]
def _reedsolomon_poly__times_r12 : List SO := [mvZ 54 7, asZ 6 54]
def _reedsolomon_poly__times_c : SF := ⟨55, (.seq (.reg _reedsolomon_poly__times_r0)
  (.seq (.reg _reedsolomon_poly__times_r1)
  (.seq (.seq (.reg _reedsolomon_poly__times_r2)
  (.block 0 (.loop (.seq (.reg _reedsolomon_poly__times_r3)
  (.seq (.cond (tZ 24) .skip (.exit 0))
  (.seq (.block 1 (.seq (.reg _reedsolomon_poly__times_r4)
  (.seq (.reg _reedsolomon_poly__times_r5)
  (.block 2 (.loop (.seq (.reg _reedsolomon_poly__times_r6)
  (.seq (.cond (tZ 31) .skip (.exit 2))
  (.seq (.block 3 (.seq (.reg _reedsolomon_poly__times_r7)
  (.seq (.reg _reedsolomon_poly__times_r8)
  (.cond (tZ 40) (.regd _reedsolomon_poly__times_r9 _reedsolomon_poly__times_a9) .skip))))
  (.reg _reedsolomon_poly__times_r10)))))))))
  (.reg _reedsolomon_poly__times_r11)))))))
  (.seq (.reg _reedsolomon_poly__times_r12)
  .ret)))), [.tmp 6]⟩
theorem _reedsolomon_poly__times_s : slimF Try.prog 45 = some _reedsolomon_poly__times_c := by kernel_rfl
abbrev _reedsolomon_poly__times_f : Nat := 45
/-- printworks/reedsolomon.locate -/
def reedsolomon_locate_r0 : List SO := [rZ 6 (.assign (.const (.slice none 0 0)))]
def reedsolomon_locate_r1 : List SO := [mvZ 19 1, rZ 20 (.call ⟨(.builtin .append), #[(.const (.slice none 0 0)), (tZ 19)], #[85, 85]⟩), mvZ 21 1, rZ 22 (.call ⟨(.builtin .append), #[(.const (.slice none 0 0)), (tZ 21)], #[85, 85]⟩), asZ 7 20, asZ 8 22]
def reedsolomon_locate_r2 : List SO := [mvZ 23 2, asZ 9 23, rZ 10 (.assign (ciZ 1)), rZ 11 (.assign (.const (.int .u8 1)))]
def reedsolomon_locate_r3 : List SO := [mvZ 24 2, asZ 12 24]
def reedsolomon_locate_r4 : List SO := [mvZ 25 12, mvZ 26 0, rZ 27 (.call ⟨(.builtin .len), #[(tZ 26)], #[85]⟩), boZ 28 .lss 3 25 27 3]
def reedsolomon_locate_r5 : List SO := [mvZ 31 0, mvZ 32 12, iaZ 33 85 31 32, ldZ 34 5 33, asZ 13 34]
def reedsolomon_locate_r6 : List SO := [rZ 14 (.assign (ciZ 1))]
def reedsolomon_locate_r7 : List SO := [mvZ 35 14, mvZ 36 7, rZ 37 (.call ⟨(.builtin .len), #[(tZ 36)], #[85]⟩), boZ 38 .lss 3 35 37 3, mvZ 39 38, gZ 39 true (mvZ 40 14), gZ 39 true (mvZ 41 12), gZ 39 true (boZ 42 .leq 3 40 41 3), rZ 43 (.pick (tZ 39) (tZ 42) (.const (.bool false)))]
def reedsolomon_locate_r8 : List SO := [mvZ 46 13, mvZ 47 7, mvZ 48 14, iaZ 49 85 47 48, ldZ 50 5 49, mvZ 51 0, mvZ 52 12, mvZ 53 14, boZ 54 .sub 3 52 53 3, iaZ 55 85 51 54, ldZ 56 5 55, rZ 57 (.call ⟨(.value (.func (44 : Nat))), #[(tZ 50), (tZ 56)], #[5, 5]⟩), boZ 58 .xor 5 46 57 5, asZ 13 58]
def reedsolomon_locate_a8 : List (List Nat) := [[], [], [], [1, 2], [3], [], [], [], [6, 7], [5, 8], [9], [4, 10], [0, 11], [12, 11, 0, 1, 2, 3, 4, 5, 6, 7, 8, 9, 10, 11, 12]]
def reedsolomon_locate_r9 : List SO := [mvZ 44 14, bcZ 45 .add 3 44 1 3, asZ 14 45]
def reedsolomon_locate_r10 : List SO := [mvZ 59 13, rZ 60 (.binOp .eql 5 (tZ 59) (.const (.int .u8 0)) 5)]
def reedsolomon_locate_r11 : List SO := [mvZ 61 10, bcZ 62 .add 3 61 1 3, asZ 10 62]
def reedsolomon_locate_r12 : List SO := [mvZ 63 7, rZ 64 (.call ⟨(.builtin .append), #[(.const (.slice none 0 0)), (tZ 63)], #[85, 85]⟩), asZ 15 64]
def reedsolomon_locate_r13 : List SO := [mvZ 65 13, mvZ 66 11, rZ 67 (.call ⟨(.value (.func (46 : Nat))), #[(tZ 66), (ciZ 254)], #[5, 3]⟩), rZ 68 (.call ⟨(.value (.func (44 : Nat))), #[(tZ 65), (tZ 67)], #[5, 5]⟩), asZ 16 68]
def reedsolomon_locate_r14 : List SO := [mvZ 69 7, rZ 70 (.call ⟨(.builtin .len), #[(tZ 69)], #[85]⟩), mvZ 71 8, rZ 72 (.call ⟨(.builtin .len), #[(tZ 71)], #[85]⟩), mvZ 73 10, boZ 74 .add 3 72 73 3, boZ 75 .lss 3 70 74 3]
def reedsolomon_locate_r15 : List SO := [mvZ 76 7, rZ 77 (.buildSlice 85 1 #[(0, (.const (.int .u8 0)))]), rZ 78 (.call ⟨(.builtin .append), #[(tZ 76), (tZ 77)], #[85, 85]⟩), asZ 7 78]
def reedsolomon_locate_r16 : List SO := [mvZ 79 8, rZ 80 (.call ⟨(.builtin .len), #[(tZ 79)], #[85]⟩), rZ 81 (.move (ciZ 0))]
def reedsolomon_locate_r17 : List SO := [boZ 82 .lss 3 81 80 3]
def reedsolomon_locate_r18 : List SO := [mvZ 83 81, iaZ 84 85 79 81, ldZ 85 5 84, asZ 17 83, asZ 18 85]
def reedsolomon_locate_r19 : List SO := [mvZ 86 7, mvZ 87 17, mvZ 88 10, boZ 89 .add 3 87 88 3, iaZ 90 85 86 89, ldZ 91 5 90, mvZ 92 16, mvZ 93 18, rZ 94 (.call ⟨(.value (.func (44 : Nat))), #[(tZ 92), (tZ 93)], #[5, 5]⟩), boZ 95 .xor 5 91 94 5, iaZ 96 85 86 89, stZ 5 96 95]
def reedsolomon_locate_a19 : List (List Nat) := [[], [], [], [1, 2], [0, 3], [4], [], [], [6, 7], [5, 8], [0, 3, 0, 1, 2, 3, 4, 5, 6, 7, 8, 9], [10, 9, 8, 0, 1, 2, 3, 4, 5, 6, 7, 8, 9]]
def reedsolomon_locate_r20 : List SO := [bcZ 97 .add 3 81 1 3, mvZ 81 97]
def reedsolomon_locate_r21 : List SO := [mvZ 98 9, rZ 99 (.binOp .mul 3 (ciZ 2) (tZ 98) 3), mvZ 100 12, mvZ 101 2, boZ 102 .add 3 100 101 3, boZ 103 .leq 3 99 102 3]
def reedsolomon_locate_r22 : List SO := [mvZ 104 12, bcZ 105 .add 3 104 1 3, mvZ 106 2, boZ 107 .add 3 105 106 3, mvZ 108 9, boZ 109 .sub 3 107 108 3, mvZ 110 15, mvZ 111 13, asZ 9 109, asZ 8 110, asZ 11 111, rZ 10 (.assign (ciZ 1))]
def reedsolomon_locate_r23 : List SO := [mvZ 112 10, bcZ 113 .add 3 112 1 3, asZ 10 113]
def reedsolomon_locate_r24 : List SO := [mvZ 29 12, bcZ 30 .add 3 29 1 3, asZ 12 30]
def reedsolomon_locate_r25 : List SO := [mvZ 114 7, asZ 6 114]
def reedsolomon_locate_c : SF := ⟨115, (.seq (.reg reedsolomon_locate_r0)
  (.seq (.reg reedsolomon_locate_r1)
  (.seq (.reg reedsolomon_locate_r2)
  (.seq (.seq (.reg reedsolomon_locate_r3)
  (.block 0 (.loop (.seq (.seq (.reg reedsolomon_locate_r4)
  (.cond (tZ 28) .skip (.exit 0)))
  (.seq (.block 1 (.seq (.reg reedsolomon_locate_r5)
  (.seq (.seq (.reg reedsolomon_locate_r6)
  (.block 2 (.loop (.seq (.seq (.reg reedsolomon_locate_r7)
  (.cond (tZ 43) .skip (.exit 2)))
  (.seq (.block 3 (.regd reedsolomon_locate_r8 reedsolomon_locate_a8))
  (.reg reedsolomon_locate_r9))))))
  (.seq (.seq (.reg reedsolomon_locate_r10)
  (.cond (tZ 60) (.seq (.reg reedsolomon_locate_r11)
  (.exit 1)) .skip))
  (.seq (.reg reedsolomon_locate_r12)
  (.seq (.reg reedsolomon_locate_r13)
  (.seq (.block 4 (.loop (.seq (.seq (.reg reedsolomon_locate_r14)
  (.cond (tZ 75) .skip (.exit 4)))
  (.block 5 (.reg reedsolomon_locate_r15)))))
  (.seq (.seq (.reg reedsolomon_locate_r16)
  (.block 6 (.loop (.seq (.reg reedsolomon_locate_r17)
  (.seq (.cond (tZ 82) .skip (.exit 6))
  (.seq (.block 7 (.seq (.reg reedsolomon_locate_r18)
  (.regd reedsolomon_locate_r19 reedsolomon_locate_a19)))
  (.reg reedsolomon_locate_r20)))))))
  (.seq (.reg reedsolomon_locate_r21)
  (.cond (tZ 103) (.reg reedsolomon_locate_r22) (.reg reedsolomon_locate_r23)))))))))))
  (.reg reedsolomon_locate_r24))))))
  (.seq (.reg reedsolomon_locate_r25)
  .ret))))), [.tmp 6]⟩
theorem reedsolomon_locate_s : slimF Try.prog 48 = some reedsolomon_locate_c := by kernel_rfl
abbrev reedsolomon_locate_f : Nat := 48
/-- printworks/reedsolomon.repair -/
def reedsolomon_repair_r0 : List SO := [mvZ 12 1, mvZ 13 2, mvZ 14 1, rZ 15 (.call ⟨(.builtin .len), #[(tZ 14)], #[85]⟩), rZ 16 (.call ⟨(.value (.func (45 : Nat))), #[(tZ 12), (tZ 13), (tZ 15)], #[85, 85, 3]⟩), asZ 6 16]
def reedsolomon_repair_r1 : List SO := [mvZ 17 0, rZ 18 (.call ⟨(.builtin .len), #[(tZ 17)], #[22]⟩), rZ 19 (.move (ciZ 0))]
def reedsolomon_repair_r2 : List SO := [boZ 20 .lss 3 19 18 3]
def reedsolomon_repair_r3 : List SO := [mvZ 21 19, asZ 7 21]
def reedsolomon_repair_r4 : List SO := [mvZ 22 0, rZ 23 (.call ⟨(.builtin .len), #[(tZ 22)], #[22]⟩), bcZ 24 .sub 3 23 1 3, mvZ 25 7, boZ 26 .sub 3 24 25 3, rZ 27 (.call ⟨(.value (.func (46 : Nat))), #[(.const (.int .u8 2)), (tZ 26)], #[5, 3]⟩), asZ 8 27]
def reedsolomon_repair_r5 : List SO := [mvZ 28 8, rZ 29 (.call ⟨(.value (.func (46 : Nat))), #[(tZ 28), (ciZ 254)], #[5, 3]⟩), asZ 9 29]
def reedsolomon_repair_r6 : List SO := [mvZ 30 2, mvZ 31 9, rZ 32 (.call ⟨(.value (.func (68 : Nat))), #[(tZ 30), (tZ 31)], #[85, 5]⟩), rZ 33 (.binOp .neq 5 (tZ 32) (.const (.int .u8 0)) 5)]
def reedsolomon_repair_r7 : List SO := [rZ 10 (.assign (.const (.int .u8 0)))]
def reedsolomon_repair_r8 : List SO := [rZ 11 (.assign (ciZ 1))]
def reedsolomon_repair_r9 : List SO := [mvZ 34 11, mvZ 35 2, rZ 36 (.call ⟨(.builtin .len), #[(tZ 35)], #[85]⟩), boZ 37 .lss 3 34 36 3]
def reedsolomon_repair_r10 : List SO := [mvZ 40 10, mvZ 41 2, mvZ 42 11, iaZ 43 85 41 42, ldZ 44 5 43, mvZ 45 9, mvZ 46 11, bcZ 47 .sub 3 46 1 3, rZ 48 (.call ⟨(.value (.func (46 : Nat))), #[(tZ 45), (tZ 47)], #[5, 3]⟩), rZ 49 (.call ⟨(.value (.func (44 : Nat))), #[(tZ 44), (tZ 48)], #[5, 5]⟩), boZ 50 .xor 5 40 49 5, asZ 10 50]
def reedsolomon_repair_a10 : List (List Nat) := [[], [], [], [1, 2], [3], [], [], [6], [5, 7], [4, 8, 8], [0, 9], [10, 9, 0, 1, 2, 3, 4, 5, 6, 7, 8, 9, 10]]
def reedsolomon_repair_r11 : List SO := [mvZ 38 11, bcZ 39 .add 3 38 2 3, asZ 11 39]
def reedsolomon_repair_r12 : List SO := [mvZ 51 10, rZ 52 (.binOp .neq 5 (tZ 51) (.const (.int .u8 0)) 5)]
def reedsolomon_repair_r13 : List SO := [mvZ 53 0, mvZ 54 7, iaZ 55 22 53 54, ldZ 56 5 55, mvZ 57 8, mvZ 58 6, mvZ 59 9, rZ 60 (.call ⟨(.value (.func (68 : Nat))), #[(tZ 58), (tZ 59)], #[85, 5]⟩), rZ 61 (.call ⟨(.value (.func (44 : Nat))), #[(tZ 57), (tZ 60)], #[5, 5]⟩), mvZ 62 10, rZ 63 (.call ⟨(.value (.func (46 : Nat))), #[(tZ 62), (ciZ 254)], #[5, 3]⟩), rZ 64 (.call ⟨(.value (.func (44 : Nat))), #[(tZ 61), (tZ 63)], #[5, 5]⟩), boZ 65 .xor 5 56 64 5, iaZ 66 22 53 54, stZ 5 66 65]
def reedsolomon_repair_a13 : List (List Nat) := [[], [], [0, 1], [2], [], [], [], [5, 6], [4, 7, 7], [], [9, 8], [8, 10, 10], [3, 11], [0, 1, 0, 1, 2, 3, 4, 5, 6, 7, 8, 9, 10, 11, 12], [13, 12, 11, 0, 1, 2, 3, 4, 5, 6, 7, 8, 9, 10, 11, 12]]
def reedsolomon_repair_r14 : List SO := [bcZ 67 .add 3 19 1 3, mvZ 19 67]
def reedsolomon_repair_c : SF := ⟨68, (.seq (.reg reedsolomon_repair_r0)
  (.seq (.reg reedsolomon_repair_r1)
  (.block 0 (.loop (.seq (.reg reedsolomon_repair_r2)
  (.seq (.cond (tZ 20) .skip (.exit 0))
  (.seq (.block 1 (.seq (.reg reedsolomon_repair_r3)
  (.seq (.reg reedsolomon_repair_r4)
  (.seq (.reg reedsolomon_repair_r5)
  (.seq (.seq (.reg reedsolomon_repair_r6)
  (.cond (tZ 33) (.exit 1) .skip))
  (.seq (.reg reedsolomon_repair_r7)
  (.seq (.seq (.reg reedsolomon_repair_r8)
  (.block 2 (.loop (.seq (.seq (.reg reedsolomon_repair_r9)
  (.cond (tZ 37) .skip (.exit 2)))
  (.seq (.block 3 (.regd reedsolomon_repair_r10 reedsolomon_repair_a10))
  (.reg reedsolomon_repair_r11))))))
  (.seq (.reg reedsolomon_repair_r12)
  (.cond (tZ 52) (.regd reedsolomon_repair_r13 reedsolomon_repair_a13) .skip)))))))))
  (.reg reedsolomon_repair_r14)))))))), []⟩
theorem reedsolomon_repair_s : slimF Try.prog 47 = some reedsolomon_repair_c := by kernel_rfl
abbrev reedsolomon_repair_f : Nat := 47
/-- (printworks/reedsolomon.poly).at -/
def _reedsolomon_poly__at_r0 : List SO := [rZ 4 (.assign (.const (.int .u8 0)))]
def _reedsolomon_poly__at_r1 : List SO := [rZ 5 (.assign (.const (.int .u8 0)))]
def _reedsolomon_poly__at_r2 : List SO := [mvZ 7 0, rZ 8 (.call ⟨(.builtin .len), #[(tZ 7)], #[85]⟩), bcZ 9 .sub 3 8 1 3, asZ 6 9]
def _reedsolomon_poly__at_r3 : List SO := [mvZ 10 6, bcZ 11 .geq 3 10 0 3]
def _reedsolomon_poly__at_r4 : List SO := [mvZ 14 5, mvZ 15 1, rZ 16 (.call ⟨(.value (.func (44 : Nat))), #[(tZ 14), (tZ 15)], #[5, 5]⟩), mvZ 17 0, mvZ 18 6, iaZ 19 85 17 18, ldZ 20 5 19, boZ 21 .xor 5 16 20 5, asZ 5 21]
def _reedsolomon_poly__at_a4 : List (List Nat) := [[], [], [0, 1], [], [], [3, 4], [5], [2, 6], [7, 2, 0, 1, 2, 3, 4, 5, 6, 7]]
def _reedsolomon_poly__at_r5 : List SO := [mvZ 12 6, bcZ 13 .sub 3 12 1 3, asZ 6 13]
def _reedsolomon_poly__at_r6 : List SO := [mvZ 22 5, asZ 4 22]
def _reedsolomon_poly__at_c : SF := ⟨23, (.seq (.reg _reedsolomon_poly__at_r0)
  (.seq (.reg _reedsolomon_poly__at_r1)
  (.seq (.seq (.reg _reedsolomon_poly__at_r2)
  (.block 0 (.loop (.seq (.seq (.reg _reedsolomon_poly__at_r3)
  (.cond (tZ 11) .skip (.exit 0)))
  (.seq (.block 1 (.regd _reedsolomon_poly__at_r4 _reedsolomon_poly__at_a4))
  (.reg _reedsolomon_poly__at_r5))))))
  (.seq (.reg _reedsolomon_poly__at_r6)
  .ret)))), [.tmp 4]⟩
theorem _reedsolomon_poly__at_s : slimF Try.prog 68 = some _reedsolomon_poly__at_c := by kernel_rfl
abbrev _reedsolomon_poly__at_f : Nat := 68

def tbl_reedsolomon : List (Nat × SF) := [(14, reedsolomon_Valid_c), (17, reedsolomon_Encode_c), (18, reedsolomon_Decode_c), (41, reedsolomon_check_c), (42, reedsolomon_syndromes_c), (43, reedsolomon_Inverse_c), (44, reedsolomon_Mul_c), (46, reedsolomon_power_c), (45, _reedsolomon_poly__times_c), (48, reedsolomon_locate_c), (47, reedsolomon_repair_c), (68, _reedsolomon_poly__at_c)]
theorem tbl_reedsolomon_ok : okT Try.prog tbl_reedsolomon := ⟨reedsolomon_Valid_s, reedsolomon_Encode_s, reedsolomon_Decode_s, reedsolomon_check_s, reedsolomon_syndromes_s, reedsolomon_Inverse_s, reedsolomon_Mul_s, reedsolomon_power_s, _reedsolomon_poly__times_s, reedsolomon_locate_s, reedsolomon_repair_s, _reedsolomon_poly__at_s, trivial⟩

end Go.Proofs.Ythkilkjngincpaa
namespace Go.Proofs.Ythkilkjngincpaa
open Go Go.Lite
set_option linter.unusedVariables false

end Go.Proofs.Ythkilkjngincpaa
namespace Go.Proofs.Ythkilkjngincpaa
open Go Go.Lite
set_option linter.unusedVariables false

end Go.Proofs.Ythkilkjngincpaa
namespace Go.Proofs.Ythkilkjngincpaa
open Go Go.Lite
set_option linter.unusedVariables false

/-- printworks/printworksref2.Mod -/
def R2_Mod_r0 : List SO := [rZ 4 (.assign (ciZ 0))]
def R2_Mod_r1 : List SO := [mvZ 5 0, mvZ 6 1, mvZ 7 0, mvZ 8 1, rZ 9 (.call ⟨(.value (.func (34 : Nat))), #[(tZ 7), (tZ 8)], #[3, 3]⟩), boZ 10 .mul 3 6 9 3, boZ 11 .sub 3 5 10 3, asZ 4 11]
def R2_Mod_c : SF := ⟨12, (.seq (.reg R2_Mod_r0)
  (.seq (.reg R2_Mod_r1)
  .ret)), [.tmp 4]⟩
theorem R2_Mod_s : slimF Try.prog 9 = some R2_Mod_c := by kernel_rfl
abbrev R2_Mod_f : Nat := 9
/-- printworks/printworksref2.Bit -/
def R2_Bit_r0 : List SO := [rZ 3 (.box 29 (tZ 0)), rZ 6 (.assign (.const (.bool false)))]
def R2_Bit_r1 : List SO := [mvZ 7 1, faZ 8 29 3 0, ldZ 9 3 8, bcZ 10 .sub 3 9 1 3, rZ 11 (.call ⟨(.value (.func (40 : Nat))), #[(tZ 7), (ciZ 0), (tZ 10)], #[3, 3, 3]⟩), rZ 12 (.unOp .not 4 (tZ 11)), mvZ 13 12, gZ 13 false (mvZ 14 2), gZ 13 false (faZ 15 29 3 1), gZ 13 false (ldZ 16 3 15), gZ 13 false (bcZ 17 .sub 3 16 1 3), gZ 13 false (rZ 18 (.call ⟨(.value (.func (40 : Nat))), #[(tZ 14), (ciZ 0), (tZ 17)], #[3, 3, 3]⟩)), gZ 13 false (rZ 19 (.unOp .not 4 (tZ 18))), rZ 20 (.pick (tZ 13) (.const (.bool true)) (tZ 19))]
def R2_Bit_r2 : List SO := [rZ 6 (.assign (.const (.bool false)))]
def R2_Bit_r3 : List SO := [faZ 21 29 3 2, ldZ 22 22 21, mvZ 23 2, faZ 24 29 3 0, ldZ 25 3 24, bcZ 26 .add 3 25 7 3, bcZ 27 .quo 3 26 8 3, boZ 28 .mul 3 23 27 3, mvZ 29 1, bcZ 30 .quo 3 29 8 3, boZ 31 .add 3 28 30 3, iaZ 32 22 22 31, ldZ 33 5 32, mvZ 34 1, bcZ 35 .rem 3 34 8 3, boZ 36 .shl 5 33 35 3, rZ 37 (.binOp .and 5 (tZ 36) (.const (.int .u8 128)) 5), rZ 38 (.binOp .neq 5 (tZ 37) (.const (.int .u8 0)) 5), asZ 6 38]
def R2_Bit_c : SF := ⟨39, (.seq (.reg R2_Bit_r0)
  (.seq (.seq (.reg R2_Bit_r1)
  (.cond (tZ 20) (.seq (.reg R2_Bit_r2)
  .ret) .skip))
  (.seq (.reg R2_Bit_r3)
  .ret))), [.tmp 6]⟩
theorem R2_Bit_s : slimF Try.prog 13 = some R2_Bit_c := by kernel_rfl
/-- printworks/printworksref2.SameBytes -/
def R2_SameBytes_r0 : List SO := [rZ 4 (.assign (.const (.bool false)))]
def R2_SameBytes_r1 : List SO := [mvZ 5 0, rZ 6 (.convert 22 9 (tZ 5)), mvZ 7 1, rZ 8 (.convert 22 9 (tZ 7)), boZ 9 .eql 9 6 8 9, asZ 4 9]
def R2_SameBytes_c : SF := ⟨10, (.seq (.reg R2_SameBytes_r0)
  (.seq (.reg R2_SameBytes_r1)
  .ret)), [.tmp 4]⟩
theorem R2_SameBytes_s : slimF Try.prog 15 = some R2_SameBytes_c := by kernel_rfl
abbrev R2_SameBytes_f : Nat := 15
/-- printworks/printworksref2.Border -/
def R2_Border_r0 : List SO := [rZ 6 (.assign (ciZ 0))]
def R2_Border_r1 : List SO := [mvZ 8 1, bcZ 9 .eql 3 8 0 3, asZ 7 9]
def R2_Border_r2 : List SO := [mvZ 10 2, mvZ 11 0, bcZ 12 .sub 3 11 1 3, boZ 13 .eql 3 10 12 3, asZ 7 13]
def R2_Border_r3 : List SO := [rZ 6 (.assign (ciZ 1))]
def R2_Border_r4 : List SO := [mvZ 15 2, bcZ 16 .eql 3 15 0 3, asZ 14 16]
def R2_Border_r5 : List SO := [mvZ 17 1, bcZ 18 .rem 3 17 2 3, rZ 19 (.binOp .sub 3 (ciZ 1) (tZ 18) 3), asZ 6 19]
def R2_Border_r6 : List SO := [mvZ 21 1, mvZ 22 0, bcZ 23 .sub 3 22 1 3, boZ 24 .eql 3 21 23 3, asZ 20 24]
def R2_Border_r7 : List SO := [mvZ 25 0, bcZ 26 .sub 3 25 1 3, mvZ 27 2, boZ 28 .sub 3 26 27 3, bcZ 29 .rem 3 28 2 3, rZ 30 (.binOp .sub 3 (ciZ 1) (tZ 29) 3), asZ 6 30]
def R2_Border_r8 : List SO := [rZ 6 (.assign (ciZ 2))]
def R2_Border_c : SF := ⟨31, (.seq (.reg R2_Border_r0)
  (.seq (.block 0 (.seq (.seq (.reg R2_Border_r1)
  (.cond (tZ 7) .skip (.reg R2_Border_r2)))
  (.cond (tZ 7) (.seq (.reg R2_Border_r3)
  .ret) (.seq (.reg R2_Border_r4)
  (.cond (tZ 14) (.seq (.reg R2_Border_r5)
  .ret) (.seq (.reg R2_Border_r6)
  (.cond (tZ 20) (.seq (.reg R2_Border_r7)
  .ret) .skip)))))))
  (.seq (.reg R2_Border_r8)
  .ret))), [.tmp 6]⟩
theorem R2_Border_s : slimF Try.prog 19 = some R2_Border_c := by kernel_rfl
/-- printworks/printworksref2.Drawn -/
def R2_Drawn_r0 : List SO := [rZ 6 (.alloc 29)]
def R2_Drawn_r1 : List SO := [mvZ 11 0, bcZ 12 .add 3 11 7 3, bcZ 13 .quo 3 12 8 3, asZ 7 13]
def R2_Drawn_r2 : List SO := [mvZ 14 0, mvZ 15 1, mvZ 16 7, mvZ 17 1, boZ 18 .mul 3 16 17 3, rZ 19 (.makeSlice 22 (tZ 18) (tZ 18)), rZ 20 (.build 29 #[(0, (tZ 14)), (1, (tZ 15)), (2, (tZ 19))]), rZ 8 (.alloc 29), stZ 29 8 20]
def R2_Drawn_r3 : List SO := [mvZ 21 2, rZ 22 (.call ⟨(.builtin .len), #[(tZ 21)], #[41]⟩), rZ 23 (.move (ciZ 0))]
def R2_Drawn_r4 : List SO := [boZ 24 .lss 3 23 22 3]
def R2_Drawn_r5 : List SO := [mvZ 25 23, iaZ 26 41 21 23, ldZ 27 4 26, asZ 9 25, asZ 10 27]
def R2_Drawn_r6 : List SO := [mvZ 28 10]
def R2_Drawn_r7 : List SO := [faZ 29 29 8 2, ldZ 30 22 29, mvZ 31 9, mvZ 32 0, boZ 33 .quo 3 31 32 3, mvZ 34 7, boZ 35 .mul 3 33 34 3, mvZ 36 9, mvZ 37 0, boZ 38 .rem 3 36 37 3, bcZ 39 .quo 3 38 8 3, boZ 40 .add 3 35 39 3, iaZ 41 22 30 40, ldZ 42 5 41, mvZ 43 9, mvZ 44 0, boZ 45 .rem 3 43 44 3, bcZ 46 .rem 3 45 8 3, rZ 47 (.binOp .shr 5 (.const (.int .u8 128)) (tZ 46) 3), boZ 48 .or 5 42 47 5, iaZ 49 22 30 40, stZ 5 49 48]
def R2_Drawn_a7 : List (List Nat) := [[], [0], [], [], [2, 3], [], [4, 5], [], [], [7, 8], [9], [6, 10], [1, 11], [12], [], [], [14, 15], [16], [17], [13, 18], [1, 11, 0, 1, 2, 3, 4, 5, 6, 7, 8, 9, 10, 11, 12, 13, 14, 15, 16, 17, 18, 19], [20, 19, 0, 1, 2, 3, 4, 5, 6, 7, 8, 9, 10, 11, 12, 13, 14, 15, 16, 17, 18, 19]]
def R2_Drawn_r8 : List SO := [bcZ 50 .add 3 23 1 3, mvZ 23 50]
def R2_Drawn_r9 : List SO := [ldZ 51 29 8, stZ 29 6 51]
def R2_Drawn_c : SF := ⟨52, (.seq (.reg R2_Drawn_r0)
  (.seq (.reg R2_Drawn_r1)
  (.seq (.reg R2_Drawn_r2)
  (.seq (.seq (.reg R2_Drawn_r3)
  (.block 0 (.loop (.seq (.reg R2_Drawn_r4)
  (.seq (.cond (tZ 24) .skip (.exit 0))
  (.seq (.block 1 (.seq (.reg R2_Drawn_r5)
  (.seq (.reg R2_Drawn_r6)
  (.cond (tZ 28) (.regd R2_Drawn_r7 R2_Drawn_a7) .skip))))
  (.reg R2_Drawn_r8)))))))
  (.seq (.reg R2_Drawn_r9)
  .ret))))), [.cell 6 29]⟩
theorem R2_Drawn_s : slimF Try.prog 21 = some R2_Drawn_c := by kernel_rfl
/-- printworks/printworksref2.Floor -/
def R2_Floor_r0 : List SO := [rZ 4 (.assign (ciZ 0))]
def R2_Floor_r1 : List SO := [mvZ 6 0, mvZ 7 1, boZ 8 .quo 3 6 7 3, asZ 5 8]
def R2_Floor_r2 : List SO := [mvZ 9 5, mvZ 10 1, boZ 11 .mul 3 9 10 3, mvZ 12 0, boZ 13 .gtr 3 11 12 3]
def R2_Floor_r3 : List SO := [mvZ 14 5, bcZ 15 .sub 3 14 1 3, asZ 5 15]
def R2_Floor_r4 : List SO := [mvZ 16 5, asZ 4 16]
def R2_Floor_c : SF := ⟨17, (.seq (.reg R2_Floor_r0)
  (.seq (.reg R2_Floor_r1)
  (.seq (.seq (.reg R2_Floor_r2)
  (.cond (tZ 13) (.reg R2_Floor_r3) .skip))
  (.seq (.reg R2_Floor_r4)
  .ret)))), [.tmp 4]⟩
theorem R2_Floor_s : slimF Try.prog 34 = some R2_Floor_c := by kernel_rfl
abbrev R2_Floor_f : Nat := 34
/-- printworks/printworksref2.Within -/
def R2_Within_r0 : List SO := [rZ 6 (.assign (.const (.bool false)))]
def R2_Within_r1 : List SO := [mvZ 7 1, mvZ 8 0, boZ 9 .leq 3 7 8 3, mvZ 10 9, gZ 10 true (mvZ 11 0), gZ 10 true (mvZ 12 2), gZ 10 true (boZ 13 .leq 3 11 12 3), rZ 14 (.pick (tZ 10) (tZ 13) (.const (.bool false))), asZ 6 14]
def R2_Within_c : SF := ⟨15, (.seq (.reg R2_Within_r0)
  (.seq (.reg R2_Within_r1)
  .ret)), [.tmp 6]⟩
theorem R2_Within_s : slimF Try.prog 40 = some R2_Within_c := by kernel_rfl
def tbl_R2 : List (Nat × SF) := [(9, R2_Mod_c), (13, R2_Bit_c), (15, R2_SameBytes_c), (19, R2_Border_c), (21, R2_Drawn_c), (34, R2_Floor_c), (40, R2_Within_c)]
theorem tbl_R2_ok : okT Try.prog tbl_R2 := ⟨R2_Mod_s, R2_Bit_s, R2_SameBytes_s, R2_Border_s, R2_Drawn_s, R2_Floor_s, R2_Within_s, trivial⟩

end Go.Proofs.Ythkilkjngincpaa
namespace Go.Proofs.Ythkilkjngincpaa
open Go Go.Lite
set_option linter.unusedVariables false

/-- printworks/printworkskeep2.matrixWorks -/
def K2_matrixWorks_r0 : List SO := [rZ 0 (.assign (.const (.bool false)))]
def K2_matrixWorks_r1 : List SO := [rZ 12 (.call ⟨(.value (.func (11 : Nat))), #[(.const (.slice none 0 0)), (ciZ 8)], #[22, 3]⟩), mvZ 11 12, exZ 13 11 0, exZ 14 11 1, rZ 1 (.alloc 29), stZ 29 1 13, asZ 2 14]
def K2_matrixWorks_r2 : List SO := [rZ 16 (.call ⟨(.value (.func (10 : Nat))), #[(ciZ 12)], #[3]⟩), mvZ 15 16, exZ 17 15 0, exZ 18 15 1, exZ 19 15 2, exZ 20 15 3, asZ 3 17, asZ 4 18, asZ 5 19, asZ 6 20]
def K2_matrixWorks_r3 : List SO := [rZ 22 (.buildSlice 22 8 #[(0, (.const (.int .u8 170))), (1, (.const (.int .u8 129))), (2, (.const (.int .u8 128))), (3, (.const (.int .u8 129))), (4, (.const (.int .u8 128))), (5, (.const (.int .u8 129))), (6, (.const (.int .u8 128))), (7, (.const (.int .u8 255)))]), rZ 23 (.build 29 #[(0, (ciZ 8)), (1, (ciZ 8)), (2, (tZ 22))]), rZ 24 (.call ⟨(.value (.func (22 : Nat))), #[(tZ 23)], #[29]⟩), mvZ 21 24, exZ 25 21 0, exZ 26 21 1, exZ 27 21 2, exZ 28 21 3, asZ 7 25, asZ 8 26, asZ 9 27, asZ 10 28]
def K2_matrixWorks_r4 : List SO := [mvZ 29 2, bcZ 30 .eql 25 29 0 25, mvZ 31 30, gZ 31 true (faZ 32 29 1 2), gZ 31 true (ldZ 33 22 32), gZ 31 true (rZ 34 (.buildSlice 22 8 #[(0, (.const (.int .u8 170))), (1, (.const (.int .u8 129))), (2, (.const (.int .u8 128))), (3, (.const (.int .u8 129))), (4, (.const (.int .u8 128))), (5, (.const (.int .u8 129))), (6, (.const (.int .u8 128))), (7, (.const (.int .u8 255)))])), gZ 31 true (rZ 35 (.call ⟨(.value (.func (15 : Nat))), #[(tZ 33), (tZ 34)], #[22, 22]⟩)), rZ 36 (.pick (tZ 31) (tZ 35) (.const (.bool false))), mvZ 37 36, gZ 37 true (mvZ 38 6), gZ 37 true (bcZ 39 .eql 25 38 0 25), rZ 40 (.pick (tZ 37) (tZ 39) (.const (.bool false))), mvZ 41 40, gZ 41 true (mvZ 42 3), gZ 41 true (bcZ 43 .eql 3 42 12 3), rZ 44 (.pick (tZ 41) (tZ 43) (.const (.bool false))), mvZ 45 44, gZ 45 true (mvZ 46 4), gZ 45 true (bcZ 47 .eql 3 46 4 3), rZ 48 (.pick (tZ 45) (tZ 47) (.const (.bool false))), mvZ 49 48, gZ 49 true (mvZ 50 5), gZ 49 true (bcZ 51 .eql 3 50 7 3), rZ 52 (.pick (tZ 49) (tZ 51) (.const (.bool false))), mvZ 53 52, gZ 53 true (mvZ 54 10), gZ 53 true (bcZ 55 .eql 25 54 0 25), rZ 56 (.pick (tZ 53) (tZ 55) (.const (.bool false))), mvZ 57 56, gZ 57 true (mvZ 58 8), gZ 57 true (bcZ 59 .eql 3 58 0 3), rZ 60 (.pick (tZ 57) (tZ 59) (.const (.bool false))), mvZ 61 60, gZ 61 true (mvZ 62 9), gZ 61 true (bcZ 63 .eql 3 62 0 3), rZ 64 (.pick (tZ 61) (tZ 63) (.const (.bool false))), asZ 0 64]
def K2_matrixWorks_c : SF := ⟨65, (.seq (.reg K2_matrixWorks_r0)
  (.seq (.reg K2_matrixWorks_r1)
  (.seq (.reg K2_matrixWorks_r2)
  (.seq (.reg K2_matrixWorks_r3)
  (.seq (.reg K2_matrixWorks_r4)
  .ret))))), [.tmp 0]⟩
theorem K2_matrixWorks_s : slimF Try.prog 8 = some K2_matrixWorks_c := by kernel_rfl
/-- printworks/printworkskeep2.reedsolomonWorks -/
def K2_reedsolomonWorks_r0 : List SO := [rZ 0 (.assign (.const (.bool false)))]
def K2_reedsolomonWorks_r1 : List SO := [rZ 9 (.buildSlice 22 1 #[(0, (.const (.int .u8 1)))]), rZ 10 (.call ⟨(.value (.func (17 : Nat))), #[(tZ 9), (ciZ 2)], #[22, 3]⟩), mvZ 8 10, exZ 11 8 0, exZ 12 8 1, asZ 1 11, asZ 2 12]
def K2_reedsolomonWorks_r2 : List SO := [rZ 14 (.buildSlice 22 3 #[(0, (.const (.int .u8 0))), (1, (.const (.int .u8 3))), (2, (.const (.int .u8 2)))]), rZ 15 (.call ⟨(.value (.func (18 : Nat))), #[(tZ 14), (ciZ 2), (.const (.slice none 0 0))], #[22, 3, 38]⟩), mvZ 13 15, exZ 16 13 0, exZ 17 13 1, exZ 18 13 2, asZ 3 16, asZ 4 17, asZ 5 18]
def K2_reedsolomonWorks_r3 : List SO := [rZ 20 (.call ⟨(.value (.func (43 : Nat))), #[(.const (.int .u8 2))], #[5]⟩), mvZ 19 20, exZ 21 19 0, exZ 22 19 1, asZ 6 21, asZ 7 22]
def K2_reedsolomonWorks_r4 : List SO := [mvZ 23 2, bcZ 24 .eql 25 23 0 25, mvZ 25 24, gZ 25 true (mvZ 26 1), gZ 25 true (rZ 27 (.buildSlice 22 3 #[(0, (.const (.int .u8 1))), (1, (.const (.int .u8 3))), (2, (.const (.int .u8 2)))])), gZ 25 true (rZ 28 (.call ⟨(.value (.func (15 : Nat))), #[(tZ 26), (tZ 27)], #[22, 22]⟩)), rZ 29 (.pick (tZ 25) (tZ 28) (.const (.bool false))), mvZ 30 29, gZ 30 true (mvZ 31 5), gZ 30 true (bcZ 32 .eql 25 31 0 25), rZ 33 (.pick (tZ 30) (tZ 32) (.const (.bool false))), mvZ 34 33, gZ 34 true (mvZ 35 4), gZ 34 true (bcZ 36 .eql 3 35 1 3), rZ 37 (.pick (tZ 34) (tZ 36) (.const (.bool false))), mvZ 38 37, gZ 38 true (mvZ 39 3), gZ 38 true (mvZ 40 1), gZ 38 true (rZ 41 (.call ⟨(.value (.func (15 : Nat))), #[(tZ 39), (tZ 40)], #[22, 22]⟩)), rZ 42 (.pick (tZ 38) (tZ 41) (.const (.bool false))), mvZ 43 42, gZ 43 true (mvZ 44 7), gZ 43 true (bcZ 45 .eql 25 44 0 25), rZ 46 (.pick (tZ 43) (tZ 45) (.const (.bool false))), mvZ 47 46, gZ 47 true (mvZ 48 6), gZ 47 true (rZ 49 (.binOp .eql 5 (tZ 48) (.const (.int .u8 142)) 5)), rZ 50 (.pick (tZ 47) (tZ 49) (.const (.bool false))), mvZ 51 50, gZ 51 true (rZ 52 (.call ⟨(.value (.func (44 : Nat))), #[(.const (.int .u8 2)), (.const (.int .u8 128))], #[5, 5]⟩)), gZ 51 true (rZ 53 (.binOp .eql 5 (tZ 52) (.const (.int .u8 29)) 5)), rZ 54 (.pick (tZ 51) (tZ 53) (.const (.bool false))), asZ 0 54]
def K2_reedsolomonWorks_c : SF := ⟨55, (.seq (.reg K2_reedsolomonWorks_r0)
  (.seq (.reg K2_reedsolomonWorks_r1)
  (.seq (.reg K2_reedsolomonWorks_r2)
  (.seq (.reg K2_reedsolomonWorks_r3)
  (.seq (.reg K2_reedsolomonWorks_r4)
  .ret))))), [.tmp 0]⟩
theorem K2_reedsolomonWorks_s : slimF Try.prog 16 = some K2_reedsolomonWorks_c := by kernel_rfl
abbrev K2_reedsolomonWorks_f : Nat := 16
/-- printworks/printworkskeep2.stripWorks -/
def K2_stripWorks_r0 : List SO := [rZ 0 (.assign (.const (.bool false)))]
def K2_stripWorks_r1 : List SO := [rZ 8 (.call ⟨(.value (.func (30 : Nat))), #[(ciZ 1), (ciZ 2), (ciZ 20)], #[3, 3, 3]⟩), mvZ 7 8, exZ 9 7 0, exZ 10 7 1, asZ 1 9, asZ 2 10]
def K2_stripWorks_r2 : List SO := [rZ 12 (.call ⟨(.value (.func (61 : Nat))), #[(ciZ 1)], #[3]⟩), mvZ 11 12, exZ 13 11 0, exZ 14 11 1, rZ 3 (.alloc 29), stZ 29 3 13, asZ 4 14]
def K2_stripWorks_r3 : List SO := [rZ 16 (.buildSlice 22 4 #[(0, (.const (.int .u8 0))), (1, (.const (.int .u8 16))), (2, (.const (.int .u8 56))), (3, (.const (.int .u8 16)))]), rZ 17 (.build 29 #[(0, (ciZ 5)), (1, (ciZ 4)), (2, (tZ 16))]), rZ 18 (.call ⟨(.value (.func (62 : Nat))), #[(tZ 17), (ciZ 1)], #[29, 3]⟩), mvZ 15 18, exZ 19 15 0, exZ 20 15 1, rZ 5 (.alloc 113), stZ 113 5 19, asZ 6 20]
def K2_stripWorks_r4 : List SO := [mvZ 21 2, bcZ 22 .eql 25 21 0 25, mvZ 23 22, gZ 23 true (mvZ 24 1), gZ 23 true (rZ 25 (.call ⟨(.builtin .len), #[(tZ 24)], #[61]⟩)), gZ 23 true (bcZ 26 .eql 3 25 4 3), rZ 27 (.pick (tZ 23) (tZ 26) (.const (.bool false))), mvZ 28 27, gZ 28 true (mvZ 29 1), gZ 28 true (rZ 30 (.indexAddr 61 (tZ 29) (ciZ 3))), gZ 28 true (ldZ 31 117 30), gZ 28 true (rZ 32 (.build 117 #[(0, (ciZ 15)), (1, (ciZ 5)), (2, (ciZ 1)), (4, (ciZ 1))])), gZ 28 true (boZ 33 .eql 117 31 32 117), rZ 34 (.pick (tZ 28) (tZ 33) (.const (.bool false))), mvZ 35 34, gZ 35 true (mvZ 36 4), gZ 35 true (bcZ 37 .eql 25 36 0 25), rZ 38 (.pick (tZ 35) (tZ 37) (.const (.bool false))), mvZ 39 38, gZ 39 true (faZ 40 29 3 2), gZ 39 true (ldZ 41 22 40), gZ 39 true (rZ 42 (.buildSlice 22 3 #[(0, (.const (.int .u8 64))), (1, (.const (.int .u8 224))), (2, (.const (.int .u8 64)))])), gZ 39 true (rZ 43 (.call ⟨(.value (.func (15 : Nat))), #[(tZ 41), (tZ 42)], #[22, 22]⟩)), rZ 44 (.pick (tZ 39) (tZ 43) (.const (.bool false))), mvZ 45 44, gZ 45 true (mvZ 46 6), gZ 45 true (bcZ 47 .eql 25 46 0 25), rZ 48 (.pick (tZ 45) (tZ 47) (.const (.bool false))), mvZ 49 48, gZ 49 true (ldZ 50 113 5), gZ 49 true (rZ 51 (.build 113 #[(0, (ciZ 3)), (1, (ciZ 2))])), gZ 49 true (boZ 52 .eql 113 50 51 113), rZ 53 (.pick (tZ 49) (tZ 52) (.const (.bool false))), asZ 0 53]
def K2_stripWorks_c : SF := ⟨54, (.seq (.reg K2_stripWorks_r0)
  (.seq (.reg K2_stripWorks_r1)
  (.seq (.reg K2_stripWorks_r2)
  (.seq (.reg K2_stripWorks_r3)
  (.seq (.reg K2_stripWorks_r4)
  .ret))))), [.tmp 0]⟩
theorem K2_stripWorks_s : slimF Try.prog 29 = some K2_stripWorks_c := by kernel_rfl
def tbl_K2 : List (Nat × SF) := [(8, K2_matrixWorks_c), (16, K2_reedsolomonWorks_c), (29, K2_stripWorks_c)]
theorem tbl_K2_ok : okT Try.prog tbl_K2 := ⟨K2_matrixWorks_s, K2_reedsolomonWorks_s, K2_stripWorks_s, trivial⟩

end Go.Proofs.Ythkilkjngincpaa
namespace Go.Proofs.Ythkilkjngincpaa
open Go Go.Lite
set_option linter.unusedVariables false

/-- printworks/printworkskeep2.ReedsolomonCorrects -/
def K2_ReedsolomonCorrects_r0 : List SO := [rZ 10 (.assign (.const (.bool false)))]
def K2_ReedsolomonCorrects_r1 : List SO := [rZ 27 (.call ⟨(.value (.func (16 : Nat))), #[], #[]⟩), rZ 28 (.unOp .not 4 (tZ 27))]
def K2_ReedsolomonCorrects_r2 : List SO := [rZ 10 (.assign (.const (.bool false)))]
def K2_ReedsolomonCorrects_r3 : List SO := [mvZ 29 0, mvZ 30 0, rZ 31 (.call ⟨(.builtin .len), #[(tZ 30)], #[22]⟩), rZ 32 (.call ⟨(.builtin .min), #[(tZ 31), (ciZ 180)], #[3, 3]⟩), rZ 33 (.slice 22 (tZ 29) none (some (tZ 32)) none), mvZ 34 1, rZ 35 (.call ⟨(.value (.func (9 : Nat))), #[(tZ 34), (ciZ 64)], #[3, 3]⟩), rZ 36 (.binOp .add 3 (ciZ 1) (tZ 35) 3), asZ 0 33, asZ 1 36]
def K2_ReedsolomonCorrects_a3 : List (List Nat) := [[], [], [1], [2], [0, 3], [], [5], [6], [4, 6, 0, 1, 2, 3, 4], [7, 8, 0, 1, 2, 3, 4, 5, 6, 7, 8]]
def K2_ReedsolomonCorrects_r4 : List SO := [mvZ 38 0, mvZ 39 1, rZ 40 (.call ⟨(.value (.func (17 : Nat))), #[(tZ 38), (tZ 39)], #[22, 3]⟩), mvZ 37 40, exZ 41 37 0, exZ 42 37 1, asZ 11 41, asZ 12 42]
def K2_ReedsolomonCorrects_r5 : List SO := [mvZ 43 0, rZ 44 (.call ⟨(.builtin .len), #[(tZ 43)], #[22]⟩), bcZ 45 .eql 3 44 0 3]
def K2_ReedsolomonCorrects_r6 : List SO := [mvZ 46 12, bcZ 47 .eql 25 46 1 25, mvZ 48 47, gZ 48 true (mvZ 49 11), gZ 48 true (rZ 50 (.call ⟨(.builtin .len), #[(tZ 49)], #[22]⟩)), gZ 48 true (bcZ 51 .eql 3 50 0 3), rZ 52 (.pick (tZ 48) (tZ 51) (.const (.bool false))), asZ 10 52]
def K2_ReedsolomonCorrects_r7 : List SO := [mvZ 54 11, mvZ 55 1, rZ 56 (.call ⟨(.value (.func (14 : Nat))), #[(tZ 54), (tZ 55)], #[22, 3]⟩), mvZ 53 56, exZ 57 53 0, exZ 58 53 1, asZ 13 57, asZ 14 58]
def K2_ReedsolomonCorrects_r8 : List SO := [mvZ 59 12, bcZ 60 .neq 25 59 0 25, mvZ 61 60, gZ 61 false (mvZ 62 14), gZ 61 false (bcZ 63 .neq 25 62 0 25), rZ 64 (.pick (tZ 61) (.const (.bool true)) (tZ 63)), mvZ 65 64, gZ 65 false (mvZ 66 13), gZ 65 false (rZ 67 (.unOp .not 4 (tZ 66))), rZ 68 (.pick (tZ 65) (.const (.bool true)) (tZ 67)), mvZ 69 68, gZ 69 false (mvZ 70 11), gZ 69 false (rZ 71 (.call ⟨(.builtin .len), #[(tZ 70)], #[22]⟩)), gZ 69 false (mvZ 72 0), gZ 69 false (rZ 73 (.call ⟨(.builtin .len), #[(tZ 72)], #[22]⟩)), gZ 69 false (mvZ 74 1), gZ 69 false (boZ 75 .add 3 73 74 3), gZ 69 false (boZ 76 .neq 3 71 75 3), rZ 77 (.pick (tZ 69) (.const (.bool true)) (tZ 76)), mvZ 78 77, gZ 78 false (mvZ 79 11), gZ 78 false (mvZ 80 0), gZ 78 false (rZ 81 (.call ⟨(.builtin .len), #[(tZ 80)], #[22]⟩)), gZ 78 false (rZ 82 (.slice 22 (tZ 79) none (some (tZ 81)) none)), gZ 78 false (mvZ 83 0), gZ 78 false (rZ 84 (.call ⟨(.value (.func (15 : Nat))), #[(tZ 82), (tZ 83)], #[22, 22]⟩)), gZ 78 false (rZ 85 (.unOp .not 4 (tZ 84))), rZ 86 (.pick (tZ 78) (.const (.bool true)) (tZ 85))]
def K2_ReedsolomonCorrects_r9 : List SO := [rZ 10 (.assign (.const (.bool false)))]
def K2_ReedsolomonCorrects_r10 : List SO := [mvZ 87 4, mvZ 88 1, bcZ 89 .add 3 88 1 3, rZ 90 (.call ⟨(.value (.func (9 : Nat))), #[(tZ 87), (tZ 89)], #[3, 3]⟩), asZ 4 90]
def K2_ReedsolomonCorrects_r11 : List SO := [rZ 91 (.buildSlice 22 0 #[]), mvZ 92 11, rZ 93 (.call ⟨(.builtin .append), #[(tZ 91), (tZ 92)], #[22, 22]⟩), asZ 15 93]
def K2_ReedsolomonCorrects_r12 : List SO := [rZ 16 (.assign (.const (.slice none 0 0)))]
def K2_ReedsolomonCorrects_r13 : List SO := [mvZ 94 1, mvZ 95 4, boZ 96 .sub 3 94 95 3, bcZ 97 .quo 3 96 2 3, asZ 17 97, rZ 18 (.assign (ciZ 0))]
def K2_ReedsolomonCorrects_r14 : List SO := [mvZ 98 11, rZ 99 (.call ⟨(.builtin .len), #[(tZ 98)], #[22]⟩), rZ 100 (.makeSlice 41 (tZ 99) (tZ 99)), asZ 19 100]
def K2_ReedsolomonCorrects_r15 : List SO := [mvZ 101 2, rZ 102 (.call ⟨(.builtin .len), #[(tZ 101)], #[38]⟩), rZ 103 (.move (ciZ 0))]
def K2_ReedsolomonCorrects_r16 : List SO := [boZ 104 .lss 3 103 102 3]
def K2_ReedsolomonCorrects_r17 : List SO := [mvZ 105 103, iaZ 106 38 101 103, ldZ 107 3 106, asZ 20 105, asZ 21 107]
def K2_ReedsolomonCorrects_r18 : List SO := [mvZ 108 21, mvZ 109 11, rZ 110 (.call ⟨(.builtin .len), #[(tZ 109)], #[22]⟩), rZ 111 (.call ⟨(.value (.func (9 : Nat))), #[(tZ 108), (tZ 110)], #[3, 3]⟩), asZ 22 111]
def K2_ReedsolomonCorrects_r19 : List SO := [mvZ 112 19, mvZ 113 22, iaZ 114 41 112 113, ldZ 115 4 114]
def K2_ReedsolomonCorrects_r20 : List SO := [mvZ 116 16, rZ 117 (.call ⟨(.builtin .len), #[(tZ 116)], #[38]⟩), mvZ 118 4, boZ 119 .lss 3 117 118 3]
def K2_ReedsolomonCorrects_r21 : List SO := [mvZ 120 16, mvZ 121 22, rZ 122 (.buildSlice 38 1 #[(0, (tZ 121))]), rZ 123 (.call ⟨(.builtin .append), #[(tZ 120), (tZ 122)], #[38, 38]⟩), asZ 16 123]
def K2_ReedsolomonCorrects_r22 : List SO := [mvZ 124 17, bcZ 125 .sub 3 124 1 3, asZ 17 125]
def K2_ReedsolomonCorrects_r23 : List SO := [mvZ 126 17, bcZ 127 .lss 3 126 0 3]
def K2_ReedsolomonCorrects_r24 : List SO := [mvZ 128 19, mvZ 129 22, iaZ 130 41 128 129, ⟨none, .store 4 (tZ 130) (.const (.bool true)), none⟩]
def K2_ReedsolomonCorrects_r25 : List SO := [mvZ 131 20, mvZ 132 3, rZ 133 (.call ⟨(.builtin .len), #[(tZ 132)], #[38]⟩), boZ 134 .lss 3 131 133 3]
def K2_ReedsolomonCorrects_r26 : List SO := [mvZ 135 15, mvZ 136 22, iaZ 137 22 135 136, ldZ 138 5 137, mvZ 139 3, mvZ 140 20, iaZ 141 38 139 140, ldZ 142 3 141, rZ 143 (.call ⟨(.value (.func (9 : Nat))), #[(tZ 142), (ciZ 256)], #[3, 3]⟩), rZ 144 (.convert 3 5 (tZ 143)), boZ 145 .xor 5 138 144 5, iaZ 146 22 135 136, stZ 5 146 145]
def K2_ReedsolomonCorrects_a26 : List (List Nat) := [[], [], [0, 1], [2], [], [], [4, 5], [6], [7], [8], [3, 9], [0, 1, 0, 1, 2, 3, 4, 5, 6, 7, 8, 9, 10], [11, 10, 8, 0, 1, 2, 3, 4, 5, 6, 7, 8, 9, 10]]
def K2_ReedsolomonCorrects_r27 : List SO := [bcZ 147 .add 3 103 1 3, mvZ 103 147]
def K2_ReedsolomonCorrects_r28 : List SO := [mvZ 148 11, rZ 149 (.call ⟨(.builtin .len), #[(tZ 148)], #[22]⟩), rZ 150 (.move (ciZ 0))]
def K2_ReedsolomonCorrects_r29 : List SO := [boZ 151 .lss 3 150 149 3]
def K2_ReedsolomonCorrects_r30 : List SO := [mvZ 152 150, asZ 23 152]
def K2_ReedsolomonCorrects_r31 : List SO := [mvZ 153 11, mvZ 154 23, iaZ 155 22 153 154, ldZ 156 5 155, mvZ 157 15, mvZ 158 23, iaZ 159 22 157 158, ldZ 160 5 159, boZ 161 .neq 5 156 160 5]
def K2_ReedsolomonCorrects_a31 : List (List Nat) := [[], [], [0, 1], [2], [], [], [4, 5], [6], [3, 7]]
def K2_ReedsolomonCorrects_r32 : List SO := [mvZ 162 18, bcZ 163 .add 3 162 1 3, asZ 18 163]
def K2_ReedsolomonCorrects_r33 : List SO := [bcZ 164 .add 3 150 1 3, mvZ 150 164]
def K2_ReedsolomonCorrects_r34 : List SO := [mvZ 166 15, mvZ 167 1, mvZ 168 16, rZ 169 (.call ⟨(.value (.func (18 : Nat))), #[(tZ 166), (tZ 167), (tZ 168)], #[22, 3, 38]⟩), mvZ 165 169, exZ 170 165 0, exZ 171 165 1, exZ 172 165 2, asZ 24 170, asZ 25 171, asZ 26 172]
def K2_ReedsolomonCorrects_r35 : List SO := [mvZ 173 26, bcZ 174 .eql 25 173 0 25, mvZ 175 174, gZ 175 true (mvZ 176 25), gZ 175 true (mvZ 177 18), gZ 175 true (boZ 178 .eql 3 176 177 3), rZ 179 (.pick (tZ 175) (tZ 178) (.const (.bool false))), mvZ 180 179, gZ 180 true (mvZ 181 24), gZ 180 true (mvZ 182 11), gZ 180 true (rZ 183 (.call ⟨(.value (.func (15 : Nat))), #[(tZ 181), (tZ 182)], #[22, 22]⟩)), rZ 184 (.pick (tZ 180) (tZ 183) (.const (.bool false))), asZ 10 184]
def K2_ReedsolomonCorrects_c : SF := ⟨185, (.seq (.reg K2_ReedsolomonCorrects_r0)
  (.seq (.seq (.reg K2_ReedsolomonCorrects_r1)
  (.cond (tZ 28) (.seq (.reg K2_ReedsolomonCorrects_r2)
  .ret) .skip))
  (.seq (.regd K2_ReedsolomonCorrects_r3 K2_ReedsolomonCorrects_a3)
  (.seq (.reg K2_ReedsolomonCorrects_r4)
  (.seq (.seq (.reg K2_ReedsolomonCorrects_r5)
  (.cond (tZ 45) (.seq (.reg K2_ReedsolomonCorrects_r6)
  .ret) .skip))
  (.seq (.reg K2_ReedsolomonCorrects_r7)
  (.seq (.seq (.reg K2_ReedsolomonCorrects_r8)
  (.cond (tZ 86) (.seq (.reg K2_ReedsolomonCorrects_r9)
  .ret) .skip))
  (.seq (.reg K2_ReedsolomonCorrects_r10)
  (.seq (.reg K2_ReedsolomonCorrects_r11)
  (.seq (.reg K2_ReedsolomonCorrects_r12)
  (.seq (.reg K2_ReedsolomonCorrects_r13)
  (.seq (.reg K2_ReedsolomonCorrects_r14)
  (.seq (.seq (.reg K2_ReedsolomonCorrects_r15)
  (.block 0 (.loop (.seq (.reg K2_ReedsolomonCorrects_r16)
  (.seq (.cond (tZ 104) .skip (.exit 0))
  (.seq (.block 1 (.seq (.reg K2_ReedsolomonCorrects_r17)
  (.seq (.reg K2_ReedsolomonCorrects_r18)
  (.seq (.seq (.reg K2_ReedsolomonCorrects_r19)
  (.cond (tZ 115) (.exit 1) .skip))
  (.seq (.seq (.reg K2_ReedsolomonCorrects_r20)
  (.cond (tZ 119) (.reg K2_ReedsolomonCorrects_r21) (.seq (.reg K2_ReedsolomonCorrects_r22)
  (.seq (.reg K2_ReedsolomonCorrects_r23)
  (.cond (tZ 127) (.exit 0) .skip)))))
  (.seq (.reg K2_ReedsolomonCorrects_r24)
  (.seq (.reg K2_ReedsolomonCorrects_r25)
  (.cond (tZ 134) (.regd K2_ReedsolomonCorrects_r26 K2_ReedsolomonCorrects_a26) .skip))))))))
  (.reg K2_ReedsolomonCorrects_r27)))))))
  (.seq (.seq (.reg K2_ReedsolomonCorrects_r28)
  (.block 2 (.loop (.seq (.reg K2_ReedsolomonCorrects_r29)
  (.seq (.cond (tZ 151) .skip (.exit 2))
  (.seq (.block 3 (.seq (.reg K2_ReedsolomonCorrects_r30)
  (.seq (.regd K2_ReedsolomonCorrects_r31 K2_ReedsolomonCorrects_a31)
  (.cond (tZ 161) (.reg K2_ReedsolomonCorrects_r32) .skip))))
  (.reg K2_ReedsolomonCorrects_r33)))))))
  (.seq (.reg K2_ReedsolomonCorrects_r34)
  (.seq (.reg K2_ReedsolomonCorrects_r35)
  .ret)))))))))))))))), [.tmp 10]⟩
theorem K2_ReedsolomonCorrects_s : slimF Try.prog 4 = some K2_ReedsolomonCorrects_c := by kernel_rfl
abbrev K2_ReedsolomonCorrects_f : Nat := 4

end Go.Proofs.Ythkilkjngincpaa
