/- Printed by program: the functions' code in few words; the kernel checks it against the translation. -/
import Derived.Test.YthkilkjngincpaaRows
import Derived.Test.YthkilkjngincpaaLiteTP
namespace Go.Proofs.Ythkilkjngincpaa
open Go Go.Lite
set_option linter.unusedVariables false

/-- Int -/
abbrev Ey : Nat := 0
/-- Bool -/
abbrev Eo : Nat := 1
/-- Int -/
abbrev Ei : Nat := 2
@[reducible] def A (e : Nat) : Type := match e with
  | 0 => Int
  | 1 => Bool
  | 2 => Int
  | 3 => Int × Int × Int × Int × Int
  | 4 => Int × Int × List (Int)
  | 5 => Int × Int × Int × Int
  | 6 => Int × Int × Int × Int × Int × Int
  | _ => Unit
def eSz (e : Nat) : Nat := match e with
  | 0 => 1
  | 1 => 1
  | 2 => 1
  | 3 => 5
  | 4 => 3
  | 5 => 4
  | 6 => 6
  | _ => 1
def eD (e : Nat) : A e := match e with
  | 0 => (0 : Int)
  | 1 => false
  | 2 => (0 : Int)
  | 3 => ((0 : Int), (0 : Int), (0 : Int), (0 : Int), (0 : Int))
  | 4 => ((0 : Int), (0 : Int), ([] : List (Int)))
  | 5 => ((0 : Int), (0 : Int), (0 : Int), (0 : Int))
  | 6 => ((0 : Int), (0 : Int), (0 : Int), (0 : Int), (0 : Int), (0 : Int))
  | _ + 7 => ()
def encL0 (x : Int) : List LV := [.int .u8 (x)]
def enc0 (x : Int) : List (TV A) := [.int .u8 (x)]
def dec0 (cs : List (TV A)) : Option (Int) := match cs with
  | [.int .u8 x0] => some x0
  | _ => none
def encL1 (x : Bool) : List LV := [.bool (x)]
def enc1 (x : Bool) : List (TV A) := [.bool (x)]
def dec1 (cs : List (TV A)) : Option (Bool) := match cs with
  | [.bool x0] => some x0
  | _ => none
def encL2 (x : Int) : List LV := [.int .i64 (x)]
def enc2 (x : Int) : List (TV A) := [.int .i64 (x)]
def dec2 (cs : List (TV A)) : Option (Int) := match cs with
  | [.int .i64 x0] => some x0
  | _ => none
def encL3 (x : Int × Int × Int × Int × Int) : List LV := [.int .i64 (x.1), .int .i64 (x.2.1), .int .i64 (x.2.2.1), .int .i64 (x.2.2.2.1), .int .i64 (x.2.2.2.2)]
def enc3 (x : Int × Int × Int × Int × Int) : List (TV A) := [.int .i64 (x.1), .int .i64 (x.2.1), .int .i64 (x.2.2.1), .int .i64 (x.2.2.2.1), .int .i64 (x.2.2.2.2)]
def dec3 (cs : List (TV A)) : Option (Int × Int × Int × Int × Int) := match cs with
  | [.int .i64 x0, .int .i64 x1, .int .i64 x2, .int .i64 x3, .int .i64 x4] => some (x0, x1, x2, x3, x4)
  | _ => none
def encL4 (x : Int × Int × List (Int)) : List LV := [.int .i64 (x.1), .int .i64 (x.2.1), .ps 1 (List.length (x.2.2)) (List.flatMap encL0 (x.2.2))]
def enc4 (x : Int × Int × List (Int)) : List (TV A) := [.int .i64 (x.1), .int .i64 (x.2.1), .lst 0 (x.2.2)]
def dec4 (cs : List (TV A)) : Option (Int × Int × List (Int)) := match cs with
  | [.int .i64 x0, .int .i64 x1, .lst 0 x2] => some (x0, x1, x2)
  | _ => none
def encL5 (x : Int × Int × Int × Int) : List LV := [.int .i64 (x.1), .int .i64 (x.2.1), .int .i64 (x.2.2.1), .int .i64 (x.2.2.2)]
def enc5 (x : Int × Int × Int × Int) : List (TV A) := [.int .i64 (x.1), .int .i64 (x.2.1), .int .i64 (x.2.2.1), .int .i64 (x.2.2.2)]
def dec5 (cs : List (TV A)) : Option (Int × Int × Int × Int) := match cs with
  | [.int .i64 x0, .int .i64 x1, .int .i64 x2, .int .i64 x3] => some (x0, x1, x2, x3)
  | _ => none
def encL6 (x : Int × Int × Int × Int × Int × Int) : List LV := [.int .i64 (x.1), .int .i64 (x.2.1), .int .i64 (x.2.2.1), .int .i64 (x.2.2.2.1), .int .i64 (x.2.2.2.2.1), .int .i64 (x.2.2.2.2.2)]
def enc6 (x : Int × Int × Int × Int × Int × Int) : List (TV A) := [.int .i64 (x.1), .int .i64 (x.2.1), .int .i64 (x.2.2.1), .int .i64 (x.2.2.2.1), .int .i64 (x.2.2.2.2.1), .int .i64 (x.2.2.2.2.2)]
def dec6 (cs : List (TV A)) : Option (Int × Int × Int × Int × Int × Int) := match cs with
  | [.int .i64 x0, .int .i64 x1, .int .i64 x2, .int .i64 x3, .int .i64 x4, .int .i64 x5] => some (x0, x1, x2, x3, x4, x5)
  | _ => none
def eEncL (e : Nat) (a : A e) : List LV := match e, a with
  | 0, a => encL0 a
  | 1, a => encL1 a
  | 2, a => encL2 a
  | 3, a => encL3 a
  | 4, a => encL4 a
  | 5, a => encL5 a
  | 6, a => encL6 a
  | _ + 7, _ => [.nilp]
def eEnc (e : Nat) (a : A e) : List (TV A) := match e, a with
  | 0, a => enc0 a
  | 1, a => enc1 a
  | 2, a => enc2 a
  | 3, a => enc3 a
  | 4, a => enc4 a
  | 5, a => enc5 a
  | 6, a => enc6 a
  | _ + 7, _ => [.nilp]
def eDec (e : Nat) (cs : List (TV A)) : Option (A e) := match e with
  | 0 => dec0 cs
  | 1 => dec1 cs
  | 2 => dec2 cs
  | 3 => dec3 cs
  | 4 => dec4 cs
  | 5 => dec5 cs
  | 6 => dec6 cs
  | _ + 7 => none
def eEl (t : Nat) : Option Nat := match t with
  | 22 => some 0
  | 41 => some 1
  | 38 => some 2
  | 61 => some 3
  | 64 => some 4
  | 67 => some 4
  | 70 => some 5
  | 85 => some 0
  | 125 => some 6
  | 127 => some 2
  | 136 => some 2
  | _ => none
def fl (e : Nat) : Bool := match e with
  | 0 => true
  | 1 => true
  | 2 => true
  | 3 => true
  | 4 => false
  | 5 => true
  | 6 => true
  | _ => false
def eByt (e : Nat) : Option (List (A e) → List Int) := match e with
  | 0 => some fun xs => xs
  | _ => none
theorem flat1 : ∀ xs : List Int, xs.flatMap (fun x => [LV.int .u8 x]) = xs.map (LV.int .u8)
  | [] => rfl
  | x :: r => congrArg (LV.int .u8 x :: ·) (flat1 r)
def R : Reg A := ⟨eSz, eD, eEncL, eEnc, eDec, eEl, eByt⟩
theorem R_ok : R.Ok where
  pos e := by show 0 < eSz e; unfold eSz; split <;> decide
  len e a := match e, a with
    | 0, a => rfl
    | 1, a => rfl
    | 2, a => rfl
    | 3, a => rfl
    | 4, a => rfl
    | 5, a => rfl
    | 6, a => rfl
    | e + 7, a => rfl
  ok e a := match e, a with
    | 0, a => rfl
    | 1, a => rfl
    | 2, a => rfl
    | 3, a => rfl
    | 4, a => rfl
    | 5, a => rfl
    | 6, a => rfl
    | e + 7, a => rfl
  dec e cs a h := match e, a, h with
    | 0, a, h => by
      replace h : dec0 cs = some a := h
      unfold dec0 at h
      split at h
      · cases h; rfl
      · cases h
    | 1, a, h => by
      replace h : dec1 cs = some a := h
      unfold dec1 at h
      split at h
      · cases h; rfl
      · cases h
    | 2, a, h => by
      replace h : dec2 cs = some a := h
      unfold dec2 at h
      split at h
      · cases h; rfl
      · cases h
    | 3, a, h => by
      replace h : dec3 cs = some a := h
      unfold dec3 at h
      split at h
      · cases h; rfl
      · cases h
    | 4, a, h => by
      replace h : dec4 cs = some a := h
      unfold dec4 at h
      split at h
      · cases h; rfl
      · cases h
    | 5, a, h => by
      replace h : dec5 cs = some a := h
      unfold dec5 at h
      split at h
      · cases h; rfl
      · cases h
    | 6, a, h => by
      replace h : dec6 cs = some a := h
      unfold dec6 at h
      split at h
      · cases h; rfl
      · cases h
    | e + 7, a, h => by cases h
  free e a := match e, a with
    | 0, a => rfl
    | 1, a => rfl
    | 2, a => rfl
    | 3, a => rfl
    | 4, a => rfl
    | 5, a => rfl
    | 6, a => rfl
    | e + 7, a => rfl
  sol e a := match e, a with
    | 0, a => rfl
    | 1, a => rfl
    | 2, a => rfl
    | 3, a => rfl
    | 4, a => rfl
    | 5, a => rfl
    | 6, a => rfl
    | e + 7, a => rfl
  byt e f h xs := match e, f, h with
    | 0, f, h => by cases h; exact flat1 xs
    | 1, f, h => by cases h
    | 2, f, h => by cases h
    | 3, f, h => by cases h
    | 4, f, h => by cases h
    | 5, f, h => by cases h
    | 6, f, h => by cases h
    | e + 7, f, h => by cases h
theorem fl_ok : ∀ e, fl e = true → ∀ a, psfreeL (R.encL e a) = true := fun e h a => match e, h, a with
  | 0, h, a => rfl
  | 1, h, a => rfl
  | 2, h, a => rfl
  | 3, h, a => rfl
  | 4, h, a => by cases h
  | 5, h, a => rfl
  | 6, h, a => rfl
  | e + 7, h, a => rfl

def tyL : List (Nat × TI) := [(0, ⟨.other, 1, false, [.dead]⟩),
  (3, ⟨.int .i64, 1, false, [.int .i64 0]⟩),
  (25, ⟨.int .i64, 1, false, [.int .i64 0]⟩),
  (22, ⟨.slice 1 1 [.int .u8 0], 1, false, [.nils]⟩),
  (29, ⟨.struct [(0, 1, false), (1, 1, false), (2, 1, false)], 3, true, [.int .i64 0, .int .i64 0, .nils]⟩),
  (5, ⟨.int .u8, 1, false, [.int .u8 0]⟩),
  (41, ⟨.slice 1 1 [.bool false], 1, false, [.nils]⟩),
  (38, ⟨.slice 1 8 [.int .i64 0], 1, false, [.nils]⟩),
  (4, ⟨.bool, 1, false, [.bool false]⟩),
  (52, ⟨.struct [(0, 1, false), (1, 1, false), (2, 1, false), (3, 1, false), (4, 1, false), (5, 1, false), (6, 1, false), (7, 1, false)], 8, true, [.int .i64 0, .int .i64 0, .int .i64 0, .int .i64 0, .int .i64 0, .int .i64 0, .int .i64 0, .nils]⟩),
  (56, ⟨.struct [(0, 1, false), (1, 1, false), (2, 1, false)], 3, true, [.int .i64 0, .int .i64 0, .nils]⟩),
  (9, ⟨.str, 1, false, [.str ⟨([] : List UInt8).toArray⟩]⟩),
  (61, ⟨.slice 5 40 [.int .i64 0, .int .i64 0, .int .i64 0, .int .i64 0, .int .i64 0], 1, false, [.nils]⟩),
  (64, ⟨.slice 3 40 [.int .i64 0, .int .i64 0, .nils], 1, false, [.nils]⟩),
  (68, ⟨.struct [(0, 1, false), (1, 1, false), (2, 1, false)], 3, true, [.int .i64 0, .int .i64 0, .nils]⟩),
  (67, ⟨.slice 3 40 [.int .i64 0, .int .i64 0, .nils], 1, false, [.nils]⟩),
  (70, ⟨.slice 4 32 [.int .i64 0, .int .i64 0, .int .i64 0, .int .i64 0], 1, false, [.nils]⟩),
  (74, ⟨.struct [(0, 1, false), (1, 1, false), (2, 1, false), (3, 1, false)], 4, true, [.int .i64 0, .int .i64 0, .int .i64 0, .int .i64 0]⟩),
  (81, ⟨.other, 1, false, [.nilp]⟩),
  (85, ⟨.slice 1 1 [.int .u8 0], 1, false, [.nils]⟩),
  (105, ⟨.other, 1, false, [.nilp]⟩),
  (113, ⟨.struct [(0, 1, false), (1, 1, false)], 2, true, [.int .i64 0, .int .i64 0]⟩),
  (117, ⟨.struct [(0, 1, false), (1, 1, false), (2, 1, false), (3, 1, false), (4, 1, false)], 5, true, [.int .i64 0, .int .i64 0, .int .i64 0, .int .i64 0, .int .i64 0]⟩),
  (121, ⟨.other, 1, false, [.nilf]⟩),
  (125, ⟨.slice 6 48 [.int .i64 0, .int .i64 0, .int .i64 0, .int .i64 0, .int .i64 0, .int .i64 0], 1, false, [.nils]⟩),
  (127, ⟨.arr 6 1 false, 6, true, [.int .i64 0, .int .i64 0, .int .i64 0, .int .i64 0, .int .i64 0, .int .i64 0]⟩),
  (134, ⟨.struct [(0, 1, false), (1, 1, false), (2, 1, false)], 3, true, [.int .i64 0, .int .i64 0, .int .i64 0]⟩),
  (135, ⟨.other, 1, false, [.nilf]⟩),
  (136, ⟨.arr 4 1 false, 4, true, [.int .i64 0, .int .i64 0, .int .i64 0, .int .i64 0]⟩),
  (137, ⟨.other, 1, false, [.nilf]⟩)]
theorem tyL_ok : okL (tiOf Try.prog) tyL := ⟨by kernel_rfl, by kernel_rfl, by kernel_rfl, by kernel_rfl, by kernel_rfl, by kernel_rfl, by kernel_rfl, by kernel_rfl, by kernel_rfl, by kernel_rfl, by kernel_rfl, by kernel_rfl, by kernel_rfl, by kernel_rfl, by kernel_rfl, by kernel_rfl, by kernel_rfl, by kernel_rfl, by kernel_rfl, by kernel_rfl, by kernel_rfl, by kernel_rfl, by kernel_rfl, by kernel_rfl, by kernel_rfl, by kernel_rfl, by kernel_rfl, by kernel_rfl, by kernel_rfl, by kernel_rfl, trivial⟩
def eqL : List (Nat × List Nat) := [(74, [0, 0, 0, 0]), (117, [0, 0, 0, 0, 0]), (113, [0, 0])]
theorem eqL_ok : okL (eqOf Try.prog) eqL := ⟨by kernel_rfl, by kernel_rfl, by kernel_rfl, trivial⟩
def nlL : List (Nat × Nat) := [(25, 0), (3, 0), (5, 0), (9, 0), (74, 0), (117, 0), (113, 0), (4, 0), (22, 3)]
theorem nlL_ok : okN (nilOf Try.prog) nlL := ⟨by kernel_rfl, by kernel_rfl, by kernel_rfl, by kernel_rfl, by kernel_rfl, by kernel_rfl, by kernel_rfl, by kernel_rfl, by kernel_rfl, trivial⟩
noncomputable def ty : TT := ⟨lookT tyL (tiOf Try.prog), lookT eqL (eqOf Try.prog), lookN nlL (nilOf Try.prog)⟩
theorem ty_ok : ty = ttOf Try.prog := by
  unfold ty ttOf
  rw [lookT_eq tyL_ok, lookT_eq eqL_ok, lookN_eq nlL_ok]
def Wy (x : Int) : Prop := rng .u8 x
def Wi (x : Int) : Prop := rng .i64 x
theorem rdy : R.d Ey = (0 : Int) := rfl
theorem rdo : R.d Eo = false := rfl
theorem rdi : R.d Ei = (0 : Int) := rfl
theorem env : Env A R Try.prog ty fl := ⟨R_ok, ty_ok, fl_ok, by kernel_rfl⟩

abbrev tZ (a : Nat) : Operand := .tmp a
abbrev ciZ (k : Int) : Operand := .const (.int .i64 k)
abbrev mvZ (d a : Nat) : SO := ⟨some d, .move (.tmp a), none⟩
abbrev ldZ (d t a : Nat) : SO := ⟨some d, .load t (.tmp a), none⟩
abbrev faZ (d t a i : Nat) : SO := ⟨some d, .fieldAddr t (.tmp a) i, none⟩
abbrev iaZ (d t a b : Nat) : SO := ⟨some d, .indexAddr t (.tmp a) (.tmp b), none⟩
abbrev asZ (d a : Nat) : SO := ⟨some d, .assign (.tmp a), none⟩
abbrev exZ (d a i : Nat) : SO := ⟨some d, .extract (.tmp a) i, none⟩
abbrev boZ (d : Nat) (o : BinOp) (t a b r : Nat) : SO := ⟨some d, .binOp o t (.tmp a) (.tmp b) r, none⟩
abbrev bcZ (d : Nat) (o : BinOp) (t a : Nat) (k : Int) (r : Nat) : SO := ⟨some d, .binOp o t (.tmp a) (.const (.int .i64 k)) r, none⟩
abbrev stZ (t a b : Nat) : SO := ⟨none, .store t (.tmp a) (.tmp b), none⟩
abbrev gZ (g : Nat) (b : Bool) (s : SO) : SO := ⟨s.dst, s.op, some (g, b)⟩
abbrev rZ (d : Nat) (o : Op) : SO := ⟨some d, o, none⟩

end Go.Proofs.Ythkilkjngincpaa
namespace Go.Proofs.Ythkilkjngincpaa
open Go Go.Lite
set_option linter.unusedVariables false

/-- printworks/matrix.Size -/
def matrix_Size_r0 : List SO := [rZ 2 (.assign (ciZ 0)), rZ 3 (.assign (ciZ 0)), rZ 4 (.assign (ciZ 0)), rZ 5 (.assign (ciZ 0))]
def matrix_Size_r1 : List SO := [mvZ 6 0, rZ 7 (.call ⟨(.value (.func (35 : Nat))), #[(tZ 6)], #[3]⟩), rZ 8 (.unOp .not 4 (tZ 7))]
def matrix_Size_r2 : List SO := [rZ 2 (.assign (ciZ 0)), rZ 3 (.assign (ciZ 0)), rZ 4 (.assign (ciZ 0)), rZ 5 (.assign (ciZ 3))]
def matrix_Size_r3 : List SO := [mvZ 9 0, bcZ 10 .sub 3 9 2 3, mvZ 11 0, bcZ 12 .sub 3 11 2 3, boZ 13 .mul 3 10 12 3, bcZ 14 .quo 3 13 8 3, asZ 2 14]
def matrix_Size_r4 : List SO := [mvZ 15 2, bcZ 16 .quo 3 15 6 3, bcZ 17 .mul 3 16 2 3, rZ 18 (.call ⟨(.builtin .max), #[(ciZ 2), (tZ 17)], #[3, 3]⟩), asZ 3 18]
def matrix_Size_r5 : List SO := [mvZ 19 2, mvZ 20 3, mvZ 21 2, mvZ 22 3, boZ 23 .sub 3 21 22 3, bcZ 24 .sub 3 23 1 3, asZ 2 19, asZ 3 20, asZ 4 24, rZ 5 (.assign (ciZ 0))]
def matrix_Size_c : SF := ⟨25, (.seq (.reg matrix_Size_r0)
  (.seq (.seq (.reg matrix_Size_r1)
  (.cond (tZ 8) (.seq (.reg matrix_Size_r2)
  .ret) .skip))
  (.seq (.reg matrix_Size_r3)
  (.seq (.reg matrix_Size_r4)
  (.seq (.reg matrix_Size_r5)
  .ret))))), [.tmp 2, .tmp 3, .tmp 4, .tmp 5]⟩
theorem matrix_Size_s : slimF Try.prog 10 = some matrix_Size_c := by kernel_rfl
abbrev matrix_Size_f : Nat := 10
/-- printworks/matrix.Encode -/
def matrix_Encode_r0 : List SO := [rZ 4 (.alloc 29), rZ 5 (.assign (ciZ 0))]
def matrix_Encode_r1 : List SO := [mvZ 19 1, rZ 20 (.call ⟨(.value (.func (10 : Nat))), #[(tZ 19)], #[3]⟩), mvZ 18 20, exZ 21 18 0, exZ 22 18 1, exZ 23 18 2, exZ 24 18 3, asZ 6 21, asZ 7 22, asZ 8 23, asZ 9 24]
def matrix_Encode_r2 : List SO := [mvZ 25 9, bcZ 26 .neq 25 25 0 25]
def matrix_Encode_r3 : List SO := [rZ 27 (.build 29 #[]), mvZ 28 9, stZ 29 4 27, asZ 5 28]
def matrix_Encode_r4 : List SO := [mvZ 29 0, rZ 30 (.call ⟨(.builtin .len), #[(tZ 29)], #[22]⟩), mvZ 31 8, boZ 32 .gtr 3 30 31 3]
def matrix_Encode_r5 : List SO := [rZ 33 (.build 29 #[]), stZ 29 4 33, rZ 5 (.assign (ciZ 2))]
def matrix_Encode_r6 : List SO := [mvZ 34 6, mvZ 35 7, boZ 36 .sub 3 34 35 3, rZ 37 (.makeSlice 22 (tZ 36) (tZ 36)), asZ 10 37]
def matrix_Encode_r7 : List SO := [mvZ 38 10, mvZ 39 0, rZ 40 (.call ⟨(.builtin .len), #[(tZ 39)], #[22]⟩), rZ 41 (.convert 3 5 (tZ 40)), rZ 42 (.indexAddr 22 (tZ 38) (ciZ 0)), stZ 5 42 41]
def matrix_Encode_r8 : List SO := [mvZ 43 10, rZ 44 (.slice 22 (tZ 43) (some (ciZ 1)) none none), mvZ 45 0, rZ 46 (.call ⟨(.builtin .copy), #[(tZ 44), (tZ 45)], #[22, 22]⟩)]
def matrix_Encode_r9 : List SO := [mvZ 48 10, mvZ 49 7, rZ 50 (.call ⟨(.value (.func (17 : Nat))), #[(tZ 48), (tZ 49)], #[22, 3]⟩), mvZ 47 50, exZ 51 47 0, exZ 52 47 1, asZ 11 51, asZ 9 52]
def matrix_Encode_r10 : List SO := [mvZ 53 9, bcZ 54 .neq 25 53 0 25]
def matrix_Encode_r11 : List SO := [rZ 55 (.build 29 #[]), mvZ 56 9, stZ 29 4 55, asZ 5 56]
def matrix_Encode_r12 : List SO := [mvZ 57 1, mvZ 58 1, rZ 59 (.call ⟨(.value (.func (36 : Nat))), #[(tZ 57), (tZ 58)], #[3, 3]⟩), rZ 12 (.alloc 29), stZ 29 12 59]
def matrix_Encode_r13 : List SO := [rZ 13 (.assign (ciZ 0))]
def matrix_Encode_r14 : List SO := [mvZ 60 1, rZ 61 (.move (ciZ 0))]
def matrix_Encode_r15 : List SO := [boZ 62 .lss 3 61 60 3]
def matrix_Encode_r16 : List SO := [mvZ 63 61, asZ 14 63]
def matrix_Encode_r17 : List SO := [mvZ 64 1, rZ 65 (.move (ciZ 0))]
def matrix_Encode_r18 : List SO := [boZ 66 .lss 3 65 64 3]
def matrix_Encode_r19 : List SO := [mvZ 67 65, asZ 15 67]
def matrix_Encode_r20 : List SO := [mvZ 69 1, mvZ 70 15, mvZ 71 14, rZ 72 (.call ⟨(.value (.func (37 : Nat))), #[(tZ 69), (tZ 70), (tZ 71)], #[3, 3, 3]⟩), mvZ 68 72, exZ 73 68 0, exZ 74 68 1, asZ 16 73, asZ 17 74]
def matrix_Encode_r21 : List SO := [mvZ 75 17, rZ 76 (.unOp .not 4 (tZ 75))]
def matrix_Encode_r22 : List SO := [mvZ 77 13, mvZ 78 6, rZ 79 (.binOp .mul 3 (ciZ 8) (tZ 78) 3), boZ 80 .lss 3 77 79 3, mvZ 81 80, gZ 81 true (mvZ 82 11), gZ 81 true (mvZ 83 13), gZ 81 true (bcZ 84 .quo 3 83 8 3), gZ 81 true (iaZ 85 22 82 84), gZ 81 true (ldZ 86 5 85), gZ 81 true (mvZ 87 13), gZ 81 true (bcZ 88 .rem 3 87 8 3), gZ 81 true (rZ 89 (.binOp .sub 3 (ciZ 7) (tZ 88) 3)), gZ 81 true (boZ 90 .shr 5 86 89 3), gZ 81 true (rZ 91 (.binOp .and 5 (tZ 90) (.const (.int .u8 1)) 5)), gZ 81 true (rZ 92 (.binOp .eql 5 (tZ 91) (.const (.int .u8 1)) 5)), rZ 93 (.pick (tZ 81) (tZ 92) (.const (.bool false))), asZ 16 93]
def matrix_Encode_r23 : List SO := [mvZ 94 13, bcZ 95 .add 3 94 1 3, asZ 13 95]
def matrix_Encode_r24 : List SO := [mvZ 96 16]
def matrix_Encode_r25 : List SO := [mvZ 97 15, mvZ 98 14, rZ 99 (.call ⟨(.value (.func (38 : Nat))), #[(tZ 12), (tZ 97), (tZ 98)], #[81, 3, 3]⟩)]
def matrix_Encode_r26 : List SO := [bcZ 100 .add 3 65 1 3, mvZ 65 100]
def matrix_Encode_r27 : List SO := [bcZ 101 .add 3 61 1 3, mvZ 61 101]
def matrix_Encode_r28 : List SO := [ldZ 102 29 12, stZ 29 4 102, rZ 5 (.assign (ciZ 0))]
def matrix_Encode_c : SF := ⟨103, (.seq (.reg matrix_Encode_r0)
  (.seq (.reg matrix_Encode_r1)
  (.seq (.seq (.reg matrix_Encode_r2)
  (.cond (tZ 26) (.seq (.reg matrix_Encode_r3)
  .ret) .skip))
  (.seq (.seq (.reg matrix_Encode_r4)
  (.cond (tZ 32) (.seq (.reg matrix_Encode_r5)
  .ret) .skip))
  (.seq (.reg matrix_Encode_r6)
  (.seq (.reg matrix_Encode_r7)
  (.seq (.reg matrix_Encode_r8)
  (.seq (.reg matrix_Encode_r9)
  (.seq (.seq (.reg matrix_Encode_r10)
  (.cond (tZ 54) (.seq (.reg matrix_Encode_r11)
  .ret) .skip))
  (.seq (.reg matrix_Encode_r12)
  (.seq (.reg matrix_Encode_r13)
  (.seq (.seq (.reg matrix_Encode_r14)
  (.block 0 (.loop (.seq (.reg matrix_Encode_r15)
  (.seq (.cond (tZ 62) .skip (.exit 0))
  (.seq (.block 1 (.seq (.reg matrix_Encode_r16)
  (.seq (.reg matrix_Encode_r17)
  (.block 2 (.loop (.seq (.reg matrix_Encode_r18)
  (.seq (.cond (tZ 66) .skip (.exit 2))
  (.seq (.block 3 (.seq (.reg matrix_Encode_r19)
  (.seq (.reg matrix_Encode_r20)
  (.seq (.seq (.reg matrix_Encode_r21)
  (.cond (tZ 76) (.seq (.reg matrix_Encode_r22)
  (.reg matrix_Encode_r23)) .skip))
  (.seq (.reg matrix_Encode_r24)
  (.cond (tZ 96) (.reg matrix_Encode_r25) .skip))))))
  (.reg matrix_Encode_r26)))))))))
  (.reg matrix_Encode_r27)))))))
  (.seq (.reg matrix_Encode_r28)
  .ret))))))))))))), [.cell 4 29, .tmp 5]⟩
theorem matrix_Encode_s : slimF Try.prog 11 = some matrix_Encode_c := by kernel_rfl
abbrev matrix_Encode_f : Nat := 11
/-- printworks/matrix.Decode -/
def matrix_Decode_r0 : List SO := [rZ 1 (.box 29 (tZ 0)), rZ 2 (.assign (.const (.slice none 0 0))), rZ 3 (.assign (ciZ 0)), rZ 4 (.assign (ciZ 0)), rZ 5 (.assign (ciZ 0))]
def matrix_Decode_r1 : List SO := [ldZ 22 29 1, rZ 23 (.call ⟨(.value (.func (12 : Nat))), #[(tZ 22)], #[29]⟩), asZ 6 23]
def matrix_Decode_r2 : List SO := [mvZ 24 6, bcZ 25 .neq 25 24 0 25]
def matrix_Decode_r3 : List SO := [mvZ 26 6, rZ 2 (.assign (.const (.slice none 0 0))), rZ 3 (.assign (ciZ 0)), rZ 4 (.assign (ciZ 0)), asZ 5 26]
def matrix_Decode_r4 : List SO := [faZ 27 29 1 0, ldZ 28 3 27, faZ 29 29 1 1, ldZ 30 3 29, boZ 31 .neq 3 28 30 3, mvZ 32 31, gZ 32 false (faZ 33 29 1 0), gZ 32 false (ldZ 34 3 33), gZ 32 false (rZ 35 (.call ⟨(.value (.func (35 : Nat))), #[(tZ 34)], #[3]⟩)), gZ 32 false (rZ 36 (.unOp .not 4 (tZ 35))), rZ 37 (.pick (tZ 32) (.const (.bool true)) (tZ 36))]
def matrix_Decode_r5 : List SO := [rZ 2 (.assign (.const (.slice none 0 0))), rZ 3 (.assign (ciZ 0)), rZ 4 (.assign (ciZ 0)), rZ 5 (.assign (ciZ 4))]
def matrix_Decode_r6 : List SO := [rZ 39 (.call ⟨(.value (.func (50 : Nat))), #[(tZ 1)], #[81]⟩), mvZ 38 39, exZ 40 38 0, exZ 41 38 1, asZ 4 40, asZ 7 41]
def matrix_Decode_r7 : List SO := [mvZ 42 7, faZ 43 29 1 0, ldZ 44 3 43, bcZ 45 .quo 3 44 4 3, boZ 46 .gtr 3 42 45 3]
def matrix_Decode_r8 : List SO := [rZ 2 (.assign (.const (.slice none 0 0))), rZ 3 (.assign (ciZ 0)), rZ 4 (.assign (ciZ 0)), rZ 5 (.assign (ciZ 21))]
def matrix_Decode_r9 : List SO := [mvZ 47 4, rZ 48 (.call ⟨(.value (.func (49 : Nat))), #[(tZ 1), (tZ 47)], #[81, 3]⟩), rZ 8 (.alloc 29), stZ 29 8 48]
def matrix_Decode_r10 : List SO := [faZ 50 29 1 0, ldZ 51 3 50, rZ 52 (.call ⟨(.value (.func (10 : Nat))), #[(tZ 51)], #[3]⟩), mvZ 49 52, exZ 53 49 0, exZ 54 49 1, exZ 55 49 2, exZ 56 49 3, asZ 9 53, asZ 10 54, asZ 11 55, asZ 12 56]
def matrix_Decode_r11 : List SO := [mvZ 57 9, rZ 58 (.makeSlice 22 (tZ 57) (tZ 57)), asZ 13 58]
def matrix_Decode_r12 : List SO := [rZ 14 (.assign (ciZ 0))]
def matrix_Decode_r13 : List SO := [faZ 59 29 8 1, ldZ 60 3 59, rZ 61 (.move (ciZ 0))]
def matrix_Decode_r14 : List SO := [boZ 62 .lss 3 61 60 3]
def matrix_Decode_r15 : List SO := [mvZ 63 61, asZ 15 63]
def matrix_Decode_r16 : List SO := [faZ 64 29 8 0, ldZ 65 3 64, rZ 66 (.move (ciZ 0))]
def matrix_Decode_r17 : List SO := [boZ 67 .lss 3 66 65 3]
def matrix_Decode_r18 : List SO := [mvZ 68 66, asZ 16 68]
def matrix_Decode_r19 : List SO := [faZ 70 29 8 0, ldZ 71 3 70, mvZ 72 16, mvZ 73 15, rZ 74 (.call ⟨(.value (.func (37 : Nat))), #[(tZ 71), (tZ 72), (tZ 73)], #[3, 3, 3]⟩), mvZ 69 74, exZ 75 69 0, exZ 76 69 1, asZ 17 75, asZ 18 76]
def matrix_Decode_r20 : List SO := [mvZ 77 18]
def matrix_Decode_r21 : List SO := [mvZ 78 14, mvZ 79 9, rZ 80 (.binOp .mul 3 (ciZ 8) (tZ 79) 3), boZ 81 .lss 3 78 80 3, mvZ 82 81, gZ 82 true (mvZ 83 16), gZ 82 true (mvZ 84 15), gZ 82 true (rZ 85 (.call ⟨(.value (.func (51 : Nat))), #[(tZ 8), (tZ 83), (tZ 84)], #[81, 3, 3]⟩)), rZ 86 (.pick (tZ 82) (tZ 85) (.const (.bool false)))]
def matrix_Decode_r22 : List SO := [mvZ 87 13, mvZ 88 14, bcZ 89 .quo 3 88 8 3, iaZ 90 22 87 89, ldZ 91 5 90, mvZ 92 14, bcZ 93 .rem 3 92 8 3, rZ 94 (.binOp .shr 5 (.const (.int .u8 128)) (tZ 93) 3), boZ 95 .or 5 91 94 5, iaZ 96 22 87 89, stZ 5 96 95]
def matrix_Decode_a22 : List (List Nat) := [[], [], [1], [0, 2], [3], [], [5], [6], [4, 7], [0, 2, 0, 1, 2, 3, 4, 5, 6, 7, 8], [9, 8, 0, 1, 2, 3, 4, 5, 6, 7, 8]]
def matrix_Decode_r23 : List SO := [mvZ 97 14, bcZ 98 .add 3 97 1 3, asZ 14 98]
def matrix_Decode_r24 : List SO := [bcZ 99 .add 3 66 1 3, mvZ 66 99]
def matrix_Decode_r25 : List SO := [bcZ 100 .add 3 61 1 3, mvZ 61 100]
def matrix_Decode_r26 : List SO := [mvZ 102 13, mvZ 103 10, rZ 104 (.call ⟨(.value (.func (18 : Nat))), #[(tZ 102), (tZ 103), (.const (.slice none 0 0))], #[22, 3, 38]⟩), mvZ 101 104, exZ 105 101 0, exZ 106 101 1, exZ 107 101 2, asZ 13 105, asZ 3 106, asZ 5 107]
def matrix_Decode_r27 : List SO := [mvZ 108 5, bcZ 109 .neq 25 108 0 25]
def matrix_Decode_r28 : List SO := [mvZ 110 5, rZ 2 (.assign (.const (.slice none 0 0))), rZ 3 (.assign (ciZ 0)), rZ 4 (.assign (ciZ 0)), asZ 5 110]
def matrix_Decode_r29 : List SO := [mvZ 111 13, rZ 112 (.indexAddr 22 (tZ 111) (ciZ 0)), ldZ 113 5 112, rZ 114 (.convert 5 3 (tZ 113)), asZ 19 114]
def matrix_Decode_r30 : List SO := [mvZ 115 19, mvZ 116 11, boZ 117 .gtr 3 115 116 3]
def matrix_Decode_r31 : List SO := [rZ 2 (.assign (.const (.slice none 0 0))), rZ 3 (.assign (ciZ 0)), rZ 4 (.assign (ciZ 0)), rZ 5 (.assign (ciZ 4))]
def matrix_Decode_r32 : List SO := [mvZ 118 13, mvZ 119 19, rZ 120 (.binOp .add 3 (ciZ 1) (tZ 119) 3), mvZ 121 9, mvZ 122 10, boZ 123 .sub 3 121 122 3, rZ 124 (.slice 22 (tZ 118) (some (tZ 120)) (some (tZ 123)) none), rZ 125 (.call ⟨(.builtin .len), #[(tZ 124)], #[22]⟩), rZ 126 (.move (ciZ 0))]
def matrix_Decode_r33 : List SO := [boZ 127 .lss 3 126 125 3]
def matrix_Decode_r34 : List SO := [iaZ 128 22 124 126, ldZ 129 5 128, asZ 21 129]
def matrix_Decode_r35 : List SO := [mvZ 130 21, rZ 131 (.binOp .neq 5 (tZ 130) (.const (.int .u8 0)) 5)]
def matrix_Decode_r36 : List SO := [rZ 2 (.assign (.const (.slice none 0 0))), rZ 3 (.assign (ciZ 0)), rZ 4 (.assign (ciZ 0)), rZ 5 (.assign (ciZ 4))]
def matrix_Decode_r37 : List SO := [bcZ 132 .add 3 126 1 3, mvZ 126 132]
def matrix_Decode_r38 : List SO := [mvZ 133 13, mvZ 134 19, rZ 135 (.binOp .add 3 (ciZ 1) (tZ 134) 3), rZ 136 (.slice 22 (tZ 133) (some (ciZ 1)) (some (tZ 135)) none), rZ 137 (.call ⟨(.builtin .append), #[(.const (.slice none 0 0)), (tZ 136)], #[22, 22]⟩), mvZ 138 3, mvZ 139 4, asZ 2 137, asZ 3 138, asZ 4 139, rZ 5 (.assign (ciZ 0))]
def matrix_Decode_c : SF := ⟨140, (.seq (.reg matrix_Decode_r0)
  (.seq (.seq (.reg matrix_Decode_r1)
  (.seq (.reg matrix_Decode_r2)
  (.cond (tZ 25) (.seq (.reg matrix_Decode_r3)
  .ret) .skip)))
  (.seq (.seq (.reg matrix_Decode_r4)
  (.cond (tZ 37) (.seq (.reg matrix_Decode_r5)
  .ret) .skip))
  (.seq (.reg matrix_Decode_r6)
  (.seq (.seq (.reg matrix_Decode_r7)
  (.cond (tZ 46) (.seq (.reg matrix_Decode_r8)
  .ret) .skip))
  (.seq (.reg matrix_Decode_r9)
  (.seq (.reg matrix_Decode_r10)
  (.seq (.reg matrix_Decode_r11)
  (.seq (.reg matrix_Decode_r12)
  (.seq (.seq (.reg matrix_Decode_r13)
  (.block 0 (.loop (.seq (.reg matrix_Decode_r14)
  (.seq (.cond (tZ 62) .skip (.exit 0))
  (.seq (.block 1 (.seq (.reg matrix_Decode_r15)
  (.seq (.reg matrix_Decode_r16)
  (.block 2 (.loop (.seq (.reg matrix_Decode_r17)
  (.seq (.cond (tZ 67) .skip (.exit 2))
  (.seq (.block 3 (.seq (.reg matrix_Decode_r18)
  (.seq (.seq (.reg matrix_Decode_r19)
  (.seq (.reg matrix_Decode_r20)
  (.cond (tZ 77) (.exit 3) .skip)))
  (.seq (.seq (.reg matrix_Decode_r21)
  (.cond (tZ 86) (.regd matrix_Decode_r22 matrix_Decode_a22) .skip))
  (.reg matrix_Decode_r23)))))
  (.reg matrix_Decode_r24)))))))))
  (.reg matrix_Decode_r25)))))))
  (.seq (.reg matrix_Decode_r26)
  (.seq (.seq (.reg matrix_Decode_r27)
  (.cond (tZ 109) (.seq (.reg matrix_Decode_r28)
  .ret) .skip))
  (.seq (.reg matrix_Decode_r29)
  (.seq (.seq (.reg matrix_Decode_r30)
  (.cond (tZ 117) (.seq (.reg matrix_Decode_r31)
  .ret) .skip))
  (.seq (.seq (.reg matrix_Decode_r32)
  (.block 4 (.loop (.seq (.reg matrix_Decode_r33)
  (.seq (.cond (tZ 127) .skip (.exit 4))
  (.seq (.block 5 (.seq (.reg matrix_Decode_r34)
  (.seq (.reg matrix_Decode_r35)
  (.cond (tZ 131) (.seq (.reg matrix_Decode_r36)
  .ret) .skip))))
  (.reg matrix_Decode_r37)))))))
  (.seq (.reg matrix_Decode_r38)
  .ret)))))))))))))))), [.tmp 2, .tmp 3, .tmp 4, .tmp 5]⟩
theorem matrix_Decode_s : slimF Try.prog 22 = some matrix_Decode_c := by kernel_rfl
abbrev matrix_Decode_f : Nat := 22
/-- printworks/matrix.isSide -/
def matrix_isSide_r0 : List SO := [rZ 2 (.assign (.const (.bool false)))]
def matrix_isSide_r1 : List SO := [mvZ 3 0, bcZ 4 .geq 3 3 8 3, mvZ 5 4, gZ 5 true (mvZ 6 0), gZ 5 true (bcZ 7 .leq 3 6 32 3), rZ 8 (.pick (tZ 5) (tZ 7) (.const (.bool false))), mvZ 9 8, gZ 9 true (mvZ 10 0), gZ 9 true (bcZ 11 .rem 3 10 2 3), gZ 9 true (bcZ 12 .eql 3 11 0 3), rZ 13 (.pick (tZ 9) (tZ 12) (.const (.bool false))), asZ 2 13]
def matrix_isSide_c : SF := ⟨14, (.seq (.reg matrix_isSide_r0)
  (.seq (.reg matrix_isSide_r1)
  .ret)), [.tmp 2]⟩
theorem matrix_isSide_s : slimF Try.prog 35 = some matrix_isSide_c := by kernel_rfl
abbrev matrix_isSide_f : Nat := 35
/-- printworks/matrix.dark -/
def matrix_dark_r0 : List SO := [rZ 6 (.assign (.const (.bool false))), rZ 7 (.assign (.const (.bool false)))]
def matrix_dark_r1 : List SO := [mvZ 9 1, bcZ 10 .eql 3 9 0 3, mvZ 11 10, gZ 11 false (mvZ 12 2), gZ 11 false (mvZ 13 0), gZ 11 false (bcZ 14 .sub 3 13 1 3), gZ 11 false (boZ 15 .eql 3 12 14 3), rZ 16 (.pick (tZ 11) (.const (.bool true)) (tZ 15)), asZ 8 16]
def matrix_dark_r2 : List SO := [rZ 6 (.assign (.const (.bool true))), rZ 7 (.assign (.const (.bool true)))]
def matrix_dark_r3 : List SO := [mvZ 18 2, bcZ 19 .eql 3 18 0 3, asZ 17 19]
def matrix_dark_r4 : List SO := [mvZ 20 1, bcZ 21 .rem 3 20 2 3, bcZ 22 .eql 3 21 0 3, asZ 6 22, rZ 7 (.assign (.const (.bool true)))]
def matrix_dark_r5 : List SO := [mvZ 24 1, mvZ 25 0, bcZ 26 .sub 3 25 1 3, boZ 27 .eql 3 24 26 3, asZ 23 27]
def matrix_dark_r6 : List SO := [mvZ 28 0, bcZ 29 .sub 3 28 1 3, mvZ 30 2, boZ 31 .sub 3 29 30 3, bcZ 32 .rem 3 31 2 3, bcZ 33 .eql 3 32 0 3, asZ 6 33, rZ 7 (.assign (.const (.bool true)))]
def matrix_dark_r7 : List SO := [rZ 6 (.assign (.const (.bool false))), rZ 7 (.assign (.const (.bool false)))]
def matrix_dark_c : SF := ⟨34, (.seq (.reg matrix_dark_r0)
  (.seq (.block 0 (.seq (.reg matrix_dark_r1)
  (.cond (tZ 8) (.seq (.reg matrix_dark_r2)
  .ret) (.seq (.reg matrix_dark_r3)
  (.cond (tZ 17) (.seq (.reg matrix_dark_r4)
  .ret) (.seq (.reg matrix_dark_r5)
  (.cond (tZ 23) (.seq (.reg matrix_dark_r6)
  .ret) .skip)))))))
  (.seq (.reg matrix_dark_r7)
  .ret))), [.tmp 6, .tmp 7]⟩
theorem matrix_dark_s : slimF Try.prog 37 = some matrix_dark_c := by kernel_rfl
abbrev matrix_dark_f : Nat := 37
/-- printworks/matrix.Border -/
def matrix_Border_r0 : List SO := [rZ 2 (.assign (ciZ 0)), rZ 3 (.assign (ciZ 0))]
def matrix_Border_r1 : List SO := [mvZ 11 0, rZ 12 (.nilCheck (tZ 11)), faZ 13 29 12 0, ldZ 14 3 13, rZ 15 (.binOp .mul 3 (ciZ 4) (tZ 14) 3), asZ 3 15]
def matrix_Border_r2 : List SO := [rZ 16 (.move (ciZ 0))]
def matrix_Border_r3 : List SO := [bcZ 17 .lss 3 16 4 3]
def matrix_Border_r4 : List SO := [mvZ 18 16, asZ 4 18]
def matrix_Border_r5 : List SO := [mvZ 19 0, mvZ 20 4, rZ 21 (.call ⟨(.value (.func (49 : Nat))), #[(tZ 19), (tZ 20)], #[81, 3]⟩), rZ 5 (.alloc 29), stZ 29 5 21]
def matrix_Border_r6 : List SO := [rZ 6 (.assign (ciZ 0))]
def matrix_Border_r7 : List SO := [faZ 22 29 5 1, ldZ 23 3 22, rZ 24 (.move (ciZ 0))]
def matrix_Border_r8 : List SO := [boZ 25 .lss 3 24 23 3]
def matrix_Border_r9 : List SO := [mvZ 26 24, asZ 7 26]
def matrix_Border_r10 : List SO := [faZ 27 29 5 0, ldZ 28 3 27, rZ 29 (.move (ciZ 0))]
def matrix_Border_r11 : List SO := [boZ 30 .lss 3 29 28 3]
def matrix_Border_r12 : List SO := [mvZ 31 29, asZ 8 31]
def matrix_Border_r13 : List SO := [faZ 33 29 5 0, ldZ 34 3 33, mvZ 35 8, mvZ 36 7, rZ 37 (.call ⟨(.value (.func (37 : Nat))), #[(tZ 34), (tZ 35), (tZ 36)], #[3, 3, 3]⟩), mvZ 32 37, exZ 38 32 0, exZ 39 32 1, asZ 9 38, asZ 10 39]
def matrix_Border_r14 : List SO := [mvZ 40 10, mvZ 41 40, gZ 41 true (mvZ 42 9), gZ 41 true (mvZ 43 8), gZ 41 true (mvZ 44 7), gZ 41 true (rZ 45 (.call ⟨(.value (.func (51 : Nat))), #[(tZ 5), (tZ 43), (tZ 44)], #[81, 3, 3]⟩)), gZ 41 true (boZ 46 .neq 4 42 45 4), rZ 47 (.pick (tZ 41) (tZ 46) (.const (.bool false)))]
def matrix_Border_r15 : List SO := [mvZ 48 6, bcZ 49 .add 3 48 1 3, asZ 6 49]
def matrix_Border_r16 : List SO := [bcZ 50 .add 3 29 1 3, mvZ 29 50]
def matrix_Border_r17 : List SO := [bcZ 51 .add 3 24 1 3, mvZ 24 51]
def matrix_Border_r18 : List SO := [mvZ 52 6, mvZ 53 3, boZ 54 .lss 3 52 53 3]
def matrix_Border_r19 : List SO := [mvZ 55 4, mvZ 56 6, asZ 2 55, asZ 3 56]
def matrix_Border_r20 : List SO := [bcZ 57 .add 3 16 1 3, mvZ 16 57]
def matrix_Border_r21 : List SO := [mvZ 58 2, mvZ 59 3, asZ 2 58, asZ 3 59]
def matrix_Border_c : SF := ⟨60, (.seq (.reg matrix_Border_r0)
  (.seq (.reg matrix_Border_r1)
  (.seq (.seq (.reg matrix_Border_r2)
  (.block 0 (.loop (.seq (.reg matrix_Border_r3)
  (.seq (.cond (tZ 17) .skip (.exit 0))
  (.seq (.block 1 (.seq (.reg matrix_Border_r4)
  (.seq (.reg matrix_Border_r5)
  (.seq (.reg matrix_Border_r6)
  (.seq (.seq (.reg matrix_Border_r7)
  (.block 2 (.loop (.seq (.reg matrix_Border_r8)
  (.seq (.cond (tZ 25) .skip (.exit 2))
  (.seq (.block 3 (.seq (.reg matrix_Border_r9)
  (.seq (.reg matrix_Border_r10)
  (.block 4 (.loop (.seq (.reg matrix_Border_r11)
  (.seq (.cond (tZ 30) .skip (.exit 4))
  (.seq (.block 5 (.seq (.reg matrix_Border_r12)
  (.seq (.reg matrix_Border_r13)
  (.seq (.reg matrix_Border_r14)
  (.cond (tZ 47) (.reg matrix_Border_r15) .skip)))))
  (.reg matrix_Border_r16)))))))))
  (.reg matrix_Border_r17)))))))
  (.seq (.reg matrix_Border_r18)
  (.cond (tZ 54) (.reg matrix_Border_r19) .skip)))))))
  (.reg matrix_Border_r20)))))))
  (.seq (.reg matrix_Border_r21)
  .ret)))), [.tmp 2, .tmp 3]⟩
theorem matrix_Border_s : slimF Try.prog 50 = some matrix_Border_c := by kernel_rfl
abbrev matrix_Border_f : Nat := 50

end Go.Proofs.Ythkilkjngincpaa
namespace Go.Proofs.Ythkilkjngincpaa
open Go Go.Lite
set_option linter.unusedVariables false

/-- printworks/reedsolomon.Encode -/
def reedsolomon_Encode_r0 : List SO := [rZ 4 (.assign (.const (.slice none 0 0))), rZ 5 (.assign (ciZ 0))]
def reedsolomon_Encode_r1 : List SO := [mvZ 13 1, bcZ 14 .lss 3 13 1 3, mvZ 15 14, gZ 15 false (mvZ 16 1), gZ 15 false (bcZ 17 .gtr 3 16 64 3), rZ 18 (.pick (tZ 15) (.const (.bool true)) (tZ 17))]
def reedsolomon_Encode_r2 : List SO := [rZ 4 (.assign (.const (.slice none 0 0))), rZ 5 (.assign (ciZ 3))]
def reedsolomon_Encode_r3 : List SO := [mvZ 19 0, rZ 20 (.call ⟨(.builtin .len), #[(tZ 19)], #[22]⟩), bcZ 21 .eql 3 20 0 3]
def reedsolomon_Encode_r4 : List SO := [rZ 4 (.assign (.const (.slice none 0 0))), rZ 5 (.assign (ciZ 1))]
def reedsolomon_Encode_r5 : List SO := [mvZ 22 0, rZ 23 (.call ⟨(.builtin .len), #[(tZ 22)], #[22]⟩), mvZ 24 1, boZ 25 .add 3 23 24 3, bcZ 26 .gtr 3 25 255 3]
def reedsolomon_Encode_r6 : List SO := [rZ 4 (.assign (.const (.slice none 0 0))), rZ 5 (.assign (ciZ 2))]
def reedsolomon_Encode_r7 : List SO := [rZ 27 (.buildSlice 85 1 #[(0, (.const (.int .u8 1)))]), asZ 6 27]
def reedsolomon_Encode_r8 : List SO := [mvZ 28 1, rZ 29 (.move (ciZ 0))]
def reedsolomon_Encode_r9 : List SO := [boZ 30 .lss 3 29 28 3]
def reedsolomon_Encode_r10 : List SO := [mvZ 31 29, asZ 7 31]
def reedsolomon_Encode_r11 : List SO := [mvZ 32 6, mvZ 33 7, rZ 34 (.call ⟨(.value (.func (46 : Nat))), #[(.const (.int .u8 2)), (tZ 33)], #[5, 3]⟩), rZ 35 (.buildSlice 85 2 #[(0, (tZ 34)), (1, (.const (.int .u8 1)))]), mvZ 36 1, bcZ 37 .add 3 36 1 3, rZ 38 (.call ⟨(.value (.func (45 : Nat))), #[(tZ 32), (tZ 35), (tZ 37)], #[85, 85, 3]⟩), asZ 6 38]
def reedsolomon_Encode_r12 : List SO := [bcZ 39 .add 3 29 1 3, mvZ 29 39]
def reedsolomon_Encode_r13 : List SO := [mvZ 40 1, rZ 41 (.makeSlice 22 (tZ 40) (tZ 40)), asZ 8 41]
def reedsolomon_Encode_r14 : List SO := [mvZ 42 0, rZ 43 (.call ⟨(.builtin .len), #[(tZ 42)], #[22]⟩), rZ 44 (.move (ciZ 0))]
def reedsolomon_Encode_r15 : List SO := [boZ 45 .lss 3 44 43 3]
def reedsolomon_Encode_r16 : List SO := [iaZ 46 22 42 44, ldZ 47 5 46, asZ 10 47]
def reedsolomon_Encode_r17 : List SO := [mvZ 48 10, mvZ 49 8, rZ 50 (.indexAddr 22 (tZ 49) (ciZ 0)), ldZ 51 5 50, boZ 52 .xor 5 48 51 5, asZ 11 52]
def reedsolomon_Encode_r18 : List SO := [mvZ 53 8, mvZ 54 8, rZ 55 (.slice 22 (tZ 54) (some (ciZ 1)) none none), rZ 56 (.call ⟨(.builtin .copy), #[(tZ 53), (tZ 55)], #[22, 22]⟩)]
def reedsolomon_Encode_r19 : List SO := [mvZ 57 8, mvZ 58 1, bcZ 59 .sub 3 58 1 3, iaZ 60 22 57 59, ⟨none, .store 5 (tZ 60) (.const (.int .u8 0)), none⟩]
def reedsolomon_Encode_r20 : List SO := [mvZ 61 8, rZ 62 (.call ⟨(.builtin .len), #[(tZ 61)], #[22]⟩), rZ 63 (.move (ciZ 0))]
def reedsolomon_Encode_r21 : List SO := [boZ 64 .lss 3 63 62 3]
def reedsolomon_Encode_r22 : List SO := [mvZ 65 63, asZ 12 65]
def reedsolomon_Encode_r23 : List SO := [mvZ 66 8, mvZ 67 12, iaZ 68 22 66 67, ldZ 69 5 68, mvZ 70 11, mvZ 71 6, mvZ 72 1, bcZ 73 .sub 3 72 1 3, mvZ 74 12, boZ 75 .sub 3 73 74 3, iaZ 76 85 71 75, ldZ 77 5 76, rZ 78 (.call ⟨(.value (.func (44 : Nat))), #[(tZ 70), (tZ 77)], #[5, 5]⟩), boZ 79 .xor 5 69 78 5, iaZ 80 22 66 67, stZ 5 80 79]
def reedsolomon_Encode_a23 : List (List Nat) := [[], [], [0, 1], [2], [], [], [], [6], [], [7, 8], [5, 9], [10], [4, 11], [3, 12], [0, 1, 0, 1, 2, 3, 4, 5, 6, 7, 8, 9, 10, 11, 12, 13], [14, 13, 12, 0, 1, 2, 3, 4, 5, 6, 7, 8, 9, 10, 11, 12, 13]]
def reedsolomon_Encode_r24 : List SO := [bcZ 81 .add 3 63 1 3, mvZ 63 81]
def reedsolomon_Encode_r25 : List SO := [bcZ 82 .add 3 44 1 3, mvZ 44 82]
def reedsolomon_Encode_r26 : List SO := [mvZ 83 0, rZ 84 (.call ⟨(.builtin .append), #[(.const (.slice none 0 0)), (tZ 83)], #[22, 22]⟩), mvZ 85 8, rZ 86 (.call ⟨(.builtin .append), #[(tZ 84), (tZ 85)], #[22, 22]⟩), asZ 4 86, rZ 5 (.assign (ciZ 0))]
def reedsolomon_Encode_c : SF := ⟨87, (.seq (.reg reedsolomon_Encode_r0)
  (.seq (.seq (.reg reedsolomon_Encode_r1)
  (.cond (tZ 18) (.seq (.reg reedsolomon_Encode_r2)
  .ret) .skip))
  (.seq (.seq (.reg reedsolomon_Encode_r3)
  (.cond (tZ 21) (.seq (.reg reedsolomon_Encode_r4)
  .ret) .skip))
  (.seq (.seq (.reg reedsolomon_Encode_r5)
  (.cond (tZ 26) (.seq (.reg reedsolomon_Encode_r6)
  .ret) .skip))
  (.seq (.reg reedsolomon_Encode_r7)
  (.seq (.seq (.reg reedsolomon_Encode_r8)
  (.block 0 (.loop (.seq (.reg reedsolomon_Encode_r9)
  (.seq (.cond (tZ 30) .skip (.exit 0))
  (.seq (.block 1 (.seq (.reg reedsolomon_Encode_r10)
  (.reg reedsolomon_Encode_r11)))
  (.reg reedsolomon_Encode_r12)))))))
  (.seq (.reg reedsolomon_Encode_r13)
  (.seq (.seq (.reg reedsolomon_Encode_r14)
  (.block 2 (.loop (.seq (.reg reedsolomon_Encode_r15)
  (.seq (.cond (tZ 45) .skip (.exit 2))
  (.seq (.block 3 (.seq (.reg reedsolomon_Encode_r16)
  (.seq (.reg reedsolomon_Encode_r17)
  (.seq (.reg reedsolomon_Encode_r18)
  (.seq (.reg reedsolomon_Encode_r19)
  (.seq (.reg reedsolomon_Encode_r20)
  (.block 4 (.loop (.seq (.reg reedsolomon_Encode_r21)
  (.seq (.cond (tZ 64) .skip (.exit 4))
  (.seq (.block 5 (.seq (.reg reedsolomon_Encode_r22)
  (.regd reedsolomon_Encode_r23 reedsolomon_Encode_a23)))
  (.reg reedsolomon_Encode_r24))))))))))))
  (.reg reedsolomon_Encode_r25)))))))
  (.seq (.reg reedsolomon_Encode_r26)
  .ret))))))))), [.tmp 4, .tmp 5]⟩
theorem reedsolomon_Encode_s : slimF Try.prog 17 = some reedsolomon_Encode_c := by kernel_rfl
abbrev reedsolomon_Encode_f : Nat := 17
/-- printworks/reedsolomon.Decode -/
def reedsolomon_Decode_r0 : List SO := [rZ 6 (.assign (.const (.slice none 0 0))), rZ 7 (.assign (ciZ 0)), rZ 8 (.assign (ciZ 0))]
def reedsolomon_Decode_r1 : List SO := [mvZ 21 0, mvZ 22 1, rZ 23 (.call ⟨(.value (.func (41 : Nat))), #[(tZ 21), (tZ 22)], #[22, 3]⟩), asZ 9 23]
def reedsolomon_Decode_r2 : List SO := [mvZ 24 9, bcZ 25 .neq 25 24 0 25]
def reedsolomon_Decode_r3 : List SO := [mvZ 26 9, rZ 6 (.assign (.const (.slice none 0 0))), rZ 7 (.assign (ciZ 0)), asZ 8 26]
def reedsolomon_Decode_r4 : List SO := [mvZ 27 0, rZ 28 (.call ⟨(.builtin .len), #[(tZ 27)], #[22]⟩), rZ 29 (.makeSlice 41 (tZ 28) (tZ 28)), asZ 10 29]
def reedsolomon_Decode_r5 : List SO := [rZ 30 (.buildSlice 85 1 #[(0, (.const (.int .u8 1)))]), asZ 11 30]
def reedsolomon_Decode_r6 : List SO := [mvZ 31 2, rZ 32 (.call ⟨(.builtin .len), #[(tZ 31)], #[38]⟩), rZ 33 (.move (ciZ 0))]
def reedsolomon_Decode_r7 : List SO := [boZ 34 .lss 3 33 32 3]
def reedsolomon_Decode_r8 : List SO := [iaZ 35 38 31 33, ldZ 36 3 35, asZ 13 36]
def reedsolomon_Decode_r9 : List SO := [mvZ 37 13, bcZ 38 .lss 3 37 0 3, mvZ 39 38, gZ 39 false (mvZ 40 13), gZ 39 false (mvZ 41 0), gZ 39 false (rZ 42 (.call ⟨(.builtin .len), #[(tZ 41)], #[22]⟩)), gZ 39 false (boZ 43 .geq 3 40 42 3), rZ 44 (.pick (tZ 39) (.const (.bool true)) (tZ 43))]
def reedsolomon_Decode_r10 : List SO := [rZ 6 (.assign (.const (.slice none 0 0))), rZ 7 (.assign (ciZ 0)), rZ 8 (.assign (ciZ 3))]
def reedsolomon_Decode_r11 : List SO := [mvZ 45 10, mvZ 46 13, iaZ 47 41 45 46, ldZ 48 4 47]
def reedsolomon_Decode_r12 : List SO := [rZ 6 (.assign (.const (.slice none 0 0))), rZ 7 (.assign (ciZ 0)), rZ 8 (.assign (ciZ 7))]
def reedsolomon_Decode_r13 : List SO := [mvZ 49 10, mvZ 50 13, iaZ 51 41 49 50, ⟨none, .store 4 (tZ 51) (.const (.bool true)), none⟩]
def reedsolomon_Decode_r14 : List SO := [mvZ 52 11, mvZ 53 0, rZ 54 (.call ⟨(.builtin .len), #[(tZ 53)], #[22]⟩), bcZ 55 .sub 3 54 1 3, mvZ 56 13, boZ 57 .sub 3 55 56 3, rZ 58 (.call ⟨(.value (.func (46 : Nat))), #[(.const (.int .u8 2)), (tZ 57)], #[5, 3]⟩), rZ 59 (.buildSlice 85 2 #[(0, (.const (.int .u8 1))), (1, (tZ 58))]), rZ 60 (.call ⟨(.value (.func (45 : Nat))), #[(tZ 52), (tZ 59), (ciZ 256)], #[85, 85, 3]⟩), asZ 11 60]
def reedsolomon_Decode_r15 : List SO := [bcZ 61 .add 3 33 1 3, mvZ 33 61]
def reedsolomon_Decode_r16 : List SO := [mvZ 62 2, rZ 63 (.call ⟨(.builtin .len), #[(tZ 62)], #[38]⟩), mvZ 64 1, boZ 65 .gtr 3 63 64 3]
def reedsolomon_Decode_r17 : List SO := [rZ 6 (.assign (.const (.slice none 0 0))), rZ 7 (.assign (ciZ 0)), rZ 8 (.assign (ciZ 21))]
def reedsolomon_Decode_r18 : List SO := [mvZ 66 0, rZ 67 (.call ⟨(.builtin .append), #[(.const (.slice none 0 0)), (tZ 66)], #[22, 22]⟩), asZ 14 67]
def reedsolomon_Decode_r19 : List SO := [mvZ 69 0, mvZ 70 1, rZ 71 (.call ⟨(.value (.func (42 : Nat))), #[(tZ 69), (tZ 70)], #[22, 3]⟩), mvZ 68 71, exZ 72 68 0, exZ 73 68 1, asZ 15 72, asZ 16 73]
def reedsolomon_Decode_r20 : List SO := [mvZ 74 16]
def reedsolomon_Decode_r21 : List SO := [mvZ 75 14, asZ 6 75, rZ 7 (.assign (ciZ 0)), rZ 8 (.assign (ciZ 0))]
def reedsolomon_Decode_r22 : List SO := [mvZ 76 14, mvZ 77 15, mvZ 78 15, mvZ 79 11, mvZ 80 2, rZ 81 (.call ⟨(.builtin .len), #[(tZ 80)], #[38]⟩), rZ 82 (.call ⟨(.value (.func (48 : Nat))), #[(tZ 78), (tZ 79), (tZ 81)], #[85, 85, 3]⟩), rZ 83 (.call ⟨(.value (.func (47 : Nat))), #[(tZ 76), (tZ 77), (tZ 82)], #[22, 85, 85]⟩)]
def reedsolomon_Decode_r23 : List SO := [rZ 17 (.assign (ciZ 0)), rZ 18 (.assign (ciZ 0))]
def reedsolomon_Decode_r24 : List SO := [mvZ 84 14, rZ 85 (.call ⟨(.builtin .len), #[(tZ 84)], #[22]⟩), rZ 86 (.move (ciZ 0))]
def reedsolomon_Decode_r25 : List SO := [boZ 87 .lss 3 86 85 3]
def reedsolomon_Decode_r26 : List SO := [mvZ 88 86, iaZ 89 22 84 86, ldZ 90 5 89, asZ 19 88, asZ 20 90]
def reedsolomon_Decode_r27 : List SO := [mvZ 91 20, mvZ 92 0, mvZ 93 19, iaZ 94 22 92 93, ldZ 95 5 94, boZ 96 .neq 5 91 95 5]
def reedsolomon_Decode_r28 : List SO := [mvZ 97 17, bcZ 98 .add 3 97 1 3, asZ 17 98]
def reedsolomon_Decode_r29 : List SO := [mvZ 99 10, mvZ 100 19, iaZ 101 41 99 100, ldZ 102 4 101, rZ 103 (.unOp .not 4 (tZ 102))]
def reedsolomon_Decode_r30 : List SO := [mvZ 104 18, bcZ 105 .add 3 104 1 3, asZ 18 105]
def reedsolomon_Decode_r31 : List SO := [bcZ 106 .add 3 86 1 3, mvZ 86 106]
def reedsolomon_Decode_r32 : List SO := [mvZ 108 14, mvZ 109 1, rZ 110 (.call ⟨(.value (.func (42 : Nat))), #[(tZ 108), (tZ 109)], #[22, 3]⟩), mvZ 107 110, exZ 111 107 0, exZ 112 107 1, asZ 16 112]
def reedsolomon_Decode_r33 : List SO := [mvZ 113 16, rZ 114 (.unOp .not 4 (tZ 113)), mvZ 115 114, gZ 115 false (mvZ 116 18), gZ 115 false (rZ 117 (.binOp .mul 3 (ciZ 2) (tZ 116) 3)), gZ 115 false (mvZ 118 1), gZ 115 false (mvZ 119 2), gZ 115 false (rZ 120 (.call ⟨(.builtin .len), #[(tZ 119)], #[38]⟩)), gZ 115 false (boZ 121 .sub 3 118 120 3), gZ 115 false (boZ 122 .gtr 3 117 121 3), rZ 123 (.pick (tZ 115) (.const (.bool true)) (tZ 122))]
def reedsolomon_Decode_r34 : List SO := [rZ 6 (.assign (.const (.slice none 0 0))), rZ 7 (.assign (ciZ 0)), rZ 8 (.assign (ciZ 21))]
def reedsolomon_Decode_r35 : List SO := [mvZ 124 14, mvZ 125 17, asZ 6 124, asZ 7 125, rZ 8 (.assign (ciZ 0))]
def reedsolomon_Decode_c : SF := ⟨126, (.seq (.reg reedsolomon_Decode_r0)
  (.seq (.seq (.reg reedsolomon_Decode_r1)
  (.seq (.reg reedsolomon_Decode_r2)
  (.cond (tZ 25) (.seq (.reg reedsolomon_Decode_r3)
  .ret) .skip)))
  (.seq (.reg reedsolomon_Decode_r4)
  (.seq (.reg reedsolomon_Decode_r5)
  (.seq (.seq (.reg reedsolomon_Decode_r6)
  (.block 0 (.loop (.seq (.reg reedsolomon_Decode_r7)
  (.seq (.cond (tZ 34) .skip (.exit 0))
  (.seq (.block 1 (.seq (.reg reedsolomon_Decode_r8)
  (.seq (.seq (.reg reedsolomon_Decode_r9)
  (.cond (tZ 44) (.seq (.reg reedsolomon_Decode_r10)
  .ret) .skip))
  (.seq (.seq (.reg reedsolomon_Decode_r11)
  (.cond (tZ 48) (.seq (.reg reedsolomon_Decode_r12)
  .ret) .skip))
  (.seq (.reg reedsolomon_Decode_r13)
  (.reg reedsolomon_Decode_r14))))))
  (.reg reedsolomon_Decode_r15)))))))
  (.seq (.seq (.reg reedsolomon_Decode_r16)
  (.cond (tZ 65) (.seq (.reg reedsolomon_Decode_r17)
  .ret) .skip))
  (.seq (.reg reedsolomon_Decode_r18)
  (.seq (.reg reedsolomon_Decode_r19)
  (.seq (.seq (.reg reedsolomon_Decode_r20)
  (.cond (tZ 74) (.seq (.reg reedsolomon_Decode_r21)
  .ret) .skip))
  (.seq (.reg reedsolomon_Decode_r22)
  (.seq (.reg reedsolomon_Decode_r23)
  (.seq (.seq (.reg reedsolomon_Decode_r24)
  (.block 2 (.loop (.seq (.reg reedsolomon_Decode_r25)
  (.seq (.cond (tZ 87) .skip (.exit 2))
  (.seq (.block 3 (.seq (.reg reedsolomon_Decode_r26)
  (.seq (.reg reedsolomon_Decode_r27)
  (.cond (tZ 96) (.seq (.reg reedsolomon_Decode_r28)
  (.seq (.reg reedsolomon_Decode_r29)
  (.cond (tZ 103) (.reg reedsolomon_Decode_r30) .skip))) .skip))))
  (.reg reedsolomon_Decode_r31)))))))
  (.seq (.seq (.reg reedsolomon_Decode_r32)
  (.seq (.reg reedsolomon_Decode_r33)
  (.cond (tZ 123) (.seq (.reg reedsolomon_Decode_r34)
  .ret) .skip)))
  (.seq (.reg reedsolomon_Decode_r35)
  .ret)))))))))))))), [.tmp 6, .tmp 7, .tmp 8]⟩
theorem reedsolomon_Decode_s : slimF Try.prog 18 = some reedsolomon_Decode_c := by kernel_rfl
abbrev reedsolomon_Decode_f : Nat := 18
/-- printworks/reedsolomon.check -/
def reedsolomon_check_r0 : List SO := [rZ 4 (.assign (ciZ 0))]
def reedsolomon_check_r1 : List SO := [mvZ 6 1, bcZ 7 .lss 3 6 1 3, mvZ 8 7, gZ 8 false (mvZ 9 1), gZ 8 false (bcZ 10 .gtr 3 9 64 3), rZ 11 (.pick (tZ 8) (.const (.bool true)) (tZ 10)), asZ 5 11]
def reedsolomon_check_r2 : List SO := [rZ 4 (.assign (ciZ 3))]
def reedsolomon_check_r3 : List SO := [mvZ 13 0, rZ 14 (.call ⟨(.builtin .len), #[(tZ 13)], #[22]⟩), bcZ 15 .gtr 3 14 255 3, asZ 12 15]
def reedsolomon_check_r4 : List SO := [rZ 4 (.assign (ciZ 2))]
def reedsolomon_check_r5 : List SO := [mvZ 17 0, rZ 18 (.call ⟨(.builtin .len), #[(tZ 17)], #[22]⟩), mvZ 19 1, boZ 20 .leq 3 18 19 3, asZ 16 20]
def reedsolomon_check_r6 : List SO := [rZ 4 (.assign (ciZ 12))]
def reedsolomon_check_r7 : List SO := [rZ 4 (.assign (ciZ 0))]
def reedsolomon_check_c : SF := ⟨21, (.seq (.reg reedsolomon_check_r0)
  (.seq (.block 0 (.seq (.reg reedsolomon_check_r1)
  (.cond (tZ 5) (.seq (.reg reedsolomon_check_r2)
  .ret) (.seq (.reg reedsolomon_check_r3)
  (.cond (tZ 12) (.seq (.reg reedsolomon_check_r4)
  .ret) (.seq (.reg reedsolomon_check_r5)
  (.cond (tZ 16) (.seq (.reg reedsolomon_check_r6)
  .ret) .skip)))))))
  (.seq (.reg reedsolomon_check_r7)
  .ret))), [.tmp 4]⟩
theorem reedsolomon_check_s : slimF Try.prog 41 = some reedsolomon_check_c := by kernel_rfl
abbrev reedsolomon_check_f : Nat := 41
/-- printworks/reedsolomon.syndromes -/
def reedsolomon_syndromes_r0 : List SO := [rZ 4 (.assign (.const (.slice none 0 0))), rZ 5 (.assign (.const (.bool false)))]
def reedsolomon_syndromes_r1 : List SO := [mvZ 13 1, rZ 14 (.makeSlice 85 (tZ 13) (tZ 13)), asZ 6 14, rZ 7 (.assign (.const (.bool true)))]
def reedsolomon_syndromes_r2 : List SO := [mvZ 15 6, rZ 16 (.call ⟨(.builtin .len), #[(tZ 15)], #[85]⟩), rZ 17 (.move (ciZ 0))]
def reedsolomon_syndromes_r3 : List SO := [boZ 18 .lss 3 17 16 3]
def reedsolomon_syndromes_r4 : List SO := [mvZ 19 17, asZ 8 19]
def reedsolomon_syndromes_r5 : List SO := [mvZ 20 8, rZ 21 (.call ⟨(.value (.func (46 : Nat))), #[(.const (.int .u8 2)), (tZ 20)], #[5, 3]⟩), asZ 9 21]
def reedsolomon_syndromes_r6 : List SO := [rZ 10 (.assign (.const (.int .u8 0)))]
def reedsolomon_syndromes_r7 : List SO := [mvZ 22 0, rZ 23 (.call ⟨(.builtin .len), #[(tZ 22)], #[22]⟩), rZ 24 (.move (ciZ 0))]
def reedsolomon_syndromes_r8 : List SO := [boZ 25 .lss 3 24 23 3]
def reedsolomon_syndromes_r9 : List SO := [iaZ 26 22 22 24, ldZ 27 5 26, asZ 12 27]
def reedsolomon_syndromes_r10 : List SO := [mvZ 28 10, mvZ 29 9, rZ 30 (.call ⟨(.value (.func (44 : Nat))), #[(tZ 28), (tZ 29)], #[5, 5]⟩), mvZ 31 12, boZ 32 .xor 5 30 31 5, asZ 10 32]
def reedsolomon_syndromes_r11 : List SO := [bcZ 33 .add 3 24 1 3, mvZ 24 33]
def reedsolomon_syndromes_r12 : List SO := [mvZ 34 6, mvZ 35 8, mvZ 36 10, iaZ 37 85 34 35, stZ 5 37 36]
def reedsolomon_syndromes_r13 : List SO := [mvZ 38 7, mvZ 39 38, gZ 39 true (mvZ 40 10), gZ 39 true (rZ 41 (.binOp .eql 5 (tZ 40) (.const (.int .u8 0)) 5)), rZ 42 (.pick (tZ 39) (tZ 41) (.const (.bool false))), asZ 7 42]
def reedsolomon_syndromes_r14 : List SO := [bcZ 43 .add 3 17 1 3, mvZ 17 43]
def reedsolomon_syndromes_r15 : List SO := [mvZ 44 6, mvZ 45 7, asZ 4 44, asZ 5 45]
def reedsolomon_syndromes_c : SF := ⟨46, (.seq (.reg reedsolomon_syndromes_r0)
  (.seq (.reg reedsolomon_syndromes_r1)
  (.seq (.seq (.reg reedsolomon_syndromes_r2)
  (.block 0 (.loop (.seq (.reg reedsolomon_syndromes_r3)
  (.seq (.cond (tZ 18) .skip (.exit 0))
  (.seq (.block 1 (.seq (.reg reedsolomon_syndromes_r4)
  (.seq (.reg reedsolomon_syndromes_r5)
  (.seq (.reg reedsolomon_syndromes_r6)
  (.seq (.seq (.reg reedsolomon_syndromes_r7)
  (.block 2 (.loop (.seq (.reg reedsolomon_syndromes_r8)
  (.seq (.cond (tZ 25) .skip (.exit 2))
  (.seq (.block 3 (.seq (.reg reedsolomon_syndromes_r9)
  (.reg reedsolomon_syndromes_r10)))
  (.reg reedsolomon_syndromes_r11)))))))
  (.seq (.reg reedsolomon_syndromes_r12)
  (.reg reedsolomon_syndromes_r13)))))))
  (.reg reedsolomon_syndromes_r14)))))))
  (.seq (.reg reedsolomon_syndromes_r15)
  .ret)))), [.tmp 4, .tmp 5]⟩
theorem reedsolomon_syndromes_s : slimF Try.prog 42 = some reedsolomon_syndromes_c := by kernel_rfl
abbrev reedsolomon_syndromes_f : Nat := 42
/-- printworks/reedsolomon.Mul -/
def reedsolomon_Mul_r0 : List SO := [rZ 4 (.assign (.const (.int .u8 0)))]
def reedsolomon_Mul_r1 : List SO := [rZ 5 (.assign (.const (.int .u8 0)))]
def reedsolomon_Mul_r2 : List SO := [mvZ 6 1, rZ 7 (.binOp .gtr 5 (tZ 6) (.const (.int .u8 0)) 5)]
def reedsolomon_Mul_r3 : List SO := [mvZ 8 5, mvZ 9 0, mvZ 10 1, rZ 11 (.binOp .and 5 (tZ 10) (.const (.int .u8 1)) 5), rZ 12 (.unOp .neg 5 (tZ 11)), boZ 13 .and 5 9 12 5, boZ 14 .xor 5 8 13 5, asZ 5 14]
def reedsolomon_Mul_r4 : List SO := [mvZ 15 0, rZ 16 (.binOp .shl 5 (tZ 15) (.const (.int .u64 1)) 123), mvZ 17 0, rZ 18 (.binOp .shr 5 (tZ 17) (.const (.int .u64 7)) 123), rZ 19 (.unOp .neg 5 (tZ 18)), rZ 20 (.binOp .and 5 (.const (.int .u8 29)) (tZ 19) 5), boZ 21 .xor 5 16 20 5, asZ 0 21]
def reedsolomon_Mul_r5 : List SO := [mvZ 22 1, rZ 23 (.binOp .shr 5 (tZ 22) (.const (.int .u64 1)) 123), asZ 1 23]
def reedsolomon_Mul_r6 : List SO := [mvZ 24 5, asZ 4 24]
def reedsolomon_Mul_c : SF := ⟨25, (.seq (.reg reedsolomon_Mul_r0)
  (.seq (.reg reedsolomon_Mul_r1)
  (.seq (.block 0 (.loop (.seq (.seq (.reg reedsolomon_Mul_r2)
  (.cond (tZ 7) .skip (.exit 0)))
  (.block 1 (.seq (.reg reedsolomon_Mul_r3)
  (.seq (.reg reedsolomon_Mul_r4)
  (.reg reedsolomon_Mul_r5)))))))
  (.seq (.reg reedsolomon_Mul_r6)
  .ret)))), [.tmp 4]⟩
theorem reedsolomon_Mul_s : slimF Try.prog 44 = some reedsolomon_Mul_c := by kernel_rfl
abbrev reedsolomon_Mul_f : Nat := 44
/-- printworks/reedsolomon.power -/
def reedsolomon_power_r0 : List SO := [rZ 4 (.assign (.const (.int .u8 0)))]
def reedsolomon_power_r1 : List SO := [rZ 5 (.assign (.const (.int .u8 1)))]
def reedsolomon_power_r2 : List SO := [mvZ 6 1, bcZ 7 .gtr 3 6 0 3]
def reedsolomon_power_r3 : List SO := [mvZ 10 1, bcZ 11 .and 3 10 1 3, bcZ 12 .eql 3 11 1 3]
def reedsolomon_power_r4 : List SO := [mvZ 13 5, mvZ 14 0, rZ 15 (.call ⟨(.value (.func (44 : Nat))), #[(tZ 13), (tZ 14)], #[5, 5]⟩), asZ 5 15]
def reedsolomon_power_r5 : List SO := [mvZ 16 0, mvZ 17 0, rZ 18 (.call ⟨(.value (.func (44 : Nat))), #[(tZ 16), (tZ 17)], #[5, 5]⟩), asZ 0 18]
def reedsolomon_power_r6 : List SO := [mvZ 8 1, rZ 9 (.binOp .shr 3 (tZ 8) (.const (.int .u64 1)) 123), asZ 1 9]
def reedsolomon_power_r7 : List SO := [mvZ 19 5, asZ 4 19]
def reedsolomon_power_c : SF := ⟨20, (.seq (.reg reedsolomon_power_r0)
  (.seq (.reg reedsolomon_power_r1)
  (.seq (.block 0 (.loop (.seq (.seq (.reg reedsolomon_power_r2)
  (.cond (tZ 7) .skip (.exit 0)))
  (.seq (.block 1 (.seq (.seq (.reg reedsolomon_power_r3)
  (.cond (tZ 12) (.reg reedsolomon_power_r4) .skip))
  (.reg reedsolomon_power_r5)))
  (.reg reedsolomon_power_r6)))))
  (.seq (.reg reedsolomon_power_r7)
  .ret)))), [.tmp 4]⟩
theorem reedsolomon_power_s : slimF Try.prog 46 = some reedsolomon_power_c := by kernel_rfl
abbrev reedsolomon_power_f : Nat := 46
/-- (printworks/reedsolomon.poly).times -/
def _reedsolomon_poly__times_r0 : List SO := [rZ 6 (.assign (.const (.slice none 0 0)))]
def _reedsolomon_poly__times_r1 : List SO := [mvZ 12 2, mvZ 13 0, rZ 14 (.call ⟨(.builtin .len), #[(tZ 13)], #[85]⟩), mvZ 15 1, rZ 16 (.call ⟨(.builtin .len), #[(tZ 15)], #[85]⟩), boZ 17 .add 3 14 16 3, bcZ 18 .sub 3 17 1 3, rZ 19 (.call ⟨(.builtin .min), #[(tZ 12), (tZ 18)], #[3, 3]⟩), rZ 20 (.makeSlice 85 (tZ 19) (tZ 19)), asZ 7 20]
def _reedsolomon_poly__times_r2 : List SO := [mvZ 21 0, rZ 22 (.call ⟨(.builtin .len), #[(tZ 21)], #[85]⟩), rZ 23 (.move (ciZ 0))]
def _reedsolomon_poly__times_r3 : List SO := [boZ 24 .lss 3 23 22 3]
def _reedsolomon_poly__times_r4 : List SO := [mvZ 25 23, iaZ 26 85 21 23, ldZ 27 5 26, asZ 8 25, asZ 9 27]
def _reedsolomon_poly__times_r5 : List SO := [mvZ 28 1, rZ 29 (.call ⟨(.builtin .len), #[(tZ 28)], #[85]⟩), rZ 30 (.move (ciZ 0))]
def _reedsolomon_poly__times_r6 : List SO := [boZ 31 .lss 3 30 29 3]
def _reedsolomon_poly__times_r7 : List SO := [mvZ 32 30, iaZ 33 85 28 30, ldZ 34 5 33, asZ 10 32, asZ 11 34]
def _reedsolomon_poly__times_r8 : List SO := [mvZ 35 8, mvZ 36 10, boZ 37 .add 3 35 36 3, mvZ 38 7, rZ 39 (.call ⟨(.builtin .len), #[(tZ 38)], #[85]⟩), boZ 40 .lss 3 37 39 3]
def _reedsolomon_poly__times_r9 : List SO := [mvZ 41 7, mvZ 42 8, mvZ 43 10, boZ 44 .add 3 42 43 3, iaZ 45 85 41 44, ldZ 46 5 45, mvZ 47 9, mvZ 48 11, rZ 49 (.call ⟨(.value (.func (44 : Nat))), #[(tZ 47), (tZ 48)], #[5, 5]⟩), boZ 50 .xor 5 46 49 5, iaZ 51 85 41 44, stZ 5 51 50]
def _reedsolomon_poly__times_a9 : List (List Nat) := [[], [], [], [1, 2], [0, 3], [4], [], [], [6, 7], [5, 8], [0, 3, 0, 1, 2, 3, 4, 5, 6, 7, 8, 9], [10, 9, 8, 0, 1, 2, 3, 4, 5, 6, 7, 8, 9]]
def _reedsolomon_poly__times_r10 : List SO := [bcZ 52 .add 3 30 1 3, mvZ 30 52]
def _reedsolomon_poly__times_r11 : List SO := [bcZ 53 .add 3 23 1 3, mvZ 23 53]
def _reedsolomon_poly__times_r12 : List SO := [mvZ 54 7, asZ 6 54]
def _reedsolomon_poly__times_c : SF := ⟨55, (.seq (.reg _reedsolomon_poly__times_r0)
  (.seq (.reg _reedsolomon_poly__times_r1)
  (.seq (.seq (.reg _reedsolomon_poly__times_r2)
  (.block 0 (.loop (.seq (.reg _reedsolomon_poly__times_r3)
  (.seq (.cond (tZ 24) .skip (.exit 0))
  (.seq (.block 1 (.seq (.reg _reedsolomon_poly__times_r4)
  (.seq (.reg _reedsolomon_poly__times_r5)
  (.block 2 (.loop (.seq (.reg _reedsolomon_poly__times_r6)
  (.seq (.cond (tZ 31) .skip (.exit 2))
  (.seq (.block 3 (.seq (.reg _reedsolomon_poly__times_r7)
  (.seq (.reg _reedsolomon_poly__times_r8)
  (.cond (tZ 40) (.regd _reedsolomon_poly__times_r9 _reedsolomon_poly__times_a9) .skip))))
  (.reg _reedsolomon_poly__times_r10)))))))))
  (.reg _reedsolomon_poly__times_r11)))))))
  (.seq (.reg _reedsolomon_poly__times_r12)
  .ret)))), [.tmp 6]⟩
theorem _reedsolomon_poly__times_s : slimF Try.prog 45 = some _reedsolomon_poly__times_c := by kernel_rfl
abbrev _reedsolomon_poly__times_f : Nat := 45
/-- printworks/reedsolomon.locate -/
def reedsolomon_locate_r0 : List SO := [rZ 6 (.assign (.const (.slice none 0 0)))]
def reedsolomon_locate_r1 : List SO := [mvZ 19 1, rZ 20 (.call ⟨(.builtin .append), #[(.const (.slice none 0 0)), (tZ 19)], #[85, 85]⟩), mvZ 21 1, rZ 22 (.call ⟨(.builtin .append), #[(.const (.slice none 0 0)), (tZ 21)], #[85, 85]⟩), asZ 7 20, asZ 8 22]
def reedsolomon_locate_r2 : List SO := [mvZ 23 2, asZ 9 23, rZ 10 (.assign (ciZ 1)), rZ 11 (.assign (.const (.int .u8 1)))]
def reedsolomon_locate_r3 : List SO := [mvZ 24 2, asZ 12 24]
def reedsolomon_locate_r4 : List SO := [mvZ 25 12, mvZ 26 0, rZ 27 (.call ⟨(.builtin .len), #[(tZ 26)], #[85]⟩), boZ 28 .lss 3 25 27 3]
def reedsolomon_locate_r5 : List SO := [mvZ 31 0, mvZ 32 12, iaZ 33 85 31 32, ldZ 34 5 33, asZ 13 34]
def reedsolomon_locate_r6 : List SO := [rZ 14 (.assign (ciZ 1))]
def reedsolomon_locate_r7 : List SO := [mvZ 35 14, mvZ 36 7, rZ 37 (.call ⟨(.builtin .len), #[(tZ 36)], #[85]⟩), boZ 38 .lss 3 35 37 3, mvZ 39 38, gZ 39 true (mvZ 40 14), gZ 39 true (mvZ 41 12), gZ 39 true (boZ 42 .leq 3 40 41 3), rZ 43 (.pick (tZ 39) (tZ 42) (.const (.bool false)))]
def reedsolomon_locate_r8 : List SO := [mvZ 46 13, mvZ 47 7, mvZ 48 14, iaZ 49 85 47 48, ldZ 50 5 49, mvZ 51 0, mvZ 52 12, mvZ 53 14, boZ 54 .sub 3 52 53 3, iaZ 55 85 51 54, ldZ 56 5 55, rZ 57 (.call ⟨(.value (.func (44 : Nat))), #[(tZ 50), (tZ 56)], #[5, 5]⟩), boZ 58 .xor 5 46 57 5, asZ 13 58]
def reedsolomon_locate_a8 : List (List Nat) := [[], [], [], [1, 2], [3], [], [], [], [6, 7], [5, 8], [9], [4, 10], [0, 11], [12, 11, 0, 1, 2, 3, 4, 5, 6, 7, 8, 9, 10, 11, 12]]
def reedsolomon_locate_r9 : List SO := [mvZ 44 14, bcZ 45 .add 3 44 1 3, asZ 14 45]
def reedsolomon_locate_r10 : List SO := [mvZ 59 13, rZ 60 (.binOp .eql 5 (tZ 59) (.const (.int .u8 0)) 5)]
def reedsolomon_locate_r11 : List SO := [mvZ 61 10, bcZ 62 .add 3 61 1 3, asZ 10 62]
def reedsolomon_locate_r12 : List SO := [mvZ 63 7, rZ 64 (.call ⟨(.builtin .append), #[(.const (.slice none 0 0)), (tZ 63)], #[85, 85]⟩), asZ 15 64]
def reedsolomon_locate_r13 : List SO := [mvZ 65 13, mvZ 66 11, rZ 67 (.call ⟨(.value (.func (46 : Nat))), #[(tZ 66), (ciZ 254)], #[5, 3]⟩), rZ 68 (.call ⟨(.value (.func (44 : Nat))), #[(tZ 65), (tZ 67)], #[5, 5]⟩), asZ 16 68]
def reedsolomon_locate_r14 : List SO := [mvZ 69 7, rZ 70 (.call ⟨(.builtin .len), #[(tZ 69)], #[85]⟩), mvZ 71 8, rZ 72 (.call ⟨(.builtin .len), #[(tZ 71)], #[85]⟩), mvZ 73 10, boZ 74 .add 3 72 73 3, boZ 75 .lss 3 70 74 3]
def reedsolomon_locate_r15 : List SO := [mvZ 76 7, rZ 77 (.buildSlice 85 1 #[(0, (.const (.int .u8 0)))]), rZ 78 (.call ⟨(.builtin .append), #[(tZ 76), (tZ 77)], #[85, 85]⟩), asZ 7 78]
def reedsolomon_locate_r16 : List SO := [mvZ 79 8, rZ 80 (.call ⟨(.builtin .len), #[(tZ 79)], #[85]⟩), rZ 81 (.move (ciZ 0))]
def reedsolomon_locate_r17 : List SO := [boZ 82 .lss 3 81 80 3]
def reedsolomon_locate_r18 : List SO := [mvZ 83 81, iaZ 84 85 79 81, ldZ 85 5 84, asZ 17 83, asZ 18 85]
def reedsolomon_locate_r19 : List SO := [mvZ 86 7, mvZ 87 17, mvZ 88 10, boZ 89 .add 3 87 88 3, iaZ 90 85 86 89, ldZ 91 5 90, mvZ 92 16, mvZ 93 18, rZ 94 (.call ⟨(.value (.func (44 : Nat))), #[(tZ 92), (tZ 93)], #[5, 5]⟩), boZ 95 .xor 5 91 94 5, iaZ 96 85 86 89, stZ 5 96 95]
def reedsolomon_locate_a19 : List (List Nat) := [[], [], [], [1, 2], [0, 3], [4], [], [], [6, 7], [5, 8], [0, 3, 0, 1, 2, 3, 4, 5, 6, 7, 8, 9], [10, 9, 8, 0, 1, 2, 3, 4, 5, 6, 7, 8, 9]]
def reedsolomon_locate_r20 : List SO := [bcZ 97 .add 3 81 1 3, mvZ 81 97]
def reedsolomon_locate_r21 : List SO := [mvZ 98 9, rZ 99 (.binOp .mul 3 (ciZ 2) (tZ 98) 3), mvZ 100 12, mvZ 101 2, boZ 102 .add 3 100 101 3, boZ 103 .leq 3 99 102 3]
def reedsolomon_locate_r22 : List SO := [mvZ 104 12, bcZ 105 .add 3 104 1 3, mvZ 106 2, boZ 107 .add 3 105 106 3, mvZ 108 9, boZ 109 .sub 3 107 108 3, mvZ 110 15, mvZ 111 13, asZ 9 109, asZ 8 110, asZ 11 111, rZ 10 (.assign (ciZ 1))]
def reedsolomon_locate_r23 : List SO := [mvZ 112 10, bcZ 113 .add 3 112 1 3, asZ 10 113]
def reedsolomon_locate_r24 : List SO := [mvZ 29 12, bcZ 30 .add 3 29 1 3, asZ 12 30]
def reedsolomon_locate_r25 : List SO := [mvZ 114 7, asZ 6 114]
def reedsolomon_locate_c : SF := ⟨115, (.seq (.reg reedsolomon_locate_r0)
  (.seq (.reg reedsolomon_locate_r1)
  (.seq (.reg reedsolomon_locate_r2)
  (.seq (.seq (.reg reedsolomon_locate_r3)
  (.block 0 (.loop (.seq (.seq (.reg reedsolomon_locate_r4)
  (.cond (tZ 28) .skip (.exit 0)))
  (.seq (.block 1 (.seq (.reg reedsolomon_locate_r5)
  (.seq (.seq (.reg reedsolomon_locate_r6)
  (.block 2 (.loop (.seq (.seq (.reg reedsolomon_locate_r7)
  (.cond (tZ 43) .skip (.exit 2)))
  (.seq (.block 3 (.regd reedsolomon_locate_r8 reedsolomon_locate_a8))
  (.reg reedsolomon_locate_r9))))))
  (.seq (.seq (.reg reedsolomon_locate_r10)
  (.cond (tZ 60) (.seq (.reg reedsolomon_locate_r11)
  (.exit 1)) .skip))
  (.seq (.reg reedsolomon_locate_r12)
  (.seq (.reg reedsolomon_locate_r13)
  (.seq (.block 4 (.loop (.seq (.seq (.reg reedsolomon_locate_r14)
  (.cond (tZ 75) .skip (.exit 4)))
  (.block 5 (.reg reedsolomon_locate_r15)))))
  (.seq (.seq (.reg reedsolomon_locate_r16)
  (.block 6 (.loop (.seq (.reg reedsolomon_locate_r17)
  (.seq (.cond (tZ 82) .skip (.exit 6))
  (.seq (.block 7 (.seq (.reg reedsolomon_locate_r18)
  (.regd reedsolomon_locate_r19 reedsolomon_locate_a19)))
  (.reg reedsolomon_locate_r20)))))))
  (.seq (.reg reedsolomon_locate_r21)
  (.cond (tZ 103) (.reg reedsolomon_locate_r22) (.reg reedsolomon_locate_r23)))))))))))
  (.reg reedsolomon_locate_r24))))))
  (.seq (.reg reedsolomon_locate_r25)
  .ret))))), [.tmp 6]⟩
theorem reedsolomon_locate_s : slimF Try.prog 48 = some reedsolomon_locate_c := by kernel_rfl
abbrev reedsolomon_locate_f : Nat := 48
/-- printworks/reedsolomon.repair -/
def reedsolomon_repair_r0 : List SO := [mvZ 12 1, mvZ 13 2, mvZ 14 1, rZ 15 (.call ⟨(.builtin .len), #[(tZ 14)], #[85]⟩), rZ 16 (.call ⟨(.value (.func (45 : Nat))), #[(tZ 12), (tZ 13), (tZ 15)], #[85, 85, 3]⟩), asZ 6 16]
def reedsolomon_repair_r1 : List SO := [mvZ 17 0, rZ 18 (.call ⟨(.builtin .len), #[(tZ 17)], #[22]⟩), rZ 19 (.move (ciZ 0))]
def reedsolomon_repair_r2 : List SO := [boZ 20 .lss 3 19 18 3]
def reedsolomon_repair_r3 : List SO := [mvZ 21 19, asZ 7 21]
def reedsolomon_repair_r4 : List SO := [mvZ 22 0, rZ 23 (.call ⟨(.builtin .len), #[(tZ 22)], #[22]⟩), bcZ 24 .sub 3 23 1 3, mvZ 25 7, boZ 26 .sub 3 24 25 3, rZ 27 (.call ⟨(.value (.func (46 : Nat))), #[(.const (.int .u8 2)), (tZ 26)], #[5, 3]⟩), asZ 8 27]
def reedsolomon_repair_r5 : List SO := [mvZ 28 8, rZ 29 (.call ⟨(.value (.func (46 : Nat))), #[(tZ 28), (ciZ 254)], #[5, 3]⟩), asZ 9 29]
def reedsolomon_repair_r6 : List SO := [mvZ 30 2, mvZ 31 9, rZ 32 (.call ⟨(.value (.func (68 : Nat))), #[(tZ 30), (tZ 31)], #[85, 5]⟩), rZ 33 (.binOp .neq 5 (tZ 32) (.const (.int .u8 0)) 5)]
def reedsolomon_repair_r7 : List SO := [rZ 10 (.assign (.const (.int .u8 0)))]
def reedsolomon_repair_r8 : List SO := [rZ 11 (.assign (ciZ 1))]
def reedsolomon_repair_r9 : List SO := [mvZ 34 11, mvZ 35 2, rZ 36 (.call ⟨(.builtin .len), #[(tZ 35)], #[85]⟩), boZ 37 .lss 3 34 36 3]
def reedsolomon_repair_r10 : List SO := [mvZ 40 10, mvZ 41 2, mvZ 42 11, iaZ 43 85 41 42, ldZ 44 5 43, mvZ 45 9, mvZ 46 11, bcZ 47 .sub 3 46 1 3, rZ 48 (.call ⟨(.value (.func (46 : Nat))), #[(tZ 45), (tZ 47)], #[5, 3]⟩), rZ 49 (.call ⟨(.value (.func (44 : Nat))), #[(tZ 44), (tZ 48)], #[5, 5]⟩), boZ 50 .xor 5 40 49 5, asZ 10 50]
def reedsolomon_repair_a10 : List (List Nat) := [[], [], [], [1, 2], [3], [], [], [6], [5, 7], [4, 8, 8], [0, 9], [10, 9, 0, 1, 2, 3, 4, 5, 6, 7, 8, 9, 10]]
def reedsolomon_repair_r11 : List SO := [mvZ 38 11, bcZ 39 .add 3 38 2 3, asZ 11 39]
def reedsolomon_repair_r12 : List SO := [mvZ 51 10, rZ 52 (.binOp .neq 5 (tZ 51) (.const (.int .u8 0)) 5)]
def reedsolomon_repair_r13 : List SO := [mvZ 53 0, mvZ 54 7, iaZ 55 22 53 54, ldZ 56 5 55, mvZ 57 8, mvZ 58 6, mvZ 59 9, rZ 60 (.call ⟨(.value (.func (68 : Nat))), #[(tZ 58), (tZ 59)], #[85, 5]⟩), rZ 61 (.call ⟨(.value (.func (44 : Nat))), #[(tZ 57), (tZ 60)], #[5, 5]⟩), mvZ 62 10, rZ 63 (.call ⟨(.value (.func (46 : Nat))), #[(tZ 62), (ciZ 254)], #[5, 3]⟩), rZ 64 (.call ⟨(.value (.func (44 : Nat))), #[(tZ 61), (tZ 63)], #[5, 5]⟩), boZ 65 .xor 5 56 64 5, iaZ 66 22 53 54, stZ 5 66 65]
def reedsolomon_repair_a13 : List (List Nat) := [[], [], [0, 1], [2], [], [], [], [5, 6], [4, 7, 7], [], [9, 8], [8, 10, 10], [3, 11], [0, 1, 0, 1, 2, 3, 4, 5, 6, 7, 8, 9, 10, 11, 12], [13, 12, 11, 0, 1, 2, 3, 4, 5, 6, 7, 8, 9, 10, 11, 12]]
def reedsolomon_repair_r14 : List SO := [bcZ 67 .add 3 19 1 3, mvZ 19 67]
def reedsolomon_repair_c : SF := ⟨68, (.seq (.reg reedsolomon_repair_r0)
  (.seq (.reg reedsolomon_repair_r1)
  (.block 0 (.loop (.seq (.reg reedsolomon_repair_r2)
  (.seq (.cond (tZ 20) .skip (.exit 0))
  (.seq (.block 1 (.seq (.reg reedsolomon_repair_r3)
  (.seq (.reg reedsolomon_repair_r4)
  (.seq (.reg reedsolomon_repair_r5)
  (.seq (.seq (.reg reedsolomon_repair_r6)
  (.cond (tZ 33) (.exit 1) .skip))
  (.seq (.reg reedsolomon_repair_r7)
  (.seq (.seq (.reg reedsolomon_repair_r8)
  (.block 2 (.loop (.seq (.seq (.reg reedsolomon_repair_r9)
  (.cond (tZ 37) .skip (.exit 2)))
  (.seq (.block 3 (.regd reedsolomon_repair_r10 reedsolomon_repair_a10))
  (.reg reedsolomon_repair_r11))))))
  (.seq (.reg reedsolomon_repair_r12)
  (.cond (tZ 52) (.regd reedsolomon_repair_r13 reedsolomon_repair_a13) .skip)))))))))
  (.reg reedsolomon_repair_r14)))))))), []⟩
theorem reedsolomon_repair_s : slimF Try.prog 47 = some reedsolomon_repair_c := by kernel_rfl
abbrev reedsolomon_repair_f : Nat := 47
/-- (printworks/reedsolomon.poly).at -/
def _reedsolomon_poly__at_r0 : List SO := [rZ 4 (.assign (.const (.int .u8 0)))]
def _reedsolomon_poly__at_r1 : List SO := [rZ 5 (.assign (.const (.int .u8 0)))]
def _reedsolomon_poly__at_r2 : List SO := [mvZ 7 0, rZ 8 (.call ⟨(.builtin .len), #[(tZ 7)], #[85]⟩), bcZ 9 .sub 3 8 1 3, asZ 6 9]
def _reedsolomon_poly__at_r3 : List SO := [mvZ 10 6, bcZ 11 .geq 3 10 0 3]
def _reedsolomon_poly__at_r4 : List SO := [mvZ 14 5, mvZ 15 1, rZ 16 (.call ⟨(.value (.func (44 : Nat))), #[(tZ 14), (tZ 15)], #[5, 5]⟩), mvZ 17 0, mvZ 18 6, iaZ 19 85 17 18, ldZ 20 5 19, boZ 21 .xor 5 16 20 5, asZ 5 21]
def _reedsolomon_poly__at_a4 : List (List Nat) := [[], [], [0, 1], [], [], [3, 4], [5], [2, 6], [7, 2, 0, 1, 2, 3, 4, 5, 6, 7]]
def _reedsolomon_poly__at_r5 : List SO := [mvZ 12 6, bcZ 13 .sub 3 12 1 3, asZ 6 13]
def _reedsolomon_poly__at_r6 : List SO := [mvZ 22 5, asZ 4 22]
def _reedsolomon_poly__at_c : SF := ⟨23, (.seq (.reg _reedsolomon_poly__at_r0)
  (.seq (.reg _reedsolomon_poly__at_r1)
  (.seq (.seq (.reg _reedsolomon_poly__at_r2)
  (.block 0 (.loop (.seq (.seq (.reg _reedsolomon_poly__at_r3)
  (.cond (tZ 11) .skip (.exit 0)))
  (.seq (.block 1 (.regd _reedsolomon_poly__at_r4 _reedsolomon_poly__at_a4))
  (.reg _reedsolomon_poly__at_r5))))))
  (.seq (.reg _reedsolomon_poly__at_r6)
  .ret)))), [.tmp 4]⟩
theorem _reedsolomon_poly__at_s : slimF Try.prog 68 = some _reedsolomon_poly__at_c := by kernel_rfl
abbrev _reedsolomon_poly__at_f : Nat := 68

end Go.Proofs.Ythkilkjngincpaa
namespace Go.Proofs.Ythkilkjngincpaa
open Go Go.Lite
set_option linter.unusedVariables false

/-- printworks/bitmap.Check -/
def bitmap_Check_r0 : List SO := [rZ 1 (.box 29 (tZ 0)), rZ 2 (.assign (ciZ 0))]
def bitmap_Check_r1 : List SO := [faZ 6 29 1 0, ldZ 7 3 6, bcZ 8 .lss 3 7 1 3, mvZ 9 8, gZ 9 false (faZ 10 29 1 0), gZ 9 false (ldZ 11 3 10), gZ 9 false (bcZ 12 .gtr 3 11 1024 3), rZ 13 (.pick (tZ 9) (.const (.bool true)) (tZ 12)), mvZ 14 13, gZ 14 false (faZ 15 29 1 1), gZ 14 false (ldZ 16 3 15), gZ 14 false (bcZ 17 .lss 3 16 1 3), rZ 18 (.pick (tZ 14) (.const (.bool true)) (tZ 17)), mvZ 19 18, gZ 19 false (faZ 20 29 1 1), gZ 19 false (ldZ 21 3 20), gZ 19 false (bcZ 22 .gtr 3 21 1024 3), rZ 23 (.pick (tZ 19) (.const (.bool true)) (tZ 22))]
def bitmap_Check_r2 : List SO := [rZ 2 (.assign (ciZ 3))]
def bitmap_Check_r3 : List SO := [faZ 24 29 1 0, ldZ 25 3 24, rZ 26 (.call ⟨(.value (.func (39 : Nat))), #[(tZ 25)], #[3]⟩), asZ 3 26]
def bitmap_Check_r4 : List SO := [faZ 27 29 1 2, ldZ 28 22 27, rZ 29 (.call ⟨(.builtin .len), #[(tZ 28)], #[22]⟩), mvZ 30 3, faZ 31 29 1 1, ldZ 32 3 31, boZ 33 .mul 3 30 32 3, boZ 34 .neq 3 29 33 3]
def bitmap_Check_r5 : List SO := [rZ 2 (.assign (ciZ 4))]
def bitmap_Check_r6 : List SO := [mvZ 35 3, rZ 36 (.binOp .mul 3 (ciZ 8) (tZ 35) 3), faZ 37 29 1 0, ldZ 38 3 37, boZ 39 .sub 3 36 38 3, rZ 40 (.binOp .shl 5 (.const (.int .u8 1)) (tZ 39) 3), rZ 41 (.binOp .sub 5 (tZ 40) (.const (.int .u8 1)) 5), asZ 4 41]
def bitmap_Check_r7 : List SO := [mvZ 42 4, rZ 43 (.binOp .neq 5 (tZ 42) (.const (.int .u8 0)) 5)]
def bitmap_Check_r8 : List SO := [faZ 44 29 1 1, ldZ 45 3 44, rZ 46 (.move (ciZ 0))]
def bitmap_Check_r9 : List SO := [boZ 47 .lss 3 46 45 3]
def bitmap_Check_r10 : List SO := [mvZ 48 46, asZ 5 48]
def bitmap_Check_r11 : List SO := [faZ 49 29 1 2, ldZ 50 22 49, mvZ 51 5, mvZ 52 3, boZ 53 .mul 3 51 52 3, mvZ 54 3, boZ 55 .add 3 53 54 3, bcZ 56 .sub 3 55 1 3, iaZ 57 22 50 56, ldZ 58 5 57, mvZ 59 4, boZ 60 .and 5 58 59 5, rZ 61 (.binOp .neq 5 (tZ 60) (.const (.int .u8 0)) 5)]
def bitmap_Check_r12 : List SO := [rZ 2 (.assign (ciZ 4))]
def bitmap_Check_r13 : List SO := [bcZ 62 .add 3 46 1 3, mvZ 46 62]
def bitmap_Check_r14 : List SO := [rZ 2 (.assign (ciZ 0))]
def bitmap_Check_c : SF := ⟨63, (.seq (.reg bitmap_Check_r0)
  (.seq (.seq (.reg bitmap_Check_r1)
  (.cond (tZ 23) (.seq (.reg bitmap_Check_r2)
  .ret) .skip))
  (.seq (.reg bitmap_Check_r3)
  (.seq (.seq (.reg bitmap_Check_r4)
  (.cond (tZ 34) (.seq (.reg bitmap_Check_r5)
  .ret) .skip))
  (.seq (.seq (.reg bitmap_Check_r6)
  (.seq (.reg bitmap_Check_r7)
  (.cond (tZ 43) (.seq (.reg bitmap_Check_r8)
  (.block 0 (.loop (.seq (.reg bitmap_Check_r9)
  (.seq (.cond (tZ 47) .skip (.exit 0))
  (.seq (.block 1 (.seq (.reg bitmap_Check_r10)
  (.seq (.reg bitmap_Check_r11)
  (.cond (tZ 61) (.seq (.reg bitmap_Check_r12)
  .ret) .skip))))
  (.reg bitmap_Check_r13))))))) .skip)))
  (.seq (.reg bitmap_Check_r14)
  .ret)))))), [.tmp 2]⟩
theorem bitmap_Check_s : slimF Try.prog 12 = some bitmap_Check_c := by kernel_rfl
abbrev bitmap_Check_f : Nat := 12
/-- printworks/bitmap.Turn -/
def bitmap_Turn_r0 : List SO := [rZ 2 (.box 29 (tZ 0)), rZ 4 (.alloc 29), rZ 5 (.assign (ciZ 0))]
def bitmap_Turn_r1 : List SO := [ldZ 7 29 2, rZ 8 (.call ⟨(.value (.func (12 : Nat))), #[(tZ 7)], #[29]⟩), asZ 6 8]
def bitmap_Turn_r2 : List SO := [mvZ 9 6, bcZ 10 .neq 25 9 0 25]
def bitmap_Turn_r3 : List SO := [rZ 11 (.build 29 #[]), mvZ 12 6, stZ 29 4 11, asZ 5 12]
def bitmap_Turn_r4 : List SO := [mvZ 13 1, bcZ 14 .lss 3 13 0 3, mvZ 15 14, gZ 15 false (mvZ 16 1), gZ 15 false (bcZ 17 .gtr 3 16 7 3), rZ 18 (.pick (tZ 15) (.const (.bool true)) (tZ 17))]
def bitmap_Turn_r5 : List SO := [rZ 19 (.build 29 #[]), stZ 29 4 19, rZ 5 (.assign (ciZ 3))]
def bitmap_Turn_r6 : List SO := [mvZ 20 1, rZ 21 (.call ⟨(.value (.func (49 : Nat))), #[(tZ 2), (tZ 20)], #[81, 3]⟩), stZ 29 4 21, rZ 5 (.assign (ciZ 0))]
def bitmap_Turn_c : SF := ⟨22, (.seq (.reg bitmap_Turn_r0)
  (.seq (.seq (.reg bitmap_Turn_r1)
  (.seq (.reg bitmap_Turn_r2)
  (.cond (tZ 10) (.seq (.reg bitmap_Turn_r3)
  .ret) .skip)))
  (.seq (.seq (.reg bitmap_Turn_r4)
  (.cond (tZ 18) (.seq (.reg bitmap_Turn_r5)
  .ret) .skip))
  (.seq (.reg bitmap_Turn_r6)
  .ret)))), [.cell 4 29, .tmp 5]⟩
theorem bitmap_Turn_s : slimF Try.prog 20 = some bitmap_Turn_c := by kernel_rfl
abbrev bitmap_Turn_f : Nat := 20
/-- printworks/bitmap.Blank -/
def bitmap_Blank_r0 : List SO := [rZ 4 (.alloc 29)]
def bitmap_Blank_r1 : List SO := [mvZ 5 0, mvZ 6 1, mvZ 7 0, rZ 8 (.call ⟨(.value (.func (39 : Nat))), #[(tZ 7)], #[3]⟩), mvZ 9 1, boZ 10 .mul 3 8 9 3, rZ 11 (.makeSlice 22 (tZ 10) (tZ 10)), rZ 12 (.build 29 #[(0, (tZ 5)), (1, (tZ 6)), (2, (tZ 11))]), stZ 29 4 12]
def bitmap_Blank_c : SF := ⟨13, (.seq (.reg bitmap_Blank_r0)
  (.seq (.reg bitmap_Blank_r1)
  .ret)), [.cell 4 29]⟩
theorem bitmap_Blank_s : slimF Try.prog 36 = some bitmap_Blank_c := by kernel_rfl
abbrev bitmap_Blank_f : Nat := 36
/-- printworks/bitmap.Mark -/
def bitmap_Mark_r0 : List SO := [mvZ 6 0, rZ 7 (.nilCheck (tZ 6)), faZ 8 29 7 2, ldZ 9 22 8, mvZ 10 2, mvZ 11 0, rZ 12 (.nilCheck (tZ 11)), faZ 13 29 12 0, ldZ 14 3 13, rZ 15 (.call ⟨(.value (.func (39 : Nat))), #[(tZ 14)], #[3]⟩), boZ 16 .mul 3 10 15 3, mvZ 17 1, bcZ 18 .quo 3 17 8 3, boZ 19 .add 3 16 18 3, iaZ 20 22 9 19, ldZ 21 5 20, mvZ 22 1, bcZ 23 .rem 3 22 8 3, rZ 24 (.binOp .shr 5 (.const (.int .u8 128)) (tZ 23) 3), boZ 25 .or 5 21 24 5, iaZ 26 22 9 19, stZ 5 26 25]
def bitmap_Mark_a0 : List (List Nat) := [[], [0], [1], [2], [], [], [5], [6], [7], [8], [4, 9], [], [11], [10, 12], [3, 13], [14], [], [16], [17], [15, 18], [3, 13, 0, 1, 2, 3, 4, 5, 6, 7, 8, 9, 10, 11, 12, 13, 14, 15, 16, 17, 18, 19], [20, 19, 9, 0, 1, 2, 3, 4, 5, 6, 7, 8, 9, 10, 11, 12, 13, 14, 15, 16, 17, 18, 19]]
def bitmap_Mark_c : SF := ⟨27, (.regd bitmap_Mark_r0 bitmap_Mark_a0), []⟩
theorem bitmap_Mark_s : slimF Try.prog 38 = some bitmap_Mark_c := by kernel_rfl
abbrev bitmap_Mark_f : Nat := 38
/-- printworks/bitmap.stride -/
def bitmap_stride_r0 : List SO := [rZ 2 (.assign (ciZ 0))]
def bitmap_stride_r1 : List SO := [mvZ 3 0, bcZ 4 .add 3 3 7 3, bcZ 5 .quo 3 4 8 3, asZ 2 5]
def bitmap_stride_c : SF := ⟨6, (.seq (.reg bitmap_stride_r0)
  (.seq (.reg bitmap_stride_r1)
  .ret)), [.tmp 2]⟩
theorem bitmap_stride_s : slimF Try.prog 39 = some bitmap_stride_c := by kernel_rfl
abbrev bitmap_stride_f : Nat := 39
/-- printworks/bitmap.Turned -/
def bitmap_Turned_r0 : List SO := [rZ 2 (.box 81 (tZ 0)), rZ 4 (.alloc 29)]
def bitmap_Turned_r1 : List SO := [ldZ 7 81 2, rZ 8 (.nilCheck (tZ 7)), ldZ 9 29 8, rZ 5 (.alloc 29), stZ 29 5 9]
def bitmap_Turned_r2 : List SO := [ldZ 10 81 2, rZ 11 (.nilCheck (tZ 10)), faZ 12 29 11 2, ldZ 13 22 12, rZ 14 (.call ⟨(.builtin .append), #[(.const (.slice none 0 0)), (tZ 13)], #[22, 22]⟩), faZ 15 29 5 2, stZ 22 15 14]
def bitmap_Turned_r3 : List SO := [mvZ 16 1, bcZ 17 .geq 3 16 4 3]
def bitmap_Turned_r4 : List SO := [ldZ 18 81 2, rZ 19 (.nilCheck (tZ 18)), faZ 20 29 19 0, ldZ 21 3 20, ldZ 22 81 2, rZ 23 (.nilCheck (tZ 22)), faZ 24 29 23 1, ldZ 25 3 24, rZ 26 (.makeFunc (.func (69 : Nat)) #[] #[(tZ 2)]), rZ 27 (.call ⟨(.value (.func (65 : Nat))), #[(tZ 21), (tZ 25), (tZ 26)], #[3, 3, 121]⟩), stZ 29 5 27]
def bitmap_Turned_a4 : List (List Nat) := [[], [0], [1], [2], [], [4], [5], [6], [], [3, 7, 8], [9, 9, 0, 1, 2, 3, 4, 5, 6, 7, 8, 9]]
def bitmap_Turned_r5 : List SO := [mvZ 28 1, bcZ 29 .rem 3 28 4 3, rZ 30 (.move (ciZ 0))]
def bitmap_Turned_r6 : List SO := [boZ 31 .lss 3 30 29 3]
def bitmap_Turned_r7 : List SO := [ldZ 32 29 5, rZ 6 (.alloc 29), stZ 29 6 32]
def bitmap_Turned_r8 : List SO := [faZ 33 29 6 1, ldZ 34 3 33, faZ 35 29 6 0, ldZ 36 3 35, rZ 37 (.makeFunc (.func (70 : Nat)) #[] #[(tZ 6)]), rZ 38 (.call ⟨(.value (.func (65 : Nat))), #[(tZ 34), (tZ 36), (tZ 37)], #[3, 3, 121]⟩), stZ 29 5 38]
def bitmap_Turned_r9 : List SO := [bcZ 39 .add 3 30 1 3, mvZ 30 39]
def bitmap_Turned_r10 : List SO := [ldZ 40 29 5, stZ 29 4 40]
def bitmap_Turned_c : SF := ⟨41, (.seq (.reg bitmap_Turned_r0)
  (.seq (.reg bitmap_Turned_r1)
  (.seq (.reg bitmap_Turned_r2)
  (.seq (.seq (.reg bitmap_Turned_r3)
  (.cond (tZ 17) (.regd bitmap_Turned_r4 bitmap_Turned_a4) .skip))
  (.seq (.seq (.reg bitmap_Turned_r5)
  (.block 0 (.loop (.seq (.reg bitmap_Turned_r6)
  (.seq (.cond (tZ 31) .skip (.exit 0))
  (.seq (.block 1 (.seq (.reg bitmap_Turned_r7)
  (.reg bitmap_Turned_r8)))
  (.reg bitmap_Turned_r9)))))))
  (.seq (.reg bitmap_Turned_r10)
  .ret)))))), [.cell 4 29]⟩
theorem bitmap_Turned_s : slimF Try.prog 49 = some bitmap_Turned_c := by kernel_rfl
abbrev bitmap_Turned_f : Nat := 49
/-- printworks/bitmap.Is -/
def bitmap_Is_r0 : List SO := [rZ 6 (.assign (.const (.bool false)))]
def bitmap_Is_r1 : List SO := [mvZ 7 1, bcZ 8 .geq 3 7 0 3, mvZ 9 8, gZ 9 true (mvZ 10 1), gZ 9 true (mvZ 11 0), gZ 9 true (rZ 12 (.nilCheck (tZ 11))), gZ 9 true (faZ 13 29 12 0), gZ 9 true (ldZ 14 3 13), gZ 9 true (boZ 15 .lss 3 10 14 3), rZ 16 (.pick (tZ 9) (tZ 15) (.const (.bool false))), mvZ 17 16, gZ 17 true (mvZ 18 2), gZ 17 true (bcZ 19 .geq 3 18 0 3), rZ 20 (.pick (tZ 17) (tZ 19) (.const (.bool false))), mvZ 21 20, gZ 21 true (mvZ 22 2), gZ 21 true (mvZ 23 0), gZ 21 true (rZ 24 (.nilCheck (tZ 23))), gZ 21 true (faZ 25 29 24 1), gZ 21 true (ldZ 26 3 25), gZ 21 true (boZ 27 .lss 3 22 26 3), rZ 28 (.pick (tZ 21) (tZ 27) (.const (.bool false))), mvZ 29 28, gZ 29 true (mvZ 30 0), gZ 29 true (rZ 31 (.nilCheck (tZ 30))), gZ 29 true (faZ 32 29 31 2), gZ 29 true (ldZ 33 22 32), gZ 29 true (mvZ 34 2), gZ 29 true (mvZ 35 0), gZ 29 true (rZ 36 (.nilCheck (tZ 35))), gZ 29 true (faZ 37 29 36 0), gZ 29 true (ldZ 38 3 37), gZ 29 true (rZ 39 (.call ⟨(.value (.func (39 : Nat))), #[(tZ 38)], #[3]⟩)), gZ 29 true (boZ 40 .mul 3 34 39 3), gZ 29 true (mvZ 41 1), gZ 29 true (bcZ 42 .quo 3 41 8 3), gZ 29 true (boZ 43 .add 3 40 42 3), gZ 29 true (iaZ 44 22 33 43), gZ 29 true (ldZ 45 5 44), gZ 29 true (mvZ 46 1), gZ 29 true (bcZ 47 .rem 3 46 8 3), gZ 29 true (rZ 48 (.binOp .shr 5 (.const (.int .u8 128)) (tZ 47) 3)), gZ 29 true (boZ 49 .and 5 45 48 5), gZ 29 true (rZ 50 (.binOp .neq 5 (tZ 49) (.const (.int .u8 0)) 5)), rZ 51 (.pick (tZ 29) (tZ 50) (.const (.bool false))), asZ 6 51]
def bitmap_Is_a1 : List (List Nat) := [[], [0], [1], [2], [2], [4, 2], [5, 2], [6, 2], [3, 7, 2], [2, 8], [9, 2], [10], [11, 10], [10, 12], [13, 10], [14], [14], [16, 14], [17, 14], [18, 14], [15, 19, 14], [14, 20], [21, 14], [22], [23, 22], [24, 22], [25, 22], [22], [22], [28, 22], [29, 22], [30, 22], [31, 22, 22], [27, 32, 22], [22], [34, 22], [33, 35, 22], [26, 36, 22], [37, 22], [22], [39, 22], [40, 22], [38, 41, 22], [42, 22], [22, 43], [44, 32, 0, 1, 2, 3, 4, 5, 6, 7, 8, 9, 10, 11, 12, 13, 14, 15, 16, 17, 18, 19, 20, 21, 22, 23, 24, 25, 26, 27, 28, 29, 30, 31, 32, 33, 34, 35, 36, 37, 38, 39, 40, 41, 42, 43, 44]]
def bitmap_Is_c : SF := ⟨52, (.seq (.reg bitmap_Is_r0)
  (.seq (.regd bitmap_Is_r1 bitmap_Is_a1)
  .ret)), [.tmp 6]⟩
theorem bitmap_Is_s : slimF Try.prog 51 = some bitmap_Is_c := by kernel_rfl
abbrev bitmap_Is_f : Nat := 51
/-- printworks/bitmap.from -/
def bitmap_from_r0 : List SO := [rZ 6 (.alloc 29)]
def bitmap_from_r1 : List SO := [mvZ 10 0, mvZ 11 1, rZ 12 (.call ⟨(.value (.func (36 : Nat))), #[(tZ 10), (tZ 11)], #[3, 3]⟩), rZ 7 (.alloc 29), stZ 29 7 12]
def bitmap_from_r2 : List SO := [mvZ 13 1, rZ 14 (.move (ciZ 0))]
def bitmap_from_r3 : List SO := [boZ 15 .lss 3 14 13 3]
def bitmap_from_r4 : List SO := [mvZ 16 14, asZ 8 16]
def bitmap_from_r5 : List SO := [mvZ 17 0, rZ 18 (.move (ciZ 0))]
def bitmap_from_r6 : List SO := [boZ 19 .lss 3 18 17 3]
def bitmap_from_r7 : List SO := [mvZ 20 18, asZ 9 20]
def bitmap_from_r8 : List SO := [mvZ 21 2, mvZ 22 9, mvZ 23 8, rZ 24 (.call ⟨(.value (tZ 21)), #[(tZ 22), (tZ 23)], #[3, 3]⟩)]
def bitmap_from_r9 : List SO := [mvZ 25 9, mvZ 26 8, rZ 27 (.call ⟨(.value (.func (38 : Nat))), #[(tZ 7), (tZ 25), (tZ 26)], #[81, 3, 3]⟩)]
def bitmap_from_r10 : List SO := [bcZ 28 .add 3 18 1 3, mvZ 18 28]
def bitmap_from_r11 : List SO := [bcZ 29 .add 3 14 1 3, mvZ 14 29]
def bitmap_from_r12 : List SO := [ldZ 30 29 7, stZ 29 6 30]
def bitmap_from_c : SF := ⟨31, (.seq (.reg bitmap_from_r0)
  (.seq (.reg bitmap_from_r1)
  (.seq (.seq (.reg bitmap_from_r2)
  (.block 0 (.loop (.seq (.reg bitmap_from_r3)
  (.seq (.cond (tZ 15) .skip (.exit 0))
  (.seq (.block 1 (.seq (.reg bitmap_from_r4)
  (.seq (.reg bitmap_from_r5)
  (.block 2 (.loop (.seq (.reg bitmap_from_r6)
  (.seq (.cond (tZ 19) .skip (.exit 2))
  (.seq (.block 3 (.seq (.reg bitmap_from_r7)
  (.seq (.reg bitmap_from_r8)
  (.cond (tZ 24) (.reg bitmap_from_r9) .skip))))
  (.reg bitmap_from_r10)))))))))
  (.reg bitmap_from_r11)))))))
  (.seq (.reg bitmap_from_r12)
  .ret)))), [.cell 6 29]⟩
theorem bitmap_from_s : slimF Try.prog 65 = some bitmap_from_c := by kernel_rfl
abbrev bitmap_from_f : Nat := 65
/-- printworks/bitmap.Turned$1 -/
def bitmap_Turned_1_r0 : List SO := [rZ 5 (.assign (.const (.bool false)))]
def bitmap_Turned_1_r1 : List SO := [ldZ 6 81 2, ldZ 7 81 2, rZ 8 (.nilCheck (tZ 7)), faZ 9 29 8 0, ldZ 10 3 9, bcZ 11 .sub 3 10 1 3, mvZ 12 0, boZ 13 .sub 3 11 12 3, mvZ 14 1, rZ 15 (.call ⟨(.value (.func (51 : Nat))), #[(tZ 6), (tZ 13), (tZ 14)], #[81, 3, 3]⟩), asZ 5 15]
def bitmap_Turned_1_a1 : List (List Nat) := [[], [], [1], [2], [3], [4], [], [5, 6], [], [0, 7, 8], [9, 9, 0, 1, 2, 3, 4, 5, 6, 7, 8, 9]]
def bitmap_Turned_1_c : SF := ⟨16, (.seq (.reg bitmap_Turned_1_r0)
  (.seq (.regd bitmap_Turned_1_r1 bitmap_Turned_1_a1)
  .ret)), [.tmp 5]⟩
theorem bitmap_Turned_1_s : slimF Try.prog 69 = some bitmap_Turned_1_c := by kernel_rfl
abbrev bitmap_Turned_1_f : Nat := 69
/-- printworks/bitmap.Turned$2 -/
def bitmap_Turned_2_r0 : List SO := [rZ 5 (.assign (.const (.bool false)))]
def bitmap_Turned_2_r1 : List SO := [mvZ 6 1, faZ 7 29 2 1, ldZ 8 3 7, bcZ 9 .sub 3 8 1 3, mvZ 10 0, boZ 11 .sub 3 9 10 3, rZ 12 (.call ⟨(.value (.func (51 : Nat))), #[(tZ 2), (tZ 6), (tZ 11)], #[81, 3, 3]⟩), asZ 5 12]
def bitmap_Turned_2_c : SF := ⟨13, (.seq (.reg bitmap_Turned_2_r0)
  (.seq (.reg bitmap_Turned_2_r1)
  .ret)), [.tmp 5]⟩
theorem bitmap_Turned_2_s : slimF Try.prog 70 = some bitmap_Turned_2_c := by kernel_rfl
abbrev bitmap_Turned_2_f : Nat := 70
end Go.Proofs.Ythkilkjngincpaa
namespace Go.Proofs.Ythkilkjngincpaa
open Go Go.Lite
set_option linter.unusedVariables false

/-- printworks/printworksref2.Mod -/
def R2_Mod_r0 : List SO := [rZ 4 (.assign (ciZ 0))]
def R2_Mod_r1 : List SO := [mvZ 5 0, mvZ 6 1, mvZ 7 0, mvZ 8 1, rZ 9 (.call ⟨(.value (.func (34 : Nat))), #[(tZ 7), (tZ 8)], #[3, 3]⟩), boZ 10 .mul 3 6 9 3, boZ 11 .sub 3 5 10 3, asZ 4 11]
def R2_Mod_c : SF := ⟨12, (.seq (.reg R2_Mod_r0)
  (.seq (.reg R2_Mod_r1)
  .ret)), [.tmp 4]⟩
theorem R2_Mod_s : slimF Try.prog 9 = some R2_Mod_c := by kernel_rfl
abbrev R2_Mod_f : Nat := 9
/-- printworks/printworksref2.Bit -/
def R2_Bit_r0 : List SO := [rZ 3 (.box 29 (tZ 0)), rZ 6 (.assign (.const (.bool false)))]
def R2_Bit_r1 : List SO := [mvZ 7 1, faZ 8 29 3 0, ldZ 9 3 8, bcZ 10 .sub 3 9 1 3, rZ 11 (.call ⟨(.value (.func (40 : Nat))), #[(tZ 7), (ciZ 0), (tZ 10)], #[3, 3, 3]⟩), rZ 12 (.unOp .not 4 (tZ 11)), mvZ 13 12, gZ 13 false (mvZ 14 2), gZ 13 false (faZ 15 29 3 1), gZ 13 false (ldZ 16 3 15), gZ 13 false (bcZ 17 .sub 3 16 1 3), gZ 13 false (rZ 18 (.call ⟨(.value (.func (40 : Nat))), #[(tZ 14), (ciZ 0), (tZ 17)], #[3, 3, 3]⟩)), gZ 13 false (rZ 19 (.unOp .not 4 (tZ 18))), rZ 20 (.pick (tZ 13) (.const (.bool true)) (tZ 19))]
def R2_Bit_r2 : List SO := [rZ 6 (.assign (.const (.bool false)))]
def R2_Bit_r3 : List SO := [faZ 21 29 3 2, ldZ 22 22 21, mvZ 23 2, faZ 24 29 3 0, ldZ 25 3 24, bcZ 26 .add 3 25 7 3, bcZ 27 .quo 3 26 8 3, boZ 28 .mul 3 23 27 3, mvZ 29 1, bcZ 30 .quo 3 29 8 3, boZ 31 .add 3 28 30 3, iaZ 32 22 22 31, ldZ 33 5 32, mvZ 34 1, bcZ 35 .rem 3 34 8 3, boZ 36 .shl 5 33 35 3, rZ 37 (.binOp .and 5 (tZ 36) (.const (.int .u8 128)) 5), rZ 38 (.binOp .neq 5 (tZ 37) (.const (.int .u8 0)) 5), asZ 6 38]
def R2_Bit_c : SF := ⟨39, (.seq (.reg R2_Bit_r0)
  (.seq (.seq (.reg R2_Bit_r1)
  (.cond (tZ 20) (.seq (.reg R2_Bit_r2)
  .ret) .skip))
  (.seq (.reg R2_Bit_r3)
  .ret))), [.tmp 6]⟩
theorem R2_Bit_s : slimF Try.prog 13 = some R2_Bit_c := by kernel_rfl
abbrev R2_Bit_f : Nat := 13
/-- printworks/printworksref2.SameBytes -/
def R2_SameBytes_r0 : List SO := [rZ 4 (.assign (.const (.bool false)))]
def R2_SameBytes_r1 : List SO := [mvZ 5 0, rZ 6 (.convert 22 9 (tZ 5)), mvZ 7 1, rZ 8 (.convert 22 9 (tZ 7)), boZ 9 .eql 9 6 8 9, asZ 4 9]
def R2_SameBytes_c : SF := ⟨10, (.seq (.reg R2_SameBytes_r0)
  (.seq (.reg R2_SameBytes_r1)
  .ret)), [.tmp 4]⟩
theorem R2_SameBytes_s : slimF Try.prog 15 = some R2_SameBytes_c := by kernel_rfl
abbrev R2_SameBytes_f : Nat := 15
/-- printworks/printworksref2.Border -/
def R2_Border_r0 : List SO := [rZ 6 (.assign (ciZ 0))]
def R2_Border_r1 : List SO := [mvZ 8 1, bcZ 9 .eql 3 8 0 3, asZ 7 9]
def R2_Border_r2 : List SO := [mvZ 10 2, mvZ 11 0, bcZ 12 .sub 3 11 1 3, boZ 13 .eql 3 10 12 3, asZ 7 13]
def R2_Border_r3 : List SO := [rZ 6 (.assign (ciZ 1))]
def R2_Border_r4 : List SO := [mvZ 15 2, bcZ 16 .eql 3 15 0 3, asZ 14 16]
def R2_Border_r5 : List SO := [mvZ 17 1, bcZ 18 .rem 3 17 2 3, rZ 19 (.binOp .sub 3 (ciZ 1) (tZ 18) 3), asZ 6 19]
def R2_Border_r6 : List SO := [mvZ 21 1, mvZ 22 0, bcZ 23 .sub 3 22 1 3, boZ 24 .eql 3 21 23 3, asZ 20 24]
def R2_Border_r7 : List SO := [mvZ 25 0, bcZ 26 .sub 3 25 1 3, mvZ 27 2, boZ 28 .sub 3 26 27 3, bcZ 29 .rem 3 28 2 3, rZ 30 (.binOp .sub 3 (ciZ 1) (tZ 29) 3), asZ 6 30]
def R2_Border_r8 : List SO := [rZ 6 (.assign (ciZ 2))]
def R2_Border_c : SF := ⟨31, (.seq (.reg R2_Border_r0)
  (.seq (.block 0 (.seq (.seq (.reg R2_Border_r1)
  (.cond (tZ 7) .skip (.reg R2_Border_r2)))
  (.cond (tZ 7) (.seq (.reg R2_Border_r3)
  .ret) (.seq (.reg R2_Border_r4)
  (.cond (tZ 14) (.seq (.reg R2_Border_r5)
  .ret) (.seq (.reg R2_Border_r6)
  (.cond (tZ 20) (.seq (.reg R2_Border_r7)
  .ret) .skip)))))))
  (.seq (.reg R2_Border_r8)
  .ret))), [.tmp 6]⟩
theorem R2_Border_s : slimF Try.prog 19 = some R2_Border_c := by kernel_rfl
abbrev R2_Border_f : Nat := 19
/-- printworks/printworksref2.Drawn -/
def R2_Drawn_r0 : List SO := [rZ 6 (.alloc 29)]
def R2_Drawn_r1 : List SO := [mvZ 11 0, bcZ 12 .add 3 11 7 3, bcZ 13 .quo 3 12 8 3, asZ 7 13]
def R2_Drawn_r2 : List SO := [mvZ 14 0, mvZ 15 1, mvZ 16 7, mvZ 17 1, boZ 18 .mul 3 16 17 3, rZ 19 (.makeSlice 22 (tZ 18) (tZ 18)), rZ 20 (.build 29 #[(0, (tZ 14)), (1, (tZ 15)), (2, (tZ 19))]), rZ 8 (.alloc 29), stZ 29 8 20]
def R2_Drawn_r3 : List SO := [mvZ 21 2, rZ 22 (.call ⟨(.builtin .len), #[(tZ 21)], #[41]⟩), rZ 23 (.move (ciZ 0))]
def R2_Drawn_r4 : List SO := [boZ 24 .lss 3 23 22 3]
def R2_Drawn_r5 : List SO := [mvZ 25 23, iaZ 26 41 21 23, ldZ 27 4 26, asZ 9 25, asZ 10 27]
def R2_Drawn_r6 : List SO := [mvZ 28 10]
def R2_Drawn_r7 : List SO := [faZ 29 29 8 2, ldZ 30 22 29, mvZ 31 9, mvZ 32 0, boZ 33 .quo 3 31 32 3, mvZ 34 7, boZ 35 .mul 3 33 34 3, mvZ 36 9, mvZ 37 0, boZ 38 .rem 3 36 37 3, bcZ 39 .quo 3 38 8 3, boZ 40 .add 3 35 39 3, iaZ 41 22 30 40, ldZ 42 5 41, mvZ 43 9, mvZ 44 0, boZ 45 .rem 3 43 44 3, bcZ 46 .rem 3 45 8 3, rZ 47 (.binOp .shr 5 (.const (.int .u8 128)) (tZ 46) 3), boZ 48 .or 5 42 47 5, iaZ 49 22 30 40, stZ 5 49 48]
def R2_Drawn_a7 : List (List Nat) := [[], [0], [], [], [2, 3], [], [4, 5], [], [], [7, 8], [9], [6, 10], [1, 11], [12], [], [], [14, 15], [16], [17], [13, 18], [1, 11, 0, 1, 2, 3, 4, 5, 6, 7, 8, 9, 10, 11, 12, 13, 14, 15, 16, 17, 18, 19], [20, 19, 0, 1, 2, 3, 4, 5, 6, 7, 8, 9, 10, 11, 12, 13, 14, 15, 16, 17, 18, 19]]
def R2_Drawn_r8 : List SO := [bcZ 50 .add 3 23 1 3, mvZ 23 50]
def R2_Drawn_r9 : List SO := [ldZ 51 29 8, stZ 29 6 51]
def R2_Drawn_c : SF := ⟨52, (.seq (.reg R2_Drawn_r0)
  (.seq (.reg R2_Drawn_r1)
  (.seq (.reg R2_Drawn_r2)
  (.seq (.seq (.reg R2_Drawn_r3)
  (.block 0 (.loop (.seq (.reg R2_Drawn_r4)
  (.seq (.cond (tZ 24) .skip (.exit 0))
  (.seq (.block 1 (.seq (.reg R2_Drawn_r5)
  (.seq (.reg R2_Drawn_r6)
  (.cond (tZ 28) (.regd R2_Drawn_r7 R2_Drawn_a7) .skip))))
  (.reg R2_Drawn_r8)))))))
  (.seq (.reg R2_Drawn_r9)
  .ret))))), [.cell 6 29]⟩
theorem R2_Drawn_s : slimF Try.prog 21 = some R2_Drawn_c := by kernel_rfl
abbrev R2_Drawn_f : Nat := 21
/-- printworks/printworksref2.Floor -/
def R2_Floor_r0 : List SO := [rZ 4 (.assign (ciZ 0))]
def R2_Floor_r1 : List SO := [mvZ 6 0, mvZ 7 1, boZ 8 .quo 3 6 7 3, asZ 5 8]
def R2_Floor_r2 : List SO := [mvZ 9 5, mvZ 10 1, boZ 11 .mul 3 9 10 3, mvZ 12 0, boZ 13 .gtr 3 11 12 3]
def R2_Floor_r3 : List SO := [mvZ 14 5, bcZ 15 .sub 3 14 1 3, asZ 5 15]
def R2_Floor_r4 : List SO := [mvZ 16 5, asZ 4 16]
def R2_Floor_c : SF := ⟨17, (.seq (.reg R2_Floor_r0)
  (.seq (.reg R2_Floor_r1)
  (.seq (.seq (.reg R2_Floor_r2)
  (.cond (tZ 13) (.reg R2_Floor_r3) .skip))
  (.seq (.reg R2_Floor_r4)
  .ret)))), [.tmp 4]⟩
theorem R2_Floor_s : slimF Try.prog 34 = some R2_Floor_c := by kernel_rfl
abbrev R2_Floor_f : Nat := 34
/-- printworks/printworksref2.Within -/
def R2_Within_r0 : List SO := [rZ 6 (.assign (.const (.bool false)))]
def R2_Within_r1 : List SO := [mvZ 7 1, mvZ 8 0, boZ 9 .leq 3 7 8 3, mvZ 10 9, gZ 10 true (mvZ 11 0), gZ 10 true (mvZ 12 2), gZ 10 true (boZ 13 .leq 3 11 12 3), rZ 14 (.pick (tZ 10) (tZ 13) (.const (.bool false))), asZ 6 14]
def R2_Within_c : SF := ⟨15, (.seq (.reg R2_Within_r0)
  (.seq (.reg R2_Within_r1)
  .ret)), [.tmp 6]⟩
theorem R2_Within_s : slimF Try.prog 40 = some R2_Within_c := by kernel_rfl
abbrev R2_Within_f : Nat := 40

end Go.Proofs.Ythkilkjngincpaa
namespace Go.Proofs.Ythkilkjngincpaa
open Go Go.Lite
set_option linter.unusedVariables false

/-- printworks/printworkskeep2.matrixWorks -/
def K2_matrixWorks_r0 : List SO := [rZ 0 (.assign (.const (.bool false)))]
def K2_matrixWorks_r1 : List SO := [rZ 12 (.call ⟨(.value (.func (11 : Nat))), #[(.const (.slice none 0 0)), (ciZ 8)], #[22, 3]⟩), mvZ 11 12, exZ 13 11 0, exZ 14 11 1, rZ 1 (.alloc 29), stZ 29 1 13, asZ 2 14]
def K2_matrixWorks_r2 : List SO := [rZ 16 (.call ⟨(.value (.func (10 : Nat))), #[(ciZ 12)], #[3]⟩), mvZ 15 16, exZ 17 15 0, exZ 18 15 1, exZ 19 15 2, exZ 20 15 3, asZ 3 17, asZ 4 18, asZ 5 19, asZ 6 20]
def K2_matrixWorks_r3 : List SO := [rZ 22 (.buildSlice 22 8 #[(0, (.const (.int .u8 170))), (1, (.const (.int .u8 129))), (2, (.const (.int .u8 128))), (3, (.const (.int .u8 129))), (4, (.const (.int .u8 128))), (5, (.const (.int .u8 129))), (6, (.const (.int .u8 128))), (7, (.const (.int .u8 255)))]), rZ 23 (.build 29 #[(0, (ciZ 8)), (1, (ciZ 8)), (2, (tZ 22))]), rZ 24 (.call ⟨(.value (.func (22 : Nat))), #[(tZ 23)], #[29]⟩), mvZ 21 24, exZ 25 21 0, exZ 26 21 1, exZ 27 21 2, exZ 28 21 3, asZ 7 25, asZ 8 26, asZ 9 27, asZ 10 28]
def K2_matrixWorks_r4 : List SO := [mvZ 29 2, bcZ 30 .eql 25 29 0 25, mvZ 31 30, gZ 31 true (faZ 32 29 1 2), gZ 31 true (ldZ 33 22 32), gZ 31 true (rZ 34 (.buildSlice 22 8 #[(0, (.const (.int .u8 170))), (1, (.const (.int .u8 129))), (2, (.const (.int .u8 128))), (3, (.const (.int .u8 129))), (4, (.const (.int .u8 128))), (5, (.const (.int .u8 129))), (6, (.const (.int .u8 128))), (7, (.const (.int .u8 255)))])), gZ 31 true (rZ 35 (.call ⟨(.value (.func (15 : Nat))), #[(tZ 33), (tZ 34)], #[22, 22]⟩)), rZ 36 (.pick (tZ 31) (tZ 35) (.const (.bool false))), mvZ 37 36, gZ 37 true (mvZ 38 6), gZ 37 true (bcZ 39 .eql 25 38 0 25), rZ 40 (.pick (tZ 37) (tZ 39) (.const (.bool false))), mvZ 41 40, gZ 41 true (mvZ 42 3), gZ 41 true (bcZ 43 .eql 3 42 12 3), rZ 44 (.pick (tZ 41) (tZ 43) (.const (.bool false))), mvZ 45 44, gZ 45 true (mvZ 46 4), gZ 45 true (bcZ 47 .eql 3 46 4 3), rZ 48 (.pick (tZ 45) (tZ 47) (.const (.bool false))), mvZ 49 48, gZ 49 true (mvZ 50 5), gZ 49 true (bcZ 51 .eql 3 50 7 3), rZ 52 (.pick (tZ 49) (tZ 51) (.const (.bool false))), mvZ 53 52, gZ 53 true (mvZ 54 10), gZ 53 true (bcZ 55 .eql 25 54 0 25), rZ 56 (.pick (tZ 53) (tZ 55) (.const (.bool false))), mvZ 57 56, gZ 57 true (mvZ 58 8), gZ 57 true (bcZ 59 .eql 3 58 0 3), rZ 60 (.pick (tZ 57) (tZ 59) (.const (.bool false))), mvZ 61 60, gZ 61 true (mvZ 62 9), gZ 61 true (bcZ 63 .eql 3 62 0 3), rZ 64 (.pick (tZ 61) (tZ 63) (.const (.bool false))), asZ 0 64]
def K2_matrixWorks_c : SF := ⟨65, (.seq (.reg K2_matrixWorks_r0)
  (.seq (.reg K2_matrixWorks_r1)
  (.seq (.reg K2_matrixWorks_r2)
  (.seq (.reg K2_matrixWorks_r3)
  (.seq (.reg K2_matrixWorks_r4)
  .ret))))), [.tmp 0]⟩
theorem K2_matrixWorks_s : slimF Try.prog 8 = some K2_matrixWorks_c := by kernel_rfl
abbrev K2_matrixWorks_f : Nat := 8
end Go.Proofs.Ythkilkjngincpaa
namespace Go.Proofs.Ythkilkjngincpaa
open Go Go.Lite
set_option linter.unusedVariables false

/-- printworks/printworkskeep2.MatrixReturns -/
def K2_MatrixReturns_r0 : List SO := [rZ 10 (.assign (.const (.bool false)))]
def K2_MatrixReturns_r1 : List SO := [rZ 34 (.call ⟨(.value (.func (8 : Nat))), #[], #[]⟩), rZ 35 (.unOp .not 4 (tZ 34))]
def K2_MatrixReturns_r2 : List SO := [rZ 10 (.assign (.const (.bool false)))]
def K2_MatrixReturns_r3 : List SO := [mvZ 36 1, rZ 37 (.call ⟨(.value (.func (9 : Nat))), #[(tZ 36), (ciZ 13)], #[3, 3]⟩), rZ 38 (.binOp .mul 3 (ciZ 2) (tZ 37) 3), rZ 39 (.binOp .add 3 (ciZ 8) (tZ 38) 3), mvZ 40 2, rZ 41 (.call ⟨(.value (.func (9 : Nat))), #[(tZ 40), (ciZ 4)], #[3, 3]⟩), asZ 1 39, asZ 2 41]
def K2_MatrixReturns_r4 : List SO := [mvZ 43 1, rZ 44 (.call ⟨(.value (.func (10 : Nat))), #[(tZ 43)], #[3]⟩), mvZ 42 44, exZ 45 42 0, exZ 46 42 1, exZ 47 42 2, exZ 48 42 3, asZ 11 45, asZ 12 46, asZ 13 47, asZ 14 48]
def K2_MatrixReturns_r5 : List SO := [mvZ 49 14, bcZ 50 .neq 25 49 0 25, mvZ 51 50, gZ 51 false (mvZ 52 13), gZ 51 false (bcZ 53 .lss 3 52 1 3), rZ 54 (.pick (tZ 51) (.const (.bool true)) (tZ 53))]
def K2_MatrixReturns_r6 : List SO := [rZ 10 (.assign (.const (.bool false)))]
def K2_MatrixReturns_r7 : List SO := [mvZ 55 0, mvZ 56 0, rZ 57 (.call ⟨(.builtin .len), #[(tZ 56)], #[22]⟩), mvZ 58 13, rZ 59 (.call ⟨(.builtin .min), #[(tZ 57), (tZ 58)], #[3, 3]⟩), rZ 60 (.slice 22 (tZ 55) none (some (tZ 59)) none), asZ 0 60]
def K2_MatrixReturns_r8 : List SO := [mvZ 62 0, mvZ 63 1, rZ 64 (.call ⟨(.value (.func (11 : Nat))), #[(tZ 62), (tZ 63)], #[22, 3]⟩), mvZ 61 64, exZ 65 61 0, exZ 66 61 1, rZ 15 (.alloc 29), stZ 29 15 65, asZ 16 66]
def K2_MatrixReturns_r9 : List SO := [mvZ 67 16, bcZ 68 .neq 25 67 0 25, mvZ 69 68, gZ 69 false (faZ 70 29 15 0), gZ 69 false (ldZ 71 3 70), gZ 69 false (mvZ 72 1), gZ 69 false (boZ 73 .neq 3 71 72 3), rZ 74 (.pick (tZ 69) (.const (.bool true)) (tZ 73)), mvZ 75 74, gZ 75 false (faZ 76 29 15 1), gZ 75 false (ldZ 77 3 76), gZ 75 false (mvZ 78 1), gZ 75 false (boZ 79 .neq 3 77 78 3), rZ 80 (.pick (tZ 75) (.const (.bool true)) (tZ 79)), mvZ 81 80, gZ 81 false (ldZ 82 29 15), gZ 81 false (rZ 83 (.call ⟨(.value (.func (12 : Nat))), #[(tZ 82)], #[29]⟩)), gZ 81 false (bcZ 84 .neq 25 83 0 25), rZ 85 (.pick (tZ 81) (.const (.bool true)) (tZ 84))]
def K2_MatrixReturns_r10 : List SO := [rZ 10 (.assign (.const (.bool false)))]
def K2_MatrixReturns_r11 : List SO := [mvZ 86 1, mvZ 87 1, boZ 88 .mul 3 86 87 3, rZ 89 (.makeSlice 41 (tZ 88) (tZ 88)), asZ 17 89]
def K2_MatrixReturns_r12 : List SO := [rZ 18 (.assign (.const (.slice none 0 0))), rZ 19 (.assign (.const (.slice none 0 0)))]
def K2_MatrixReturns_r13 : List SO := [mvZ 90 17, rZ 91 (.call ⟨(.builtin .len), #[(tZ 90)], #[41]⟩), rZ 92 (.move (ciZ 0))]
def K2_MatrixReturns_r14 : List SO := [boZ 93 .lss 3 92 91 3]
def K2_MatrixReturns_r15 : List SO := [mvZ 94 92, asZ 20 94]
def K2_MatrixReturns_r16 : List SO := [mvZ 95 17, mvZ 96 20, ldZ 97 29 15, mvZ 98 20, mvZ 99 1, boZ 100 .rem 3 98 99 3, mvZ 101 20, mvZ 102 1, boZ 103 .quo 3 101 102 3, rZ 104 (.call ⟨(.value (.func (13 : Nat))), #[(tZ 97), (tZ 100), (tZ 103)], #[29, 3, 3]⟩), iaZ 105 41 95 96, stZ 4 105 104]
def K2_MatrixReturns_a16 : List (List Nat) := [[], [], [], [], [], [3, 4], [], [], [6, 7], [2, 5, 8], [0, 1, 0, 1, 2, 3, 4, 5, 6, 7, 8, 9], [10, 9, 9, 0, 1, 2, 3, 4, 5, 6, 7, 8, 9]]
def K2_MatrixReturns_r17 : List SO := [mvZ 106 1, mvZ 107 20, mvZ 108 1, boZ 109 .rem 3 107 108 3, mvZ 110 20, mvZ 111 1, boZ 112 .quo 3 110 111 3, rZ 113 (.call ⟨(.value (.func (19 : Nat))), #[(tZ 106), (tZ 109), (tZ 112)], #[3, 3, 3]⟩), bcZ 114 .eql 3 113 2 3]
def K2_MatrixReturns_a17 : List (List Nat) := [[], [], [], [1, 2], [], [], [4, 5], [0, 3, 6], [7]]
def K2_MatrixReturns_r18 : List SO := [mvZ 115 18, mvZ 116 20, rZ 117 (.buildSlice 38 1 #[(0, (tZ 116))]), rZ 118 (.call ⟨(.builtin .append), #[(tZ 115), (tZ 117)], #[38, 38]⟩), asZ 18 118]
def K2_MatrixReturns_r19 : List SO := [mvZ 119 19, mvZ 120 20, rZ 121 (.buildSlice 38 1 #[(0, (tZ 120))]), rZ 122 (.call ⟨(.builtin .append), #[(tZ 119), (tZ 121)], #[38, 38]⟩), asZ 19 122]
def K2_MatrixReturns_r20 : List SO := [bcZ 123 .add 3 92 1 3, mvZ 92 123]
def K2_MatrixReturns_r21 : List SO := [mvZ 124 11, rZ 125 (.makeSlice 41 (tZ 124) (tZ 124)), asZ 21 125]
def K2_MatrixReturns_r22 : List SO := [mvZ 126 12, bcZ 127 .quo 3 126 2 3, asZ 22 127]
def K2_MatrixReturns_r23 : List SO := [mvZ 128 3, rZ 129 (.call ⟨(.builtin .len), #[(tZ 128)], #[38]⟩), rZ 130 (.move (ciZ 0))]
def K2_MatrixReturns_r24 : List SO := [boZ 131 .lss 3 130 129 3]
def K2_MatrixReturns_r25 : List SO := [iaZ 132 38 128 130, ldZ 133 3 132, asZ 24 133]
def K2_MatrixReturns_r26 : List SO := [mvZ 134 24, mvZ 135 11, rZ 136 (.binOp .mul 3 (ciZ 8) (tZ 135) 3), rZ 137 (.call ⟨(.value (.func (9 : Nat))), #[(tZ 134), (tZ 136)], #[3, 3]⟩), asZ 25 137]
def K2_MatrixReturns_r27 : List SO := [mvZ 138 21, mvZ 139 25, bcZ 140 .quo 3 139 8 3, iaZ 141 41 138 140, ldZ 142 4 141, rZ 143 (.unOp .not 4 (tZ 142))]
def K2_MatrixReturns_r28 : List SO := [mvZ 144 22, bcZ 145 .eql 3 144 0 3]
def K2_MatrixReturns_r29 : List SO := [mvZ 146 22, bcZ 147 .sub 3 146 1 3, asZ 22 147]
def K2_MatrixReturns_r30 : List SO := [mvZ 148 21, mvZ 149 25, bcZ 150 .quo 3 149 8 3, iaZ 151 41 148 150, ⟨none, .store 4 (tZ 151) (.const (.bool true)), none⟩]
def K2_MatrixReturns_r31 : List SO := [mvZ 152 17, mvZ 153 18, mvZ 154 25, iaZ 155 38 153 154, ldZ 156 3 155, mvZ 157 17, mvZ 158 18, mvZ 159 25, iaZ 160 38 158 159, ldZ 161 3 160, iaZ 162 41 157 161, ldZ 163 4 162, rZ 164 (.unOp .not 4 (tZ 163)), iaZ 165 41 152 156, stZ 4 165 164]
def K2_MatrixReturns_a31 : List (List Nat) := [[], [], [], [1, 2], [3], [], [], [], [6, 7], [8], [5, 9], [10], [11], [0, 4, 0, 1, 2, 3, 4, 5, 6, 7, 8, 9, 10, 11, 12], [13, 12, 0, 1, 2, 3, 4, 5, 6, 7, 8, 9, 10, 11, 12]]
def K2_MatrixReturns_r32 : List SO := [bcZ 166 .add 3 130 1 3, mvZ 130 166]
def K2_MatrixReturns_r33 : List SO := [mvZ 167 4, mvZ 168 4, rZ 169 (.call ⟨(.builtin .len), #[(tZ 168)], #[38]⟩), mvZ 170 1, bcZ 171 .quo 3 170 4 3, rZ 172 (.call ⟨(.builtin .min), #[(tZ 169), (tZ 171)], #[3, 3]⟩), rZ 173 (.slice 38 (tZ 167) none (some (tZ 172)) none), rZ 174 (.call ⟨(.builtin .len), #[(tZ 173)], #[38]⟩), rZ 175 (.move (ciZ 0))]
def K2_MatrixReturns_r34 : List SO := [boZ 176 .lss 3 175 174 3]
def K2_MatrixReturns_r35 : List SO := [iaZ 177 38 173 175, ldZ 178 3 177, asZ 27 178]
def K2_MatrixReturns_r36 : List SO := [mvZ 179 17, mvZ 180 19, mvZ 181 27, mvZ 182 19, rZ 183 (.call ⟨(.builtin .len), #[(tZ 182)], #[38]⟩), rZ 184 (.call ⟨(.value (.func (9 : Nat))), #[(tZ 181), (tZ 183)], #[3, 3]⟩), iaZ 185 38 180 184, ldZ 186 3 185, mvZ 187 17, mvZ 188 19, mvZ 189 27, mvZ 190 19, rZ 191 (.call ⟨(.builtin .len), #[(tZ 190)], #[38]⟩), rZ 192 (.call ⟨(.value (.func (9 : Nat))), #[(tZ 189), (tZ 191)], #[3, 3]⟩), iaZ 193 38 188 192, ldZ 194 3 193, iaZ 195 41 187 194, ldZ 196 4 195, rZ 197 (.unOp .not 4 (tZ 196)), iaZ 198 41 179 186, stZ 4 198 197]
def K2_MatrixReturns_a36 : List (List Nat) := [[], [], [], [], [3], [2, 4], [1, 5], [6], [], [], [], [], [11], [10, 12, 5], [9, 13], [14], [8, 15], [16], [17], [0, 7, 0, 1, 2, 3, 4, 5, 6, 7, 8, 9, 10, 11, 12, 13, 14, 15, 16, 17, 18], [19, 18, 13, 0, 1, 2, 3, 4, 5, 6, 7, 8, 9, 10, 11, 12, 13, 14, 15, 16, 17, 18]]
def K2_MatrixReturns_r37 : List SO := [bcZ 199 .add 3 175 1 3, mvZ 175 199]
def K2_MatrixReturns_r38 : List SO := [mvZ 201 1, mvZ 202 1, mvZ 203 17, rZ 204 (.call ⟨(.value (.func (21 : Nat))), #[(tZ 201), (tZ 202), (tZ 203)], #[3, 3, 41]⟩), mvZ 205 2, rZ 206 (.call ⟨(.value (.func (20 : Nat))), #[(tZ 204), (tZ 205)], #[29, 3]⟩), mvZ 200 206, exZ 207 200 0, exZ 208 200 1, rZ 28 (.alloc 29), stZ 29 28 207, asZ 29 208]
def K2_MatrixReturns_r39 : List SO := [ldZ 210 29 28, rZ 211 (.call ⟨(.value (.func (22 : Nat))), #[(tZ 210)], #[29]⟩), mvZ 209 211, exZ 212 209 0, exZ 213 209 1, exZ 214 209 2, exZ 215 209 3, asZ 30 212, asZ 31 213, asZ 32 214, asZ 33 215]
def K2_MatrixReturns_r40 : List SO := [mvZ 216 29, bcZ 217 .eql 25 216 0 25, mvZ 218 217, gZ 218 true (mvZ 219 33), gZ 218 true (bcZ 220 .eql 25 219 0 25), rZ 221 (.pick (tZ 218) (tZ 220) (.const (.bool false))), mvZ 222 221, gZ 222 true (mvZ 223 30), gZ 222 true (mvZ 224 0), gZ 222 true (rZ 225 (.call ⟨(.value (.func (15 : Nat))), #[(tZ 223), (tZ 224)], #[22, 22]⟩)), rZ 226 (.pick (tZ 222) (tZ 225) (.const (.bool false))), mvZ 227 226, gZ 227 true (mvZ 228 31), gZ 227 true (mvZ 229 12), gZ 227 true (bcZ 230 .quo 3 229 2 3), gZ 227 true (boZ 231 .leq 3 228 230 3), rZ 232 (.pick (tZ 227) (tZ 231) (.const (.bool false))), mvZ 233 232, gZ 233 true (mvZ 234 32), gZ 233 true (mvZ 235 2), gZ 233 true (rZ 236 (.binOp .sub 3 (ciZ 4) (tZ 235) 3)), gZ 233 true (bcZ 237 .rem 3 236 4 3), gZ 233 true (boZ 238 .eql 3 234 237 3), rZ 239 (.pick (tZ 233) (tZ 238) (.const (.bool false))), asZ 10 239]
def K2_MatrixReturns_c : SF := ⟨240, (.seq (.reg K2_MatrixReturns_r0)
  (.seq (.seq (.reg K2_MatrixReturns_r1)
  (.cond (tZ 35) (.seq (.reg K2_MatrixReturns_r2)
  .ret) .skip))
  (.seq (.reg K2_MatrixReturns_r3)
  (.seq (.reg K2_MatrixReturns_r4)
  (.seq (.seq (.reg K2_MatrixReturns_r5)
  (.cond (tZ 54) (.seq (.reg K2_MatrixReturns_r6)
  .ret) .skip))
  (.seq (.reg K2_MatrixReturns_r7)
  (.seq (.reg K2_MatrixReturns_r8)
  (.seq (.seq (.reg K2_MatrixReturns_r9)
  (.cond (tZ 85) (.seq (.reg K2_MatrixReturns_r10)
  .ret) .skip))
  (.seq (.reg K2_MatrixReturns_r11)
  (.seq (.reg K2_MatrixReturns_r12)
  (.seq (.seq (.reg K2_MatrixReturns_r13)
  (.block 0 (.loop (.seq (.reg K2_MatrixReturns_r14)
  (.seq (.cond (tZ 93) .skip (.exit 0))
  (.seq (.block 1 (.seq (.reg K2_MatrixReturns_r15)
  (.seq (.regd K2_MatrixReturns_r16 K2_MatrixReturns_a16)
  (.seq (.regd K2_MatrixReturns_r17 K2_MatrixReturns_a17)
  (.cond (tZ 114) (.reg K2_MatrixReturns_r18) (.reg K2_MatrixReturns_r19))))))
  (.reg K2_MatrixReturns_r20)))))))
  (.seq (.reg K2_MatrixReturns_r21)
  (.seq (.reg K2_MatrixReturns_r22)
  (.seq (.seq (.reg K2_MatrixReturns_r23)
  (.block 2 (.loop (.seq (.reg K2_MatrixReturns_r24)
  (.seq (.cond (tZ 131) .skip (.exit 2))
  (.seq (.block 3 (.seq (.reg K2_MatrixReturns_r25)
  (.seq (.reg K2_MatrixReturns_r26)
  (.seq (.seq (.reg K2_MatrixReturns_r27)
  (.cond (tZ 143) (.seq (.seq (.reg K2_MatrixReturns_r28)
  (.cond (tZ 145) (.exit 3) .skip))
  (.seq (.reg K2_MatrixReturns_r29)
  (.reg K2_MatrixReturns_r30))) .skip))
  (.regd K2_MatrixReturns_r31 K2_MatrixReturns_a31)))))
  (.reg K2_MatrixReturns_r32)))))))
  (.seq (.seq (.reg K2_MatrixReturns_r33)
  (.block 4 (.loop (.seq (.reg K2_MatrixReturns_r34)
  (.seq (.cond (tZ 176) .skip (.exit 4))
  (.seq (.block 5 (.seq (.reg K2_MatrixReturns_r35)
  (.regd K2_MatrixReturns_r36 K2_MatrixReturns_a36)))
  (.reg K2_MatrixReturns_r37)))))))
  (.seq (.reg K2_MatrixReturns_r38)
  (.seq (.reg K2_MatrixReturns_r39)
  (.seq (.reg K2_MatrixReturns_r40)
  .ret)))))))))))))))))), [.tmp 10]⟩
theorem K2_MatrixReturns_s : slimF Try.prog 5 = some K2_MatrixReturns_c := by kernel_rfl
abbrev K2_MatrixReturns_f : Nat := 5

end Go.Proofs.Ythkilkjngincpaa
