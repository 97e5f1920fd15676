/- Printed by program: the functions' code in few words; the kernel checks it against the translation. -/
import Derived.Test.YtogbkhopanaoiaaRows
import Derived.Test.YtogbkhopanaoiaaLiteTP
namespace Go.Proofs.Ytogbkhopanaoiaa
open Go Go.Lite
set_option linter.unusedVariables false

/-- Int -/
abbrev Ei : Nat := 0
/-- ByteArray -/
abbrev Es : Nat := 1
/-- Int × Int -/
abbrev E2i : Nat := 2
/-- ByteArray × Int × Int × Int × Int × Int × Int × List (Int × Int) × List (Int) -/
abbrev Es6iL2iJLiJ : Nat := 3
/-- Int -/
abbrev Ey : Nat := 5
@[reducible] def A (e : Nat) : Type := match e with
  | 0 => Int
  | 1 => ByteArray
  | 2 => Int × Int
  | 3 => ByteArray × Int × Int × Int × Int × Int × Int × List (Int × Int) × List (Int)
  | 4 => List (Int × Int)
  | 5 => Int
  | 6 => ByteArray × List (Int)
  | _ => Unit
def eSz (e : Nat) : Nat := match e with
  | 0 => 1
  | 1 => 1
  | 2 => 2
  | 3 => 9
  | 4 => 1
  | 5 => 1
  | 6 => 2
  | _ => 1
def eD (e : Nat) : A e := match e with
  | 0 => (0 : Int)
  | 1 => (⟨#[]⟩ : ByteArray)
  | 2 => ((0 : Int), (0 : Int))
  | 3 => ((⟨#[]⟩ : ByteArray), (0 : Int), (0 : Int), (0 : Int), (0 : Int), (0 : Int), (0 : Int), ([] : List (Int × Int)), ([] : List (Int)))
  | 4 => ([] : List (Int × Int))
  | 5 => (0 : Int)
  | 6 => ((⟨#[]⟩ : ByteArray), ([] : List (Int)))
  | _ + 7 => ()
def encL0 (x : Int) : List LV := [.int .i64 (x)]
def enc0 (x : Int) : List (TV A) := [.int .i64 (x)]
def dec0 (cs : List (TV A)) : Option (Int) := match cs with
  | [.int .i64 x0] => some x0
  | _ => none
def encL1 (x : ByteArray) : List LV := [.str (x)]
def enc1 (x : ByteArray) : List (TV A) := [.str (x)]
def dec1 (cs : List (TV A)) : Option (ByteArray) := match cs with
  | [.str x0] => some x0
  | _ => none
def encL2 (x : Int × Int) : List LV := [.int .i64 (x.1), .int .i64 (x.2)]
def enc2 (x : Int × Int) : List (TV A) := [.int .i64 (x.1), .int .i64 (x.2)]
def dec2 (cs : List (TV A)) : Option (Int × Int) := match cs with
  | [.int .i64 x0, .int .i64 x1] => some (x0, x1)
  | _ => none
def encL3 (x : ByteArray × Int × Int × Int × Int × Int × Int × List (Int × Int) × List (Int)) : List LV := [.str (x.1), .int .i64 (x.2.1), .int .i64 (x.2.2.1), .int .i64 (x.2.2.2.1), .int .i64 (x.2.2.2.2.1), .int .i64 (x.2.2.2.2.2.1), .int .i64 (x.2.2.2.2.2.2.1), .ps 2 (List.length (x.2.2.2.2.2.2.2.1)) (List.flatMap encL2 (x.2.2.2.2.2.2.2.1)), .ps 1 (List.length (x.2.2.2.2.2.2.2.2)) (List.flatMap encL0 (x.2.2.2.2.2.2.2.2))]
def enc3 (x : ByteArray × Int × Int × Int × Int × Int × Int × List (Int × Int) × List (Int)) : List (TV A) := [.str (x.1), .int .i64 (x.2.1), .int .i64 (x.2.2.1), .int .i64 (x.2.2.2.1), .int .i64 (x.2.2.2.2.1), .int .i64 (x.2.2.2.2.2.1), .int .i64 (x.2.2.2.2.2.2.1), .lst 2 (x.2.2.2.2.2.2.2.1), .lst 0 (x.2.2.2.2.2.2.2.2)]
def dec3 (cs : List (TV A)) : Option (ByteArray × Int × Int × Int × Int × Int × Int × List (Int × Int) × List (Int)) := match cs with
  | [.str x0, .int .i64 x1, .int .i64 x2, .int .i64 x3, .int .i64 x4, .int .i64 x5, .int .i64 x6, .lst 2 x7, .lst 0 x8] => some (x0, x1, x2, x3, x4, x5, x6, x7, x8)
  | _ => none
def encL4 (x : List (Int × Int)) : List LV := [.ps 2 (List.length (x)) (List.flatMap encL2 (x))]
def enc4 (x : List (Int × Int)) : List (TV A) := [.lst 2 (x)]
def dec4 (cs : List (TV A)) : Option (List (Int × Int)) := match cs with
  | [.lst 2 x0] => some x0
  | _ => none
def encL5 (x : Int) : List LV := [.int .u8 (x)]
def enc5 (x : Int) : List (TV A) := [.int .u8 (x)]
def dec5 (cs : List (TV A)) : Option (Int) := match cs with
  | [.int .u8 x0] => some x0
  | _ => none
def encL6 (x : ByteArray × List (Int)) : List LV := [.str (x.1), .ps 1 (List.length (x.2)) (List.flatMap encL5 (x.2))]
def enc6 (x : ByteArray × List (Int)) : List (TV A) := [.str (x.1), .lst 5 (x.2)]
def dec6 (cs : List (TV A)) : Option (ByteArray × List (Int)) := match cs with
  | [.str x0, .lst 5 x1] => some (x0, x1)
  | _ => none
def eEncL (e : Nat) (a : A e) : List LV := match e, a with
  | 0, a => encL0 a
  | 1, a => encL1 a
  | 2, a => encL2 a
  | 3, a => encL3 a
  | 4, a => encL4 a
  | 5, a => encL5 a
  | 6, a => encL6 a
  | _ + 7, _ => [.nilp]
def eEnc (e : Nat) (a : A e) : List (TV A) := match e, a with
  | 0, a => enc0 a
  | 1, a => enc1 a
  | 2, a => enc2 a
  | 3, a => enc3 a
  | 4, a => enc4 a
  | 5, a => enc5 a
  | 6, a => enc6 a
  | _ + 7, _ => [.nilp]
def eDec (e : Nat) (cs : List (TV A)) : Option (A e) := match e with
  | 0 => dec0 cs
  | 1 => dec1 cs
  | 2 => dec2 cs
  | 3 => dec3 cs
  | 4 => dec4 cs
  | 5 => dec5 cs
  | 6 => dec6 cs
  | _ + 7 => none
def eEl (t : Nat) : Option Nat := match t with
  | 23 => some 0
  | 22 => some 1
  | 26 => some 3
  | 60 => some 4
  | 71 => some 5
  | 44 => some 2
  | 121 => some 6
  | 29 => some 5
  | 32 => some 5
  | 118 => some 1
  | 150 => some 0
  | 160 => some 0
  | 159 => some 0
  | _ => none
def fl (e : Nat) : Bool := match e with
  | 0 => true
  | 1 => true
  | 2 => true
  | 3 => false
  | 4 => false
  | 5 => true
  | 6 => false
  | _ => false
def eByt (e : Nat) : Option (List (A e) → List Int) := match e with
  | 5 => some fun xs => xs
  | _ => none
theorem flat1 : ∀ xs : List Int, xs.flatMap (fun x => [LV.int .u8 x]) = xs.map (LV.int .u8)
  | [] => rfl
  | x :: r => congrArg (LV.int .u8 x :: ·) (flat1 r)
def R : Reg A := ⟨eSz, eD, eEncL, eEnc, eDec, eEl, eByt⟩
theorem R_ok : R.Ok where
  pos e := by show 0 < eSz e; unfold eSz; split <;> decide
  len e a := match e, a with
    | 0, a => rfl
    | 1, a => rfl
    | 2, a => rfl
    | 3, a => rfl
    | 4, a => rfl
    | 5, a => rfl
    | 6, a => rfl
    | e + 7, a => rfl
  ok e a := match e, a with
    | 0, a => rfl
    | 1, a => rfl
    | 2, a => rfl
    | 3, a => rfl
    | 4, a => rfl
    | 5, a => rfl
    | 6, a => rfl
    | e + 7, a => rfl
  dec e cs a h := match e, a, h with
    | 0, a, h => by
      replace h : dec0 cs = some a := h
      unfold dec0 at h
      split at h
      · cases h; rfl
      · cases h
    | 1, a, h => by
      replace h : dec1 cs = some a := h
      unfold dec1 at h
      split at h
      · cases h; rfl
      · cases h
    | 2, a, h => by
      replace h : dec2 cs = some a := h
      unfold dec2 at h
      split at h
      · cases h; rfl
      · cases h
    | 3, a, h => by
      replace h : dec3 cs = some a := h
      unfold dec3 at h
      split at h
      · cases h; rfl
      · cases h
    | 4, a, h => by
      replace h : dec4 cs = some a := h
      unfold dec4 at h
      split at h
      · cases h; rfl
      · cases h
    | 5, a, h => by
      replace h : dec5 cs = some a := h
      unfold dec5 at h
      split at h
      · cases h; rfl
      · cases h
    | 6, a, h => by
      replace h : dec6 cs = some a := h
      unfold dec6 at h
      split at h
      · cases h; rfl
      · cases h
    | e + 7, a, h => by cases h
  free e a := match e, a with
    | 0, a => rfl
    | 1, a => rfl
    | 2, a => rfl
    | 3, a => rfl
    | 4, a => rfl
    | 5, a => rfl
    | 6, a => rfl
    | e + 7, a => rfl
  sol e a := match e, a with
    | 0, a => rfl
    | 1, a => rfl
    | 2, a => rfl
    | 3, a => rfl
    | 4, a => rfl
    | 5, a => rfl
    | 6, a => rfl
    | e + 7, a => rfl
  byt e f h xs := match e, f, h with
    | 0, f, h => by cases h
    | 1, f, h => by cases h
    | 2, f, h => by cases h
    | 3, f, h => by cases h
    | 4, f, h => by cases h
    | 5, f, h => by cases h; exact flat1 xs
    | 6, f, h => by cases h
    | e + 7, f, h => by cases h
theorem fl_ok : ∀ e, fl e = true → ∀ a, psfreeL (R.encL e a) = true := fun e h a => match e, h, a with
  | 0, h, a => rfl
  | 1, h, a => rfl
  | 2, h, a => rfl
  | 3, h, a => by cases h
  | 4, h, a => by cases h
  | 5, h, a => rfl
  | 6, h, a => by cases h
  | e + 7, h, a => rfl

def tyL : List (Nat × TI) := [(0, ⟨.other, 1, false, [.dead]⟩),
  (28, ⟨.struct [(0, 1, false), (1, 1, false), (2, 1, false), (3, 4, true), (7, 4, true), (11, 1, false), (12, 1, false)], 13, true, [.nils, .nils, .nils, .int .i64 0, .int .i64 0, .int .i64 0, .nils, .int .i64 0, .int .i64 0, .int .i64 0, .nils, .nils, .int .i64 0]⟩),
  (29, ⟨.arr 4 1 false, 4, true, [.int .u8 0, .int .u8 0, .int .u8 0, .int .u8 0]⟩),
  (5, ⟨.int .u8, 1, false, [.int .u8 0]⟩),
  (32, ⟨.arr 8 1 false, 8, true, [.int .u8 0, .int .u8 0, .int .u8 0, .int .u8 0, .int .u8 0, .int .u8 0, .int .u8 0, .int .u8 0]⟩),
  (9, ⟨.str, 1, false, [.str ⟨([] : List UInt8).toArray⟩]⟩),
  (33, ⟨.int .i64, 1, false, [.int .i64 0]⟩),
  (23, ⟨.slice 1 8 [.int .i64 0], 1, false, [.nils]⟩),
  (3, ⟨.int .i64, 1, false, [.int .i64 0]⟩),
  (40, ⟨.arr 4 8 true, 32, true, [.int .u8 0, .int .u8 0, .int .u8 0, .int .u8 0, .int .u8 0, .int .u8 0, .int .u8 0, .int .u8 0, .int .u8 0, .int .u8 0, .int .u8 0, .int .u8 0, .int .u8 0, .int .u8 0, .int .u8 0, .int .u8 0, .int .u8 0, .int .u8 0, .int .u8 0, .int .u8 0, .int .u8 0, .int .u8 0, .int .u8 0, .int .u8 0, .int .u8 0, .int .u8 0, .int .u8 0, .int .u8 0, .int .u8 0, .int .u8 0, .int .u8 0, .int .u8 0]⟩),
  (22, ⟨.slice 1 16 [.str ⟨([] : List UInt8).toArray⟩], 1, false, [.nils]⟩),
  (26, ⟨.slice 9 112 [.str ⟨([] : List UInt8).toArray⟩, .int .i64 0, .int .i64 0, .int .i64 0, .int .i64 0, .int .i64 0, .int .i64 0, .nils, .nils], 1, false, [.nils]⟩),
  (48, ⟨.struct [(0, 1, false), (1, 3, true), (4, 3, true), (7, 1, true), (8, 1, false)], 9, true, [.str ⟨([] : List UInt8).toArray⟩, .int .i64 0, .int .i64 0, .int .i64 0, .int .i64 0, .int .i64 0, .int .i64 0, .nils, .nils]⟩),
  (25, ⟨.struct [(0, 1, false), (1, 1, false), (2, 1, false), (3, 1, false)], 4, true, [.int .i64 0, .int .i64 0, .int .i64 0, .nils]⟩),
  (62, ⟨.struct [(0, 1, false), (1, 1, false), (2, 1, false), (3, 4, true)], 7, true, [.str ⟨([] : List UInt8).toArray⟩, .nils, .nils, .int .i64 0, .int .i64 0, .int .i64 0, .nils]⟩),
  (43, ⟨.struct [(0, 1, false), (1, 1, false), (2, 1, false)], 3, true, [.int .i64 0, .int .i64 0, .int .i64 0]⟩),
  (60, ⟨.slice 1 24 [.nils], 1, false, [.nils]⟩),
  (46, ⟨.struct [(0, 1, false)], 1, true, [.nils]⟩),
  (71, ⟨.slice 1 1 [.int .u8 0], 1, false, [.nils]⟩),
  (81, ⟨.other, 1, false, [.nilp]⟩),
  (82, ⟨.other, 1, false, [.nilp]⟩),
  (85, ⟨.other, 1, false, [.nilp]⟩),
  (100, ⟨.struct [(0, 1, false), (1, 1, false), (2, 1, false), (3, 1, false), (4, 3, true)], 7, true, [.int .i64 0, .int .i64 0, .int .i64 0, .bool false, .int .i64 0, .int .i64 0, .int .i64 0]⟩),
  (105, ⟨.other, 1, false, [.nilp]⟩),
  (114, ⟨.arr 4 1 false, 4, true, [.nils, .nils, .nils, .nils]⟩),
  (44, ⟨.slice 2 16 [.int .i64 0, .int .i64 0], 1, false, [.nils]⟩),
  (116, ⟨.struct [(0, 1, false), (1, 1, false)], 2, true, [.int .i64 0, .int .i64 0]⟩),
  (118, ⟨.arr 4 1 false, 4, true, [.str ⟨([] : List UInt8).toArray⟩, .str ⟨([] : List UInt8).toArray⟩, .str ⟨([] : List UInt8).toArray⟩, .str ⟨([] : List UInt8).toArray⟩]⟩),
  (121, ⟨.slice 2 40 [.str ⟨([] : List UInt8).toArray⟩, .nils], 1, false, [.nils]⟩),
  (125, ⟨.struct [(0, 1, false), (1, 1, false)], 2, true, [.str ⟨([] : List UInt8).toArray⟩, .nils]⟩),
  (130, ⟨.struct [(0, 1, false)], 1, true, [.nils]⟩),
  (133, ⟨.int .i16, 1, false, [.int .i16 0]⟩),
  (137, ⟨.other, 1, false, [.nilp]⟩),
  (147, ⟨.other, 1, false, [.nilf]⟩),
  (150, ⟨.arr 4 1 false, 4, true, [.int .i64 0, .int .i64 0, .int .i64 0, .int .i64 0]⟩),
  (152, ⟨.int .u32, 1, false, [.int .u32 0]⟩),
  (20, ⟨.other, 1, false, [.dead]⟩),
  (127, ⟨.struct [], 0, true, []⟩),
  (155, ⟨.other, 1, false, [.nilp]⟩),
  (142, ⟨.struct [(0, 3, true), (3, 1, false), (4, 1, false), (5, 1, false), (6, 1, false)], 7, true, [.int .i64 0, .int .i64 0, .int .i64 0, .int .i64 0, .int .i64 0, .nils, .nils]⟩),
  (4, ⟨.bool, 1, false, [.bool false]⟩),
  (146, ⟨.other, 1, false, [.nilp]⟩),
  (167, ⟨.other, 1, false, [.nilf]⟩),
  (171, ⟨.struct [(0, 1, false), (1, 1, false), (2, 1, false), (3, 1, false), (4, 1, false), (5, 1, false), (6, 1, false), (7, 1, false)], 8, true, [.nilp, .nilp, .nils, .int .i64 0, .nils, .nils, .nils, .nils]⟩),
  (169, ⟨.other, 1, false, [.nilp]⟩),
  (161, ⟨.arr 4 3 true, 12, true, [.int .i64 0, .int .i64 0, .int .i64 0, .int .i64 0, .int .i64 0, .int .i64 0, .int .i64 0, .int .i64 0, .int .i64 0, .int .i64 0, .int .i64 0, .int .i64 0]⟩),
  (160, ⟨.arr 3 1 false, 3, true, [.int .i64 0, .int .i64 0, .int .i64 0]⟩),
  (176, ⟨.other, 1, false, [.nilf]⟩),
  (177, ⟨.other, 1, false, [.nilf]⟩),
  (159, ⟨.arr 3 1 false, 3, true, [.int .i64 0, .int .i64 0, .int .i64 0]⟩)]
theorem tyL_ok : okL (tiOf Try.prog) tyL := ⟨by kernel_rfl, by kernel_rfl, by kernel_rfl, by kernel_rfl, by kernel_rfl, by kernel_rfl, by kernel_rfl, by kernel_rfl, by kernel_rfl, by kernel_rfl, by kernel_rfl, by kernel_rfl, by kernel_rfl, by kernel_rfl, by kernel_rfl, by kernel_rfl, by kernel_rfl, by kernel_rfl, by kernel_rfl, by kernel_rfl, by kernel_rfl, by kernel_rfl, by kernel_rfl, by kernel_rfl, by kernel_rfl, by kernel_rfl, by kernel_rfl, by kernel_rfl, by kernel_rfl, by kernel_rfl, by kernel_rfl, by kernel_rfl, by kernel_rfl, by kernel_rfl, by kernel_rfl, by kernel_rfl, by kernel_rfl, by kernel_rfl, by kernel_rfl, by kernel_rfl, by kernel_rfl, by kernel_rfl, by kernel_rfl, by kernel_rfl, by kernel_rfl, by kernel_rfl, by kernel_rfl, by kernel_rfl, by kernel_rfl, by kernel_rfl, trivial⟩
def eqL : List (Nat × List Nat) := [(32, [0, 0, 0, 0, 0, 0, 0, 0]), (43, [0, 0, 0]), (116, [0, 0])]
theorem eqL_ok : okL (eqOf Try.prog) eqL := ⟨by kernel_rfl, by kernel_rfl, by kernel_rfl, trivial⟩
def nlL : List (Nat × Nat) := [(33, 0), (3, 0), (9, 0), (32, 0), (43, 0), (5, 0), (20, 0), (116, 0), (23, 4), (71, 3), (133, 0), (152, 0)]
theorem nlL_ok : okN (nilOf Try.prog) nlL := ⟨by kernel_rfl, by kernel_rfl, by kernel_rfl, by kernel_rfl, by kernel_rfl, by kernel_rfl, by kernel_rfl, by kernel_rfl, by kernel_rfl, by kernel_rfl, by kernel_rfl, by kernel_rfl, trivial⟩
noncomputable def ty : TT := ⟨lookT tyL (tiOf Try.prog), lookT eqL (eqOf Try.prog), lookN nlL (nilOf Try.prog)⟩
theorem ty_ok : ty = ttOf Try.prog := by
  unfold ty ttOf
  rw [lookT_eq tyL_ok, lookT_eq eqL_ok, lookN_eq nlL_ok]
def Wi (x : Int) : Prop := rng .i64 x
def Ws (x : ByteArray) : Prop := ByteArray.size x ≤ 9223372036854775807
def W2i (x : Int × Int) : Prop := rng .i64 x.1 ∧ rng .i64 x.2
def Ws6iL2iJLiJ (x : ByteArray × Int × Int × Int × Int × Int × Int × List (Int × Int) × List (Int)) : Prop := ByteArray.size x.1 ≤ 9223372036854775807 ∧ rng .i64 x.2.1 ∧ rng .i64 x.2.2.1 ∧ rng .i64 x.2.2.2.1 ∧ rng .i64 x.2.2.2.2.1 ∧ rng .i64 x.2.2.2.2.2.1 ∧ rng .i64 x.2.2.2.2.2.2.1 ∧ (List.length x.2.2.2.2.2.2.2.1 ≤ 9223372036854775807 ∧ ∀ y ∈ x.2.2.2.2.2.2.2.1, W2i y) ∧ (List.length x.2.2.2.2.2.2.2.2 ≤ 9223372036854775807 ∧ ∀ y ∈ x.2.2.2.2.2.2.2.2, Wi y)
theorem rdi : R.d Ei = (0 : Int) := rfl
theorem rd2i : R.d E2i = ((0 : Int), (0 : Int)) := rfl
theorem rdy : R.d Ey = (0 : Int) := rfl
theorem env : Env A R Try.prog ty fl := ⟨R_ok, ty_ok, fl_ok, by kernel_rfl⟩

abbrev tZ (a : Nat) : Operand := .tmp a
abbrev ciZ (k : Int) : Operand := .const (.int .i64 k)
abbrev mvZ (d a : Nat) : SO := ⟨some d, .move (.tmp a), none⟩
abbrev ldZ (d t a : Nat) : SO := ⟨some d, .load t (.tmp a), none⟩
abbrev faZ (d t a i : Nat) : SO := ⟨some d, .fieldAddr t (.tmp a) i, none⟩
abbrev iaZ (d t a b : Nat) : SO := ⟨some d, .indexAddr t (.tmp a) (.tmp b), none⟩
abbrev asZ (d a : Nat) : SO := ⟨some d, .assign (.tmp a), none⟩
abbrev exZ (d a i : Nat) : SO := ⟨some d, .extract (.tmp a) i, none⟩
abbrev boZ (d : Nat) (o : BinOp) (t a b r : Nat) : SO := ⟨some d, .binOp o t (.tmp a) (.tmp b) r, none⟩
abbrev bcZ (d : Nat) (o : BinOp) (t a : Nat) (k : Int) (r : Nat) : SO := ⟨some d, .binOp o t (.tmp a) (.const (.int .i64 k)) r, none⟩
abbrev stZ (t a b : Nat) : SO := ⟨none, .store t (.tmp a) (.tmp b), none⟩
abbrev gZ (g : Nat) (b : Bool) (s : SO) : SO := ⟨s.dst, s.op, some (g, b)⟩
abbrev rZ (d : Nat) (o : Op) : SO := ⟨some d, o, none⟩

end Go.Proofs.Ytogbkhopanaoiaa
namespace Go.Proofs.Ytogbkhopanaoiaa
open Go Go.Lite
set_option linter.unusedVariables false

/-- printworks/curve.At -/
def curve_At_r0 : List SO := [rZ 2 (.box 46 (tZ 0)), rZ 4 (.assign (ciZ 0)), rZ 5 (.assign (ciZ 0))]
def curve_At_r1 : List SO := [ldZ 7 46 2, rZ 8 (.call ⟨(.value (.func (66 : Nat))), #[(tZ 7)], #[46]⟩), asZ 6 8]
def curve_At_r2 : List SO := [mvZ 9 6, bcZ 10 .neq 33 9 0 33]
def curve_At_r3 : List SO := [mvZ 11 6, rZ 4 (.assign (ciZ 0)), asZ 5 11]
def curve_At_r4 : List SO := [mvZ 12 1, bcZ 13 .lss 3 12 0 3, mvZ 14 13, gZ 14 false (mvZ 15 1), gZ 14 false (bcZ 16 .gtr 3 15 65280 3), rZ 17 (.pick (tZ 14) (.const (.bool true)) (tZ 16))]
def curve_At_r5 : List SO := [rZ 4 (.assign (ciZ 0)), rZ 5 (.assign (ciZ 3))]
def curve_At_r6 : List SO := [ldZ 18 46 2, mvZ 19 1, rZ 20 (.call ⟨(.value (.func (67 : Nat))), #[(tZ 18), (tZ 19)], #[46, 3]⟩), asZ 4 20, rZ 5 (.assign (ciZ 0))]
def curve_At_c : SF := ⟨21, (.seq (.reg curve_At_r0)
  (.seq (.seq (.reg curve_At_r1)
  (.seq (.reg curve_At_r2)
  (.cond (tZ 10) (.seq (.reg curve_At_r3)
  .ret) .skip)))
  (.seq (.seq (.reg curve_At_r4)
  (.cond (tZ 17) (.seq (.reg curve_At_r5)
  .ret) .skip))
  (.seq (.reg curve_At_r6)
  .ret)))), [.tmp 4, .tmp 5]⟩
theorem curve_At_s : slimF Try.prog 30 = some curve_At_c := by kernel_rfl
/-- printworks/curve.Check -/
def curve_Check_r0 : List SO := [rZ 1 (.box 46 (tZ 0)), rZ 2 (.assign (ciZ 0))]
def curve_Check_r1 : List SO := [faZ 6 46 1 0, ldZ 7 44 6, rZ 8 (.call ⟨(.builtin .len), #[(tZ 7)], #[44]⟩), asZ 3 8]
def curve_Check_r2 : List SO := [mvZ 10 3, bcZ 11 .gtr 3 10 33 3, asZ 9 11]
def curve_Check_r3 : List SO := [rZ 2 (.assign (ciZ 2))]
def curve_Check_r4 : List SO := [mvZ 13 3, bcZ 14 .lss 3 13 2 3, asZ 12 14]
def curve_Check_r5 : List SO := [rZ 2 (.assign (ciZ 1))]
def curve_Check_r6 : List SO := [faZ 15 46 1 0, ldZ 16 44 15, rZ 17 (.call ⟨(.builtin .len), #[(tZ 16)], #[44]⟩), rZ 18 (.move (ciZ 0))]
def curve_Check_r7 : List SO := [boZ 19 .lss 3 18 17 3]
def curve_Check_r8 : List SO := [mvZ 20 18, iaZ 21 44 16 18, ldZ 22 116 21, rZ 5 (.alloc 116), asZ 4 20, stZ 116 5 22]
def curve_Check_r9 : List SO := [faZ 23 116 5 0, ldZ 24 3 23, bcZ 25 .lss 3 24 0 3, mvZ 26 25, gZ 26 false (faZ 27 116 5 0), gZ 26 false (ldZ 28 3 27), gZ 26 false (bcZ 29 .gtr 3 28 65280 3), rZ 30 (.pick (tZ 26) (.const (.bool true)) (tZ 29)), mvZ 31 30, gZ 31 false (faZ 32 116 5 1), gZ 31 false (ldZ 33 3 32), gZ 31 false (bcZ 34 .lss 3 33 0 3), rZ 35 (.pick (tZ 31) (.const (.bool true)) (tZ 34)), mvZ 36 35, gZ 36 false (faZ 37 116 5 1), gZ 36 false (ldZ 38 3 37), gZ 36 false (bcZ 39 .gtr 3 38 65280 3), rZ 40 (.pick (tZ 36) (.const (.bool true)) (tZ 39))]
def curve_Check_r10 : List SO := [rZ 2 (.assign (ciZ 3))]
def curve_Check_r11 : List SO := [mvZ 41 4, bcZ 42 .gtr 3 41 0 3, mvZ 43 42, gZ 43 true (faZ 44 116 5 0), gZ 43 true (ldZ 45 3 44), gZ 43 true (faZ 46 46 1 0), gZ 43 true (ldZ 47 44 46), gZ 43 true (mvZ 48 4), gZ 43 true (bcZ 49 .sub 3 48 1 3), gZ 43 true (iaZ 50 44 47 49), gZ 43 true (faZ 51 116 50 0), gZ 43 true (ldZ 52 3 51), gZ 43 true (boZ 53 .leq 3 45 52 3), gZ 43 true (mvZ 54 53), gZ 54 false (faZ 55 116 5 1), gZ 54 false (ldZ 56 3 55), gZ 54 false (faZ 57 46 1 0), gZ 54 false (ldZ 58 44 57), gZ 54 false (mvZ 59 4), gZ 54 false (bcZ 60 .sub 3 59 1 3), gZ 54 false (iaZ 61 44 58 60), gZ 54 false (faZ 62 116 61 1), gZ 54 false (ldZ 63 3 62), gZ 54 false (boZ 64 .lss 3 56 63 3), gZ 43 true (rZ 65 (.pick (tZ 54) (.const (.bool true)) (tZ 64))), rZ 66 (.pick (tZ 43) (tZ 65) (.const (.bool false)))]
def curve_Check_a11 : List (List Nat) := [[], [0], [1], [2], [3, 2], [2], [5, 2], [2], [7, 2], [6, 8, 2], [9, 2], [10, 2], [4, 11, 2], [12, 2, 2], [13], [14, 13], [13], [16, 13], [13], [18, 13], [17, 19, 13], [20, 13], [21, 13], [15, 22, 13], [13, 23, 2], [2, 24]]
def curve_Check_r12 : List SO := [rZ 2 (.assign (ciZ 18))]
def curve_Check_r13 : List SO := [bcZ 67 .add 3 18 1 3, mvZ 18 67]
def curve_Check_r14 : List SO := [faZ 68 46 1 0, ldZ 69 44 68, rZ 70 (.indexAddr 44 (tZ 69) (ciZ 0)), faZ 71 116 70 0, ldZ 72 3 71, bcZ 73 .neq 3 72 0 3, mvZ 74 73, gZ 74 false (faZ 75 46 1 0), gZ 74 false (ldZ 76 44 75), gZ 74 false (faZ 77 46 1 0), gZ 74 false (ldZ 78 44 77), gZ 74 false (rZ 79 (.call ⟨(.builtin .len), #[(tZ 78)], #[44]⟩)), gZ 74 false (bcZ 80 .sub 3 79 1 3), gZ 74 false (iaZ 81 44 76 80), gZ 74 false (faZ 82 116 81 0), gZ 74 false (ldZ 83 3 82), gZ 74 false (bcZ 84 .neq 3 83 65280 3), rZ 85 (.pick (tZ 74) (.const (.bool true)) (tZ 84))]
def curve_Check_r15 : List SO := [rZ 2 (.assign (ciZ 4))]
def curve_Check_r16 : List SO := [rZ 2 (.assign (ciZ 0))]
def curve_Check_c : SF := ⟨86, (.seq (.reg curve_Check_r0)
  (.seq (.seq (.reg curve_Check_r1)
  (.block 0 (.seq (.reg curve_Check_r2)
  (.cond (tZ 9) (.seq (.reg curve_Check_r3)
  .ret) (.seq (.reg curve_Check_r4)
  (.cond (tZ 12) (.seq (.reg curve_Check_r5)
  .ret) .skip))))))
  (.seq (.seq (.reg curve_Check_r6)
  (.block 1 (.loop (.seq (.reg curve_Check_r7)
  (.seq (.cond (tZ 19) .skip (.exit 1))
  (.seq (.block 2 (.seq (.reg curve_Check_r8)
  (.seq (.seq (.reg curve_Check_r9)
  (.cond (tZ 40) (.seq (.reg curve_Check_r10)
  .ret) .skip))
  (.seq (.regd curve_Check_r11 curve_Check_a11)
  (.cond (tZ 66) (.seq (.reg curve_Check_r12)
  .ret) .skip)))))
  (.reg curve_Check_r13)))))))
  (.seq (.seq (.reg curve_Check_r14)
  (.cond (tZ 85) (.seq (.reg curve_Check_r15)
  .ret) .skip))
  (.seq (.reg curve_Check_r16)
  .ret))))), [.tmp 2]⟩
theorem curve_Check_s : slimF Try.prog 66 = some curve_Check_c := by kernel_rfl
abbrev curve_Check_f : Nat := 66
/-- printworks/curve.Raw -/
def curve_Raw_r0 : List SO := [rZ 2 (.box 46 (tZ 0)), rZ 4 (.assign (ciZ 0))]
def curve_Raw_r1 : List SO := [faZ 10 46 2 0, ldZ 11 44 10, rZ 12 (.call ⟨(.builtin .len), #[(tZ 11)], #[44]⟩), bcZ 13 .sub 3 12 1 3, rZ 5 (.assign (ciZ 0)), asZ 6 13]
def curve_Raw_a1 : List (List Nat) := [[], [0], [1], [2], [], [3, 4, 0, 1, 2, 3, 4]]
def curve_Raw_r2 : List SO := [mvZ 14 6, mvZ 15 5, boZ 16 .sub 3 14 15 3, bcZ 17 .gtr 3 16 1 3]
def curve_Raw_r3 : List SO := [mvZ 18 5, mvZ 19 6, boZ 20 .add 3 18 19 3, bcZ 21 .quo 3 20 2 3, asZ 7 21]
def curve_Raw_r4 : List SO := [faZ 22 46 2 0, ldZ 23 44 22, mvZ 24 7, iaZ 25 44 23 24, faZ 26 116 25 0, ldZ 27 3 26, mvZ 28 1, boZ 29 .leq 3 27 28 3]
def curve_Raw_r5 : List SO := [mvZ 30 7, asZ 5 30]
def curve_Raw_r6 : List SO := [mvZ 31 7, asZ 6 31]
def curve_Raw_r7 : List SO := [faZ 32 46 2 0, ldZ 33 44 32, mvZ 34 5, iaZ 35 44 33 34, ldZ 36 116 35, faZ 37 46 2 0, ldZ 38 44 37, mvZ 39 6, iaZ 40 44 38 39, ldZ 41 116 40, rZ 8 (.alloc 116), rZ 9 (.alloc 116), stZ 116 8 36, stZ 116 9 41]
def curve_Raw_a7 : List (List Nat) := [[], [0], [], [1, 2], [3], [], [5], [], [6, 7], [8], [], [], [10, 4, 0, 1, 2, 3, 4, 10, 11], [11, 9, 12, 0, 1, 2, 3, 4, 5, 6, 7, 8, 9, 10, 11, 12]]
def curve_Raw_r8 : List SO := [faZ 42 116 8 1, ldZ 43 3 42, faZ 44 116 9 1, ldZ 45 3 44, faZ 46 116 8 1, ldZ 47 3 46, boZ 48 .sub 3 45 47 3, mvZ 49 1, faZ 50 116 8 0, ldZ 51 3 50, boZ 52 .sub 3 49 51 3, boZ 53 .mul 3 48 52 3, faZ 54 116 9 0, ldZ 55 3 54, faZ 56 116 8 0, ldZ 57 3 56, boZ 58 .sub 3 55 57 3, rZ 59 (.call ⟨(.value (.func (78 : Nat))), #[(tZ 53), (tZ 58)], #[3, 3]⟩), boZ 60 .add 3 43 59 3, asZ 4 60]
def curve_Raw_a8 : List (List Nat) := [[], [0], [], [2], [], [4], [3, 5], [], [], [8], [7, 9], [6, 10], [], [12], [], [14], [13, 15], [11, 16], [1, 17], [18, 17, 0, 1, 2, 3, 4, 5, 6, 7, 8, 9, 10, 11, 12, 13, 14, 15, 16, 17, 18]]
def curve_Raw_c : SF := ⟨61, (.seq (.reg curve_Raw_r0)
  (.seq (.regd curve_Raw_r1 curve_Raw_a1)
  (.seq (.block 0 (.loop (.seq (.seq (.reg curve_Raw_r2)
  (.cond (tZ 17) .skip (.exit 0)))
  (.block 1 (.seq (.reg curve_Raw_r3)
  (.seq (.reg curve_Raw_r4)
  (.cond (tZ 29) (.reg curve_Raw_r5) (.reg curve_Raw_r6))))))))
  (.seq (.regd curve_Raw_r7 curve_Raw_a7)
  (.seq (.regd curve_Raw_r8 curve_Raw_a8)
  .ret))))), [.tmp 4]⟩
theorem curve_Raw_s : slimF Try.prog 67 = some curve_Raw_c := by kernel_rfl
abbrev curve_Raw_f : Nat := 67
/-- printworks/curve.Nearest -/
def curve_Nearest_r0 : List SO := [rZ 4 (.assign (ciZ 0))]
def curve_Nearest_r1 : List SO := [mvZ 6 0, rZ 7 (.binOp .mul 3 (ciZ 2) (tZ 6) 3), mvZ 8 1, boZ 9 .add 3 7 8 3, mvZ 10 1, rZ 11 (.binOp .mul 3 (ciZ 2) (tZ 10) 3), asZ 0 9, asZ 1 11]
def curve_Nearest_r2 : List SO := [mvZ 12 0, mvZ 13 1, boZ 14 .quo 3 12 13 3, asZ 5 14]
def curve_Nearest_r3 : List SO := [mvZ 15 0, mvZ 16 1, boZ 17 .rem 3 15 16 3, bcZ 18 .lss 3 17 0 3]
def curve_Nearest_r4 : List SO := [mvZ 19 5, bcZ 20 .sub 3 19 1 3, asZ 5 20]
def curve_Nearest_r5 : List SO := [mvZ 21 5, asZ 4 21]
def curve_Nearest_c : SF := ⟨22, (.seq (.reg curve_Nearest_r0)
  (.seq (.reg curve_Nearest_r1)
  (.seq (.reg curve_Nearest_r2)
  (.seq (.seq (.reg curve_Nearest_r3)
  (.cond (tZ 18) (.reg curve_Nearest_r4) .skip))
  (.seq (.reg curve_Nearest_r5)
  .ret))))), [.tmp 4]⟩
theorem curve_Nearest_s : slimF Try.prog 78 = some curve_Nearest_c := by kernel_rfl
abbrev curve_Nearest_f : Nat := 78

def tbl_curve : List (Nat × SF) := [(30, curve_At_c), (66, curve_Check_c), (67, curve_Raw_c), (78, curve_Nearest_c)]
theorem tbl_curve_ok : okT Try.prog tbl_curve := ⟨curve_At_s, curve_Check_s, curve_Raw_s, curve_Nearest_s, trivial⟩

end Go.Proofs.Ytogbkhopanaoiaa
namespace Go.Proofs.Ytogbkhopanaoiaa
open Go Go.Lite
set_option linter.unusedVariables false

/-- printworks/grid.Scaled -/
def grid_Scaled_r0 : List SO := [rZ 2 (.box 25 (tZ 0)), rZ 4 (.assign (.const (.slice none 0 0))), rZ 5 (.assign (ciZ 0))]
def grid_Scaled_r1 : List SO := [ldZ 8 25 2, rZ 9 (.call ⟨(.value (.func (56 : Nat))), #[(tZ 8)], #[25]⟩), asZ 6 9]
def grid_Scaled_r2 : List SO := [mvZ 10 6, bcZ 11 .neq 33 10 0 33]
def grid_Scaled_r3 : List SO := [mvZ 12 6, rZ 4 (.assign (.const (.slice none 0 0))), asZ 5 12]
def grid_Scaled_r4 : List SO := [mvZ 13 1, rZ 14 (.call ⟨(.value (.func (57 : Nat))), #[(tZ 2), (tZ 13)], #[82, 23]⟩), asZ 7 14]
def grid_Scaled_r5 : List SO := [mvZ 15 7, bcZ 16 .neq 33 15 0 33]
def grid_Scaled_r6 : List SO := [mvZ 17 7, rZ 4 (.assign (.const (.slice none 0 0))), asZ 5 17]
def grid_Scaled_r7 : List SO := [mvZ 18 1, rZ 19 (.call ⟨(.value (.func (58 : Nat))), #[(tZ 2), (tZ 18)], #[82, 23]⟩), asZ 4 19, rZ 5 (.assign (ciZ 0))]
def grid_Scaled_c : SF := ⟨20, (.seq (.reg grid_Scaled_r0)
  (.seq (.seq (.reg grid_Scaled_r1)
  (.seq (.reg grid_Scaled_r2)
  (.cond (tZ 11) (.seq (.reg grid_Scaled_r3)
  .ret) .skip)))
  (.seq (.seq (.reg grid_Scaled_r4)
  (.seq (.reg grid_Scaled_r5)
  (.cond (tZ 16) (.seq (.reg grid_Scaled_r6)
  .ret) .skip)))
  (.seq (.reg grid_Scaled_r7)
  .ret)))), [.tmp 4, .tmp 5]⟩
theorem grid_Scaled_s : slimF Try.prog 21 = some grid_Scaled_c := by kernel_rfl
/-- printworks/grid.Step -/
def grid_Step_r0 : List SO := [rZ 1 (.box 25 (tZ 0)), rZ 2 (.assign (ciZ 0)), rZ 3 (.assign (ciZ 0))]
def grid_Step_r1 : List SO := [ldZ 5 25 1, rZ 6 (.call ⟨(.value (.func (56 : Nat))), #[(tZ 5)], #[25]⟩), asZ 4 6]
def grid_Step_r2 : List SO := [mvZ 7 4, bcZ 8 .neq 33 7 0 33]
def grid_Step_r3 : List SO := [mvZ 9 4, rZ 2 (.assign (ciZ 0)), asZ 3 9]
def grid_Step_r4 : List SO := [faZ 10 25 1 2, ldZ 11 3 10, bcZ 12 .sub 3 11 1 3, rZ 13 (.binOp .quo 3 (ciZ 65280) (tZ 12) 3), asZ 2 13, rZ 3 (.assign (ciZ 0))]
def grid_Step_c : SF := ⟨14, (.seq (.reg grid_Step_r0)
  (.seq (.seq (.reg grid_Step_r1)
  (.seq (.reg grid_Step_r2)
  (.cond (tZ 8) (.seq (.reg grid_Step_r3)
  .ret) .skip)))
  (.seq (.reg grid_Step_r4)
  .ret))), [.tmp 2, .tmp 3]⟩
theorem grid_Step_s : slimF Try.prog 22 = some grid_Step_c := by kernel_rfl
/-- printworks/grid.At -/
def grid_At_r0 : List SO := [rZ 2 (.box 25 (tZ 0)), rZ 4 (.assign (.const (.slice none 0 0))), rZ 5 (.assign (ciZ 0))]
def grid_At_r1 : List SO := [ldZ 8 25 2, rZ 9 (.call ⟨(.value (.func (56 : Nat))), #[(tZ 8)], #[25]⟩), asZ 6 9]
def grid_At_r2 : List SO := [mvZ 10 6, bcZ 11 .neq 33 10 0 33]
def grid_At_r3 : List SO := [mvZ 12 6, rZ 4 (.assign (.const (.slice none 0 0))), asZ 5 12]
def grid_At_r4 : List SO := [mvZ 13 1, rZ 14 (.call ⟨(.value (.func (57 : Nat))), #[(tZ 2), (tZ 13)], #[82, 23]⟩), asZ 7 14]
def grid_At_r5 : List SO := [mvZ 15 7, bcZ 16 .neq 33 15 0 33]
def grid_At_r6 : List SO := [mvZ 17 7, rZ 4 (.assign (.const (.slice none 0 0))), asZ 5 17]
def grid_At_r7 : List SO := [mvZ 18 1, rZ 19 (.call ⟨(.value (.func (68 : Nat))), #[(tZ 2), (tZ 18)], #[82, 23]⟩), asZ 4 19, rZ 5 (.assign (ciZ 0))]
def grid_At_c : SF := ⟨20, (.seq (.reg grid_At_r0)
  (.seq (.seq (.reg grid_At_r1)
  (.seq (.reg grid_At_r2)
  (.cond (tZ 11) (.seq (.reg grid_At_r3)
  .ret) .skip)))
  (.seq (.seq (.reg grid_At_r4)
  (.seq (.reg grid_At_r5)
  (.cond (tZ 16) (.seq (.reg grid_At_r6)
  .ret) .skip)))
  (.seq (.reg grid_At_r7)
  .ret)))), [.tmp 4, .tmp 5]⟩
theorem grid_At_s : slimF Try.prog 31 = some grid_At_c := by kernel_rfl
/-- printworks/grid.Check -/
def grid_Check_r0 : List SO := [rZ 1 (.box 25 (tZ 0)), rZ 2 (.assign (ciZ 0))]
def grid_Check_r1 : List SO := [faZ 8 25 1 0, ldZ 9 3 8, faZ 10 25 1 1, ldZ 11 3 10, faZ 12 25 1 2, ldZ 13 3 12, rZ 14 (.call ⟨(.value (.func (87 : Nat))), #[(tZ 9), (tZ 11), (tZ 13)], #[3, 3, 3]⟩), mvZ 7 14, exZ 15 7 0, exZ 16 7 1, asZ 3 15, asZ 4 16]
def grid_Check_r2 : List SO := [mvZ 17 4, bcZ 18 .neq 33 17 0 33]
def grid_Check_r3 : List SO := [mvZ 19 4, asZ 2 19]
def grid_Check_r4 : List SO := [faZ 20 25 1 3, ldZ 21 23 20, rZ 22 (.call ⟨(.builtin .len), #[(tZ 21)], #[23]⟩), mvZ 23 3, faZ 24 25 1 1, ldZ 25 3 24, boZ 26 .mul 3 23 25 3, boZ 27 .neq 3 22 26 3]
def grid_Check_r5 : List SO := [rZ 2 (.assign (ciZ 4))]
def grid_Check_r6 : List SO := [faZ 28 25 1 3, ldZ 29 23 28, rZ 30 (.call ⟨(.builtin .len), #[(tZ 29)], #[23]⟩), rZ 31 (.move (ciZ 0))]
def grid_Check_r7 : List SO := [boZ 32 .lss 3 31 30 3]
def grid_Check_r8 : List SO := [iaZ 33 23 29 31, ldZ 34 3 33, asZ 6 34]
def grid_Check_r9 : List SO := [mvZ 35 6, rZ 36 (.binOp .lss 3 (tZ 35) (.const (.int .i64 (-32768))) 3), mvZ 37 36, gZ 37 false (mvZ 38 6), gZ 37 false (bcZ 39 .gtr 3 38 65535 3), rZ 40 (.pick (tZ 37) (.const (.bool true)) (tZ 39))]
def grid_Check_r10 : List SO := [rZ 2 (.assign (ciZ 3))]
def grid_Check_r11 : List SO := [bcZ 41 .add 3 31 1 3, mvZ 31 41]
def grid_Check_r12 : List SO := [rZ 2 (.assign (ciZ 0))]
def grid_Check_c : SF := ⟨42, (.seq (.reg grid_Check_r0)
  (.seq (.reg grid_Check_r1)
  (.seq (.seq (.reg grid_Check_r2)
  (.cond (tZ 18) (.seq (.reg grid_Check_r3)
  .ret) .skip))
  (.seq (.seq (.reg grid_Check_r4)
  (.cond (tZ 27) (.seq (.reg grid_Check_r5)
  .ret) .skip))
  (.seq (.seq (.reg grid_Check_r6)
  (.block 0 (.loop (.seq (.reg grid_Check_r7)
  (.seq (.cond (tZ 32) .skip (.exit 0))
  (.seq (.block 1 (.seq (.reg grid_Check_r8)
  (.seq (.reg grid_Check_r9)
  (.cond (tZ 40) (.seq (.reg grid_Check_r10)
  .ret) .skip))))
  (.reg grid_Check_r11)))))))
  (.seq (.reg grid_Check_r12)
  .ret)))))), [.tmp 2]⟩
theorem grid_Check_s : slimF Try.prog 56 = some grid_Check_c := by kernel_rfl
abbrev grid_Check_f : Nat := 56
/-- printworks/grid.inputs -/
def grid_inputs_r0 : List SO := [rZ 4 (.assign (ciZ 0))]
def grid_inputs_r1 : List SO := [mvZ 7 1, rZ 8 (.call ⟨(.builtin .len), #[(tZ 7)], #[23]⟩), mvZ 9 0, rZ 10 (.nilCheck (tZ 9)), faZ 11 25 10 0, ldZ 12 3 11, boZ 13 .neq 3 8 12 3]
def grid_inputs_r2 : List SO := [rZ 4 (.assign (ciZ 4))]
def grid_inputs_r3 : List SO := [mvZ 14 1, rZ 15 (.call ⟨(.builtin .len), #[(tZ 14)], #[23]⟩), rZ 16 (.move (ciZ 0))]
def grid_inputs_r4 : List SO := [boZ 17 .lss 3 16 15 3]
def grid_inputs_r5 : List SO := [iaZ 18 23 14 16, ldZ 19 3 18, asZ 6 19]
def grid_inputs_r6 : List SO := [mvZ 20 6, bcZ 21 .lss 3 20 0 3, mvZ 22 21, gZ 22 false (mvZ 23 6), gZ 22 false (bcZ 24 .gtr 3 23 65280 3), rZ 25 (.pick (tZ 22) (.const (.bool true)) (tZ 24))]
def grid_inputs_r7 : List SO := [rZ 4 (.assign (ciZ 3))]
def grid_inputs_r8 : List SO := [bcZ 26 .add 3 16 1 3, mvZ 16 26]
def grid_inputs_r9 : List SO := [rZ 4 (.assign (ciZ 0))]
def grid_inputs_c : SF := ⟨27, (.seq (.reg grid_inputs_r0)
  (.seq (.seq (.reg grid_inputs_r1)
  (.cond (tZ 13) (.seq (.reg grid_inputs_r2)
  .ret) .skip))
  (.seq (.seq (.reg grid_inputs_r3)
  (.block 0 (.loop (.seq (.reg grid_inputs_r4)
  (.seq (.cond (tZ 17) .skip (.exit 0))
  (.seq (.block 1 (.seq (.reg grid_inputs_r5)
  (.seq (.reg grid_inputs_r6)
  (.cond (tZ 25) (.seq (.reg grid_inputs_r7)
  .ret) .skip))))
  (.reg grid_inputs_r8)))))))
  (.seq (.reg grid_inputs_r9)
  .ret)))), [.tmp 4]⟩
theorem grid_inputs_s : slimF Try.prog 57 = some grid_inputs_c := by kernel_rfl
/-- printworks/grid.Raw -/
def grid_Raw_r0 : List SO := [rZ 4 (.assign (.const (.slice none 0 0)))]
def grid_Raw_r1 : List SO := [mvZ 20 0, rZ 21 (.nilCheck (tZ 20)), faZ 22 25 21 2, ldZ 23 3 22, bcZ 24 .sub 3 23 1 3, rZ 25 (.binOp .quo 3 (ciZ 65280) (tZ 24) 3), asZ 5 25]
def grid_Raw_r2 : List SO := [rZ 6 (.alloc 150), rZ 7 (.alloc 150), rZ 8 (.alloc 150)]
def grid_Raw_r3 : List SO := [mvZ 26 0, rZ 27 (.nilCheck (tZ 26)), faZ 28 25 27 0, ldZ 29 3 28, asZ 9 29]
def grid_Raw_r4 : List SO := [mvZ 30 1, rZ 31 (.call ⟨(.builtin .len), #[(tZ 30)], #[23]⟩), rZ 32 (.move (ciZ 0))]
def grid_Raw_r5 : List SO := [boZ 33 .lss 3 32 31 3]
def grid_Raw_r6 : List SO := [mvZ 34 32, iaZ 35 23 30 32, ldZ 36 3 35, asZ 10 34, asZ 11 36]
def grid_Raw_r7 : List SO := [mvZ 37 10, mvZ 38 10, mvZ 39 11, mvZ 40 5, boZ 41 .quo 3 39 40 3, mvZ 42 11, mvZ 43 5, boZ 44 .rem 3 42 43 3, iaZ 45 150 6 37, stZ 3 45 41, iaZ 46 150 7 38, stZ 3 46 44]
def grid_Raw_a7 : List (List Nat) := [[], [], [], [], [2, 3], [], [], [5, 6], [0, 0, 2, 3, 4], [8, 4, 0, 2, 3, 4], [1, 0, 1, 2, 3, 4, 5, 6, 7, 8, 9], [10, 7, 9, 0, 1, 2, 3, 4, 5, 6, 7, 8, 9]]
def grid_Raw_r8 : List SO := [mvZ 47 10, asZ 12 47]
def grid_Raw_r9 : List SO := [mvZ 48 12, bcZ 49 .gtr 3 48 0 3, mvZ 50 49, gZ 50 true (mvZ 51 12), gZ 50 true (bcZ 52 .sub 3 51 1 3), gZ 50 true (iaZ 53 150 8 52), gZ 50 true (ldZ 54 3 53), gZ 50 true (iaZ 55 150 7 54), gZ 50 true (ldZ 56 3 55), gZ 50 true (mvZ 57 10), gZ 50 true (iaZ 58 150 7 57), gZ 50 true (ldZ 59 3 58), gZ 50 true (boZ 60 .lss 3 56 59 3), rZ 61 (.pick (tZ 50) (tZ 60) (.const (.bool false)))]
def grid_Raw_a9 : List (List Nat) := [[], [0], [1], [2], [3, 2], [4, 2], [5, 2], [6, 2], [7, 2], [2], [9, 2], [10, 2], [8, 11, 2], [2, 12]]
def grid_Raw_r10 : List SO := [mvZ 64 12, mvZ 65 12, bcZ 66 .sub 3 65 1 3, iaZ 67 150 8 66, ldZ 68 3 67, iaZ 69 150 8 64, stZ 3 69 68]
def grid_Raw_r11 : List SO := [mvZ 62 12, bcZ 63 .sub 3 62 1 3, asZ 12 63]
def grid_Raw_r12 : List SO := [mvZ 70 12, mvZ 71 10, iaZ 72 150 8 70, stZ 3 72 71]
def grid_Raw_r13 : List SO := [bcZ 73 .add 3 32 1 3, mvZ 32 73]
def grid_Raw_r14 : List SO := [mvZ 74 0, rZ 75 (.nilCheck (tZ 74)), faZ 76 25 75 1, ldZ 77 3 76, rZ 78 (.makeSlice 23 (tZ 77) (tZ 77)), asZ 13 78]
def grid_Raw_r15 : List SO := [mvZ 79 5, asZ 14 79]
def grid_Raw_r16 : List SO := [rZ 15 (.assign (ciZ 0))]
def grid_Raw_r17 : List SO := [mvZ 80 15, mvZ 81 9, boZ 82 .leq 3 80 81 3]
def grid_Raw_r18 : List SO := [rZ 16 (.assign (ciZ 0))]
def grid_Raw_r19 : List SO := [mvZ 85 15, mvZ 86 9, boZ 87 .lss 3 85 86 3]
def grid_Raw_r20 : List SO := [mvZ 88 15, iaZ 89 150 8 88, ldZ 90 3 89, iaZ 91 150 7 90, ldZ 92 3 91, asZ 16 92]
def grid_Raw_r21 : List SO := [mvZ 93 14, mvZ 94 16, boZ 95 .sub 3 93 94 3, asZ 17 95]
def grid_Raw_r22 : List SO := [mvZ 96 17, bcZ 97 .gtr 3 96 0 3]
def grid_Raw_r23 : List SO := [mvZ 98 0, mvZ 99 9, rZ 100 (.slice 150 (tZ 6) none (some (tZ 99)) none), rZ 101 (.call ⟨(.value (.func (88 : Nat))), #[(tZ 98), (tZ 100)], #[82, 23]⟩), asZ 18 101]
def grid_Raw_r24 : List SO := [mvZ 102 13, rZ 103 (.call ⟨(.builtin .len), #[(tZ 102)], #[23]⟩), rZ 104 (.move (ciZ 0))]
def grid_Raw_r25 : List SO := [boZ 105 .lss 3 104 103 3]
def grid_Raw_r26 : List SO := [mvZ 106 104, asZ 19 106]
def grid_Raw_r27 : List SO := [mvZ 107 13, mvZ 108 19, iaZ 109 23 107 108, ldZ 110 3 109, mvZ 111 17, mvZ 112 0, rZ 113 (.nilCheck (tZ 112)), faZ 114 25 113 3, ldZ 115 23 114, mvZ 116 18, mvZ 117 19, boZ 118 .add 3 116 117 3, iaZ 119 23 115 118, ldZ 120 3 119, boZ 121 .mul 3 111 120 3, boZ 122 .add 3 110 121 3, iaZ 123 23 107 108, stZ 3 123 122]
def grid_Raw_a27 : List (List Nat) := [[], [], [0, 1], [2], [], [], [5], [6], [7], [], [], [9, 10], [8, 11], [12], [4, 13], [3, 14], [0, 1, 0, 1, 2, 3, 4, 5, 6, 7, 8, 9, 10, 11, 12, 13, 14, 15], [16, 15, 0, 1, 2, 3, 4, 5, 6, 7, 8, 9, 10, 11, 12, 13, 14, 15]]
def grid_Raw_r28 : List SO := [bcZ 124 .add 3 104 1 3, mvZ 104 124]
def grid_Raw_r29 : List SO := [mvZ 125 15, mvZ 126 9, boZ 127 .lss 3 125 126 3]
def grid_Raw_r30 : List SO := [mvZ 128 16, asZ 14 128]
def grid_Raw_r31 : List SO := [mvZ 129 16, bcZ 130 .eql 3 129 0 3]
def grid_Raw_r32 : List SO := [mvZ 131 15, iaZ 132 150 8 131, ldZ 133 3 132, iaZ 134 150 6 133, ldZ 135 3 134, bcZ 136 .add 3 135 1 3, iaZ 137 150 6 133, stZ 3 137 136]
def grid_Raw_r33 : List SO := [mvZ 83 15, bcZ 84 .add 3 83 1 3, asZ 15 84]
def grid_Raw_r34 : List SO := [mvZ 138 13, asZ 4 138]
def grid_Raw_c : SF := ⟨139, (.seq (.reg grid_Raw_r0)
  (.seq (.reg grid_Raw_r1)
  (.seq (.reg grid_Raw_r2)
  (.seq (.reg grid_Raw_r3)
  (.seq (.seq (.reg grid_Raw_r4)
  (.block 0 (.loop (.seq (.reg grid_Raw_r5)
  (.seq (.cond (tZ 33) .skip (.exit 0))
  (.seq (.block 1 (.seq (.reg grid_Raw_r6)
  (.seq (.regd grid_Raw_r7 grid_Raw_a7)
  (.seq (.reg grid_Raw_r8)
  (.seq (.block 2 (.loop (.seq (.seq (.regd grid_Raw_r9 grid_Raw_a9)
  (.cond (tZ 61) .skip (.exit 2)))
  (.seq (.block 3 (.reg grid_Raw_r10))
  (.reg grid_Raw_r11)))))
  (.reg grid_Raw_r12))))))
  (.reg grid_Raw_r13)))))))
  (.seq (.reg grid_Raw_r14)
  (.seq (.reg grid_Raw_r15)
  (.seq (.seq (.reg grid_Raw_r16)
  (.block 4 (.loop (.seq (.seq (.reg grid_Raw_r17)
  (.cond (tZ 82) .skip (.exit 4)))
  (.seq (.block 5 (.seq (.reg grid_Raw_r18)
  (.seq (.seq (.reg grid_Raw_r19)
  (.cond (tZ 87) (.reg grid_Raw_r20) .skip))
  (.seq (.seq (.reg grid_Raw_r21)
  (.seq (.reg grid_Raw_r22)
  (.cond (tZ 97) (.seq (.reg grid_Raw_r23)
  (.seq (.reg grid_Raw_r24)
  (.block 6 (.loop (.seq (.reg grid_Raw_r25)
  (.seq (.cond (tZ 105) .skip (.exit 6))
  (.seq (.block 7 (.seq (.reg grid_Raw_r26)
  (.regd grid_Raw_r27 grid_Raw_a27)))
  (.reg grid_Raw_r28)))))))) .skip)))
  (.seq (.reg grid_Raw_r29)
  (.cond (tZ 127) (.seq (.reg grid_Raw_r30)
  (.seq (.seq (.reg grid_Raw_r31)
  (.cond (tZ 130) (.exit 4) .skip))
  (.reg grid_Raw_r32))) .skip))))))
  (.reg grid_Raw_r33))))))
  (.seq (.reg grid_Raw_r34)
  .ret))))))))), [.tmp 4]⟩
theorem grid_Raw_s : slimF Try.prog 58 = some grid_Raw_c := by kernel_rfl
abbrev grid_Raw_f : Nat := 58
/-- printworks/grid.Quick -/
def grid_Quick_r0 : List SO := [rZ 4 (.assign (.const (.slice none 0 0)))]
def grid_Quick_r1 : List SO := [mvZ 9 0, rZ 10 (.nilCheck (tZ 9)), faZ 11 25 10 2, ldZ 12 3 11, bcZ 13 .sub 3 12 1 3, rZ 14 (.binOp .quo 3 (ciZ 65280) (tZ 13) 3), asZ 5 14]
def grid_Quick_r2 : List SO := [mvZ 15 0, mvZ 16 1, rZ 17 (.call ⟨(.value (.func (58 : Nat))), #[(tZ 15), (tZ 16)], #[82, 23]⟩), asZ 6 17]
def grid_Quick_r3 : List SO := [mvZ 18 6, rZ 19 (.call ⟨(.builtin .len), #[(tZ 18)], #[23]⟩), rZ 20 (.move (ciZ 0))]
def grid_Quick_r4 : List SO := [boZ 21 .lss 3 20 19 3]
def grid_Quick_r5 : List SO := [mvZ 22 20, iaZ 23 23 18 20, ldZ 24 3 23, asZ 7 22, asZ 8 24]
def grid_Quick_r6 : List SO := [mvZ 25 6, mvZ 26 7, mvZ 27 8, mvZ 28 5, rZ 29 (.call ⟨(.value (.func (78 : Nat))), #[(tZ 27), (tZ 28)], #[3, 3]⟩), iaZ 30 23 25 26, stZ 3 30 29]
def grid_Quick_r7 : List SO := [bcZ 31 .add 3 20 1 3, mvZ 20 31]
def grid_Quick_r8 : List SO := [mvZ 32 6, asZ 4 32]
def grid_Quick_c : SF := ⟨33, (.seq (.reg grid_Quick_r0)
  (.seq (.reg grid_Quick_r1)
  (.seq (.reg grid_Quick_r2)
  (.seq (.seq (.reg grid_Quick_r3)
  (.block 0 (.loop (.seq (.reg grid_Quick_r4)
  (.seq (.cond (tZ 21) .skip (.exit 0))
  (.seq (.block 1 (.seq (.reg grid_Quick_r5)
  (.reg grid_Quick_r6)))
  (.reg grid_Quick_r7)))))))
  (.seq (.reg grid_Quick_r8)
  .ret))))), [.tmp 4]⟩
theorem grid_Quick_s : slimF Try.prog 68 = some grid_Quick_c := by kernel_rfl
/-- printworks/grid.Make -/
def grid_Make_r0 : List SO := [rZ 8 (.alloc 25), rZ 9 (.assign (ciZ 0))]
def grid_Make_r1 : List SO := [mvZ 19 0, mvZ 20 1, mvZ 21 2, rZ 22 (.call ⟨(.value (.func (87 : Nat))), #[(tZ 19), (tZ 20), (tZ 21)], #[3, 3, 3]⟩), mvZ 18 22, exZ 23 18 0, exZ 24 18 1, asZ 10 23, asZ 11 24]
def grid_Make_r2 : List SO := [mvZ 25 11, bcZ 26 .neq 33 25 0 33]
def grid_Make_r3 : List SO := [rZ 27 (.build 25 #[]), mvZ 28 11, stZ 25 8 27, asZ 9 28]
def grid_Make_r4 : List SO := [mvZ 29 0, mvZ 30 1, mvZ 31 2, mvZ 32 10, mvZ 33 1, boZ 34 .mul 3 32 33 3, rZ 35 (.makeSlice 23 (ciZ 0) (tZ 34)), rZ 36 (.build 25 #[(0, (tZ 29)), (1, (tZ 30)), (2, (tZ 31)), (3, (tZ 35))]), rZ 12 (.alloc 25), stZ 25 12 36]
def grid_Make_r5 : List SO := [mvZ 37 0, rZ 38 (.makeSlice 23 (tZ 37) (tZ 37)), asZ 13 38]
def grid_Make_r6 : List SO := [mvZ 39 10, rZ 40 (.move (ciZ 0))]
def grid_Make_r7 : List SO := [boZ 41 .lss 3 40 39 3]
def grid_Make_r8 : List SO := [mvZ 43 3, mvZ 44 13, rZ 45 (.call ⟨(.builtin .append), #[(.const (.slice none 0 0)), (tZ 44)], #[23, 23]⟩), rZ 46 (.call ⟨(.value (tZ 43)), #[(tZ 45)], #[23]⟩), mvZ 42 46, exZ 47 42 0, exZ 48 42 1, asZ 14 47, asZ 15 48]
def grid_Make_r9 : List SO := [mvZ 49 15, bcZ 50 .neq 33 49 0 33]
def grid_Make_r10 : List SO := [rZ 51 (.build 25 #[]), mvZ 52 15, stZ 25 8 51, asZ 9 52]
def grid_Make_r11 : List SO := [mvZ 53 14, rZ 54 (.call ⟨(.builtin .len), #[(tZ 53)], #[23]⟩), mvZ 55 1, boZ 56 .neq 3 54 55 3]
def grid_Make_r12 : List SO := [rZ 57 (.build 25 #[]), stZ 25 8 57, rZ 9 (.assign (ciZ 4))]
def grid_Make_r13 : List SO := [faZ 58 25 12 3, ldZ 59 23 58, mvZ 60 14, rZ 61 (.call ⟨(.builtin .append), #[(tZ 59), (tZ 60)], #[23, 23]⟩), faZ 62 25 12 3, stZ 23 62 61]
def grid_Make_r14 : List SO := [mvZ 63 0, bcZ 64 .sub 3 63 1 3, asZ 16 64]
def grid_Make_r15 : List SO := [mvZ 65 16, bcZ 66 .geq 3 65 0 3]
def grid_Make_r16 : List SO := [mvZ 69 13, mvZ 70 16, iaZ 71 23 69 70, ldZ 72 3 71, bcZ 73 .add 3 72 1 3, iaZ 74 23 69 70, stZ 3 74 73]
def grid_Make_r17 : List SO := [mvZ 75 13, mvZ 76 16, iaZ 77 23 75 76, ldZ 78 3 77, mvZ 79 2, boZ 80 .lss 3 78 79 3]
def grid_Make_r18 : List SO := [mvZ 81 13, mvZ 82 16, iaZ 83 23 81 82, ⟨none, .store 3 (tZ 83) (ciZ 0), none⟩]
def grid_Make_r19 : List SO := [mvZ 67 16, bcZ 68 .sub 3 67 1 3, asZ 16 68]
def grid_Make_r20 : List SO := [bcZ 84 .add 3 40 1 3, mvZ 40 84]
def grid_Make_r21 : List SO := [ldZ 85 25 12, rZ 86 (.call ⟨(.value (.func (56 : Nat))), #[(tZ 85)], #[25]⟩), asZ 17 86]
def grid_Make_r22 : List SO := [mvZ 87 17, bcZ 88 .neq 33 87 0 33]
def grid_Make_r23 : List SO := [rZ 89 (.build 25 #[]), mvZ 90 17, stZ 25 8 89, asZ 9 90]
def grid_Make_r24 : List SO := [ldZ 91 25 12, stZ 25 8 91, rZ 9 (.assign (ciZ 0))]
def grid_Make_c : SF := ⟨92, (.seq (.reg grid_Make_r0)
  (.seq (.reg grid_Make_r1)
  (.seq (.seq (.reg grid_Make_r2)
  (.cond (tZ 26) (.seq (.reg grid_Make_r3)
  .ret) .skip))
  (.seq (.reg grid_Make_r4)
  (.seq (.reg grid_Make_r5)
  (.seq (.seq (.reg grid_Make_r6)
  (.block 0 (.loop (.seq (.reg grid_Make_r7)
  (.seq (.cond (tZ 41) .skip (.exit 0))
  (.seq (.block 1 (.seq (.reg grid_Make_r8)
  (.seq (.seq (.reg grid_Make_r9)
  (.cond (tZ 50) (.seq (.reg grid_Make_r10)
  .ret) .skip))
  (.seq (.seq (.reg grid_Make_r11)
  (.cond (tZ 56) (.seq (.reg grid_Make_r12)
  .ret) .skip))
  (.seq (.reg grid_Make_r13)
  (.seq (.reg grid_Make_r14)
  (.block 2 (.loop (.seq (.seq (.reg grid_Make_r15)
  (.cond (tZ 66) .skip (.exit 2)))
  (.seq (.block 3 (.seq (.seq (.reg grid_Make_r16)
  (.seq (.reg grid_Make_r17)
  (.cond (tZ 80) (.exit 2) .skip)))
  (.reg grid_Make_r18)))
  (.reg grid_Make_r19)))))))))))
  (.reg grid_Make_r20)))))))
  (.seq (.seq (.reg grid_Make_r21)
  (.seq (.reg grid_Make_r22)
  (.cond (tZ 88) (.seq (.reg grid_Make_r23)
  .ret) .skip)))
  (.seq (.reg grid_Make_r24)
  .ret)))))))), [.cell 8 25, .tmp 9]⟩
theorem grid_Make_s : slimF Try.prog 81 = some grid_Make_c := by kernel_rfl
/-- printworks/grid.nodes -/
def grid_nodes_r0 : List SO := [rZ 6 (.assign (ciZ 0)), rZ 7 (.assign (ciZ 0))]
def grid_nodes_r1 : List SO := [mvZ 9 0, bcZ 10 .lss 3 9 1 3, mvZ 11 10, gZ 11 false (mvZ 12 0), gZ 11 false (bcZ 13 .gtr 3 12 4 3), rZ 14 (.pick (tZ 11) (.const (.bool true)) (tZ 13)), mvZ 15 14, gZ 15 false (mvZ 16 1), gZ 15 false (bcZ 17 .lss 3 16 1 3), rZ 18 (.pick (tZ 15) (.const (.bool true)) (tZ 17)), mvZ 19 18, gZ 19 false (mvZ 20 1), gZ 19 false (bcZ 21 .gtr 3 20 8 3), rZ 22 (.pick (tZ 19) (.const (.bool true)) (tZ 21))]
def grid_nodes_r2 : List SO := [rZ 6 (.assign (ciZ 0)), rZ 7 (.assign (ciZ 3))]
def grid_nodes_r3 : List SO := [mvZ 23 2]
def grid_nodes_r4 : List SO := [bcZ 25 .eql 3 23 2 3, asZ 24 25]
def grid_nodes_r5 : List SO := [bcZ 26 .eql 3 23 3 3, asZ 24 26]
def grid_nodes_r6 : List SO := [bcZ 27 .eql 3 23 4 3, asZ 24 27]
def grid_nodes_r7 : List SO := [bcZ 28 .eql 3 23 5 3, asZ 24 28]
def grid_nodes_r8 : List SO := [bcZ 29 .eql 3 23 6 3, asZ 24 29]
def grid_nodes_r9 : List SO := [bcZ 30 .eql 3 23 7 3, asZ 24 30]
def grid_nodes_r10 : List SO := [bcZ 31 .eql 3 23 9 3, asZ 24 31]
def grid_nodes_r11 : List SO := [rZ 6 (.assign (ciZ 0)), rZ 7 (.assign (ciZ 3))]
def grid_nodes_r12 : List SO := [rZ 8 (.assign (ciZ 1))]
def grid_nodes_r13 : List SO := [mvZ 32 0, rZ 33 (.move (ciZ 0))]
def grid_nodes_r14 : List SO := [boZ 34 .lss 3 33 32 3]
def grid_nodes_r15 : List SO := [mvZ 35 8, mvZ 36 2, boZ 37 .mul 3 35 36 3, asZ 8 37]
def grid_nodes_r16 : List SO := [bcZ 38 .add 3 33 1 3, mvZ 33 38]
def grid_nodes_r17 : List SO := [mvZ 39 8, mvZ 40 1, boZ 41 .mul 3 39 40 3, bcZ 42 .gtr 3 41 32768 3]
def grid_nodes_r18 : List SO := [rZ 6 (.assign (ciZ 0)), rZ 7 (.assign (ciZ 2))]
def grid_nodes_r19 : List SO := [mvZ 43 8, asZ 6 43, rZ 7 (.assign (ciZ 0))]
def grid_nodes_c : SF := ⟨44, (.seq (.reg grid_nodes_r0)
  (.seq (.seq (.reg grid_nodes_r1)
  (.cond (tZ 22) (.seq (.reg grid_nodes_r2)
  .ret) .skip))
  (.seq (.seq (.reg grid_nodes_r3)
  (.block 0 (.seq (.seq (.reg grid_nodes_r4)
  (.cond (tZ 24) .skip (.seq (.reg grid_nodes_r5)
  (.cond (tZ 24) .skip (.seq (.reg grid_nodes_r6)
  (.cond (tZ 24) .skip (.seq (.reg grid_nodes_r7)
  (.cond (tZ 24) .skip (.seq (.reg grid_nodes_r8)
  (.cond (tZ 24) .skip (.seq (.reg grid_nodes_r9)
  (.cond (tZ 24) .skip (.reg grid_nodes_r10)))))))))))))
  (.cond (tZ 24) .skip (.seq (.reg grid_nodes_r11)
  .ret)))))
  (.seq (.reg grid_nodes_r12)
  (.seq (.seq (.reg grid_nodes_r13)
  (.block 1 (.loop (.seq (.reg grid_nodes_r14)
  (.seq (.cond (tZ 34) .skip (.exit 1))
  (.seq (.block 2 (.reg grid_nodes_r15))
  (.reg grid_nodes_r16)))))))
  (.seq (.seq (.reg grid_nodes_r17)
  (.cond (tZ 42) (.seq (.reg grid_nodes_r18)
  .ret) .skip))
  (.seq (.reg grid_nodes_r19)
  .ret))))))), [.tmp 6, .tmp 7]⟩
theorem grid_nodes_s : slimF Try.prog 87 = some grid_nodes_c := by kernel_rfl
abbrev grid_nodes_f : Nat := 87
/-- printworks/grid.at -/
def grid_at_r0 : List SO := [rZ 4 (.assign (ciZ 0))]
def grid_at_r1 : List SO := [rZ 5 (.assign (ciZ 0))]
def grid_at_r2 : List SO := [mvZ 8 1, rZ 9 (.call ⟨(.builtin .len), #[(tZ 8)], #[23]⟩), rZ 10 (.move (ciZ 0))]
def grid_at_r3 : List SO := [boZ 11 .lss 3 10 9 3]
def grid_at_r4 : List SO := [iaZ 12 23 8 10, ldZ 13 3 12, asZ 7 13]
def grid_at_r5 : List SO := [mvZ 14 5, mvZ 15 0, rZ 16 (.nilCheck (tZ 15)), faZ 17 25 16 2, ldZ 18 3 17, boZ 19 .mul 3 14 18 3, mvZ 20 7, boZ 21 .add 3 19 20 3, asZ 5 21]
def grid_at_r6 : List SO := [bcZ 22 .add 3 10 1 3, mvZ 10 22]
def grid_at_r7 : List SO := [mvZ 23 5, mvZ 24 0, rZ 25 (.nilCheck (tZ 24)), faZ 26 25 25 1, ldZ 27 3 26, boZ 28 .mul 3 23 27 3, asZ 4 28]
def grid_at_c : SF := ⟨29, (.seq (.reg grid_at_r0)
  (.seq (.reg grid_at_r1)
  (.seq (.seq (.reg grid_at_r2)
  (.block 0 (.loop (.seq (.reg grid_at_r3)
  (.seq (.cond (tZ 11) .skip (.exit 0))
  (.seq (.block 1 (.seq (.reg grid_at_r4)
  (.reg grid_at_r5)))
  (.reg grid_at_r6)))))))
  (.seq (.reg grid_at_r7)
  .ret)))), [.tmp 4]⟩
theorem grid_at_s : slimF Try.prog 88 = some grid_at_c := by kernel_rfl
abbrev grid_at_f : Nat := 88
/-- printworks/grid.Hull -/
def grid_Hull_r0 : List SO := [rZ 6 (.assign (.const (.slice none 0 0))), rZ 7 (.assign (.const (.slice none 0 0)))]
def grid_Hull_r1 : List SO := [mvZ 20 0, rZ 21 (.nilCheck (tZ 20)), faZ 22 25 21 2, ldZ 23 3 22, bcZ 24 .sub 3 23 1 3, rZ 25 (.binOp .quo 3 (ciZ 65280) (tZ 24) 3), asZ 8 25]
def grid_Hull_r2 : List SO := [rZ 9 (.alloc 150), rZ 10 (.alloc 150), rZ 11 (.alloc 150)]
def grid_Hull_r3 : List SO := [mvZ 26 1, rZ 27 (.call ⟨(.builtin .len), #[(tZ 26)], #[23]⟩), rZ 28 (.move (ciZ 0))]
def grid_Hull_r4 : List SO := [boZ 29 .lss 3 28 27 3]
def grid_Hull_r5 : List SO := [mvZ 30 28, asZ 12 30]
def grid_Hull_r6 : List SO := [mvZ 31 12, mvZ 32 12, mvZ 33 1, mvZ 34 12, iaZ 35 23 33 34, ldZ 36 3 35, mvZ 37 8, boZ 38 .quo 3 36 37 3, mvZ 39 2, mvZ 40 12, iaZ 41 23 39 40, ldZ 42 3 41, mvZ 43 8, boZ 44 .add 3 42 43 3, bcZ 45 .sub 3 44 1 3, mvZ 46 8, boZ 47 .quo 3 45 46 3, iaZ 48 150 9 31, stZ 3 48 38, iaZ 49 150 10 32, stZ 3 49 47]
def grid_Hull_a6 : List (List Nat) := [[], [], [], [], [2, 3], [4], [], [5, 6], [], [], [8, 9], [10], [], [11, 12], [13], [], [14, 15], [0, 0, 2, 3, 4, 5, 6, 7], [17, 7, 0, 2, 3, 4, 5, 6, 7], [1, 0, 1, 2, 3, 4, 5, 6, 7, 8, 9, 10, 11, 12, 13, 14, 15, 16, 17, 18], [19, 16, 18, 0, 1, 2, 3, 4, 5, 6, 7, 8, 9, 10, 11, 12, 13, 14, 15, 16, 17, 18]]
def grid_Hull_r7 : List SO := [bcZ 50 .add 3 28 1 3, mvZ 28 50]
def grid_Hull_r8 : List SO := [ldZ 51 150 9, stZ 150 11 51]
def grid_Hull_r9 : List SO := [mvZ 52 0, rZ 53 (.nilCheck (tZ 52)), faZ 54 25 53 1, ldZ 55 3 54, rZ 56 (.makeSlice 23 (tZ 55) (tZ 55)), mvZ 57 0, rZ 58 (.nilCheck (tZ 57)), faZ 59 25 58 1, ldZ 60 3 59, rZ 61 (.makeSlice 23 (tZ 60) (tZ 60)), asZ 13 56, asZ 14 61]
def grid_Hull_a9 : List (List Nat) := [[], [0], [1], [2], [3, 3], [], [5], [6], [7], [8, 8], [4, 0, 1, 2, 3, 4], [9, 10, 0, 1, 2, 3, 4, 5, 6, 7, 8, 9, 10]]
def grid_Hull_r10 : List SO := [rZ 15 (.assign (.const (.bool true)))]
def grid_Hull_r11 : List SO := [mvZ 62 0, mvZ 63 0, rZ 64 (.nilCheck (tZ 63)), faZ 65 25 64 0, ldZ 66 3 65, rZ 67 (.slice 150 (tZ 11) none (some (tZ 66)) none), rZ 68 (.call ⟨(.value (.func (88 : Nat))), #[(tZ 62), (tZ 67)], #[82, 23]⟩), asZ 16 68]
def grid_Hull_r12 : List SO := [mvZ 69 0, rZ 70 (.nilCheck (tZ 69)), faZ 71 25 70 1, ldZ 72 3 71, rZ 73 (.move (ciZ 0))]
def grid_Hull_r13 : List SO := [boZ 74 .lss 3 73 72 3]
def grid_Hull_r14 : List SO := [mvZ 75 73, asZ 17 75]
def grid_Hull_r15 : List SO := [mvZ 76 0, rZ 77 (.nilCheck (tZ 76)), faZ 78 25 77 3, ldZ 79 23 78, mvZ 80 16, mvZ 81 17, boZ 82 .add 3 80 81 3, iaZ 83 23 79 82, ldZ 84 3 83, asZ 18 84]
def grid_Hull_r16 : List SO := [mvZ 85 15, mvZ 86 85, gZ 86 false (mvZ 87 18), gZ 86 false (mvZ 88 13), gZ 86 false (mvZ 89 17), gZ 86 false (iaZ 90 23 88 89), gZ 86 false (ldZ 91 3 90), gZ 86 false (boZ 92 .lss 3 87 91 3), rZ 93 (.pick (tZ 86) (.const (.bool true)) (tZ 92))]
def grid_Hull_r17 : List SO := [mvZ 94 13, mvZ 95 17, mvZ 96 18, iaZ 97 23 94 95, stZ 3 97 96]
def grid_Hull_r18 : List SO := [mvZ 98 15, mvZ 99 98, gZ 99 false (mvZ 100 18), gZ 99 false (mvZ 101 14), gZ 99 false (mvZ 102 17), gZ 99 false (iaZ 103 23 101 102), gZ 99 false (ldZ 104 3 103), gZ 99 false (boZ 105 .gtr 3 100 104 3), rZ 106 (.pick (tZ 99) (.const (.bool true)) (tZ 105))]
def grid_Hull_r19 : List SO := [mvZ 107 14, mvZ 108 17, mvZ 109 18, iaZ 110 23 107 108, stZ 3 110 109]
def grid_Hull_r20 : List SO := [bcZ 111 .add 3 73 1 3, mvZ 73 111]
def grid_Hull_r21 : List SO := [rZ 15 (.assign (.const (.bool false)))]
def grid_Hull_r22 : List SO := [mvZ 112 0, rZ 113 (.nilCheck (tZ 112)), faZ 114 25 113 0, ldZ 115 3 114, bcZ 116 .sub 3 115 1 3, asZ 19 116]
def grid_Hull_r23 : List SO := [mvZ 117 19, bcZ 118 .geq 3 117 0 3, mvZ 119 118, gZ 119 true (mvZ 120 19), gZ 119 true (iaZ 121 150 11 120), gZ 119 true (ldZ 122 3 121), gZ 119 true (mvZ 123 19), gZ 119 true (iaZ 124 150 10 123), gZ 119 true (ldZ 125 3 124), gZ 119 true (boZ 126 .eql 3 122 125 3), rZ 127 (.pick (tZ 119) (tZ 126) (.const (.bool false)))]
def grid_Hull_a23 : List (List Nat) := [[], [0], [1], [2], [3, 2], [4, 2], [2], [6, 2], [7, 2], [5, 8, 2], [2, 9]]
def grid_Hull_r24 : List SO := [mvZ 128 19, mvZ 129 19, iaZ 130 150 9 129, ldZ 131 3 130, iaZ 132 150 11 128, stZ 3 132 131]
def grid_Hull_r25 : List SO := [mvZ 133 19, bcZ 134 .sub 3 133 1 3, asZ 19 134]
def grid_Hull_r26 : List SO := [mvZ 135 19, bcZ 136 .lss 3 135 0 3]
def grid_Hull_r27 : List SO := [mvZ 137 13, mvZ 138 14, asZ 6 137, asZ 7 138]
def grid_Hull_r28 : List SO := [mvZ 139 19, iaZ 140 150 11 139, ldZ 141 3 140, bcZ 142 .add 3 141 1 3, iaZ 143 150 11 139, stZ 3 143 142]
def grid_Hull_c : SF := ⟨144, (.seq (.reg grid_Hull_r0)
  (.seq (.reg grid_Hull_r1)
  (.seq (.reg grid_Hull_r2)
  (.seq (.seq (.reg grid_Hull_r3)
  (.block 0 (.loop (.seq (.reg grid_Hull_r4)
  (.seq (.cond (tZ 29) .skip (.exit 0))
  (.seq (.block 1 (.seq (.reg grid_Hull_r5)
  (.regd grid_Hull_r6 grid_Hull_a6)))
  (.reg grid_Hull_r7)))))))
  (.seq (.reg grid_Hull_r8)
  (.seq (.regd grid_Hull_r9 grid_Hull_a9)
  (.seq (.reg grid_Hull_r10)
  (.block 2 (.loop (.block 3 (.seq (.reg grid_Hull_r11)
  (.seq (.seq (.reg grid_Hull_r12)
  (.block 4 (.loop (.seq (.reg grid_Hull_r13)
  (.seq (.cond (tZ 74) .skip (.exit 4))
  (.seq (.block 5 (.seq (.reg grid_Hull_r14)
  (.seq (.reg grid_Hull_r15)
  (.seq (.seq (.reg grid_Hull_r16)
  (.cond (tZ 93) (.reg grid_Hull_r17) .skip))
  (.seq (.reg grid_Hull_r18)
  (.cond (tZ 106) (.reg grid_Hull_r19) .skip))))))
  (.reg grid_Hull_r20)))))))
  (.seq (.reg grid_Hull_r21)
  (.seq (.reg grid_Hull_r22)
  (.seq (.block 6 (.loop (.seq (.seq (.regd grid_Hull_r23 grid_Hull_a23)
  (.cond (tZ 127) .skip (.exit 6)))
  (.block 7 (.seq (.reg grid_Hull_r24)
  (.reg grid_Hull_r25))))))
  (.seq (.seq (.reg grid_Hull_r26)
  (.cond (tZ 136) (.seq (.reg grid_Hull_r27)
  .ret) .skip))
  (.reg grid_Hull_r28))))))))))))))))), [.tmp 6, .tmp 7]⟩
theorem grid_Hull_s : slimF Try.prog 110 = some grid_Hull_c := by kernel_rfl
def tbl_grid : List (Nat × SF) := [(21, grid_Scaled_c), (22, grid_Step_c), (31, grid_At_c), (56, grid_Check_c), (57, grid_inputs_c), (58, grid_Raw_c), (68, grid_Quick_c), (81, grid_Make_c), (87, grid_nodes_c), (88, grid_at_c), (110, grid_Hull_c)]
theorem tbl_grid_ok : okT Try.prog tbl_grid := ⟨grid_Scaled_s, grid_Step_s, grid_At_s, grid_Check_s, grid_inputs_s, grid_Raw_s, grid_Quick_s, grid_Make_s, grid_nodes_s, grid_at_s, grid_Hull_s, trivial⟩

end Go.Proofs.Ytogbkhopanaoiaa
namespace Go.Proofs.Ytogbkhopanaoiaa
open Go Go.Lite
set_option linter.unusedVariables false

/-- printworks/devicelink.Convert -/
def devicelink_Convert_r0 : List SO := [rZ 2 (.box 25 (tZ 0)), rZ 4 (.assign (.const (.slice none 0 0))), rZ 5 (.assign (ciZ 0))]
def devicelink_Convert_r1 : List SO := [ldZ 8 25 2, rZ 9 (.call ⟨(.value (.func (47 : Nat))), #[(tZ 8)], #[25]⟩), asZ 6 9]
def devicelink_Convert_r2 : List SO := [mvZ 10 6, bcZ 11 .neq 33 10 0 33]
def devicelink_Convert_r3 : List SO := [mvZ 12 6, rZ 4 (.assign (.const (.slice none 0 0))), asZ 5 12]
def devicelink_Convert_r4 : List SO := [mvZ 13 1, faZ 14 25 2 0, ldZ 15 3 14, rZ 16 (.call ⟨(.value (.func (48 : Nat))), #[(tZ 13), (tZ 15)], #[23, 3]⟩), asZ 7 16]
def devicelink_Convert_r5 : List SO := [mvZ 17 7, bcZ 18 .neq 33 17 0 33]
def devicelink_Convert_r6 : List SO := [mvZ 19 7, rZ 4 (.assign (.const (.slice none 0 0))), asZ 5 19]
def devicelink_Convert_r7 : List SO := [mvZ 20 1, rZ 21 (.call ⟨(.value (.func (49 : Nat))), #[(tZ 2), (tZ 20)], #[82, 23]⟩), asZ 4 21, rZ 5 (.assign (ciZ 0))]
def devicelink_Convert_c : SF := ⟨22, (.seq (.reg devicelink_Convert_r0)
  (.seq (.seq (.reg devicelink_Convert_r1)
  (.seq (.reg devicelink_Convert_r2)
  (.cond (tZ 11) (.seq (.reg devicelink_Convert_r3)
  .ret) .skip)))
  (.seq (.seq (.reg devicelink_Convert_r4)
  (.seq (.reg devicelink_Convert_r5)
  (.cond (tZ 18) (.seq (.reg devicelink_Convert_r6)
  .ret) .skip)))
  (.seq (.reg devicelink_Convert_r7)
  .ret)))), [.tmp 4, .tmp 5]⟩
theorem devicelink_Convert_s : slimF Try.prog 18 = some devicelink_Convert_c := by kernel_rfl
/-- printworks/devicelink.Far -/
def devicelink_Far_r0 : List SO := [rZ 4 (.box 62 (tZ 0)), rZ 5 (.box 62 (tZ 1)), rZ 6 (.box 25 (tZ 2)), rZ 8 (.assign (ciZ 0)), rZ 9 (.assign (ciZ 0))]
def devicelink_Far_r1 : List SO := [ldZ 14 62 4, rZ 15 (.call ⟨(.value (.func (33 : Nat))), #[(tZ 14)], #[62]⟩), asZ 10 15]
def devicelink_Far_r2 : List SO := [mvZ 16 10, bcZ 17 .neq 33 16 0 33]
def devicelink_Far_r3 : List SO := [mvZ 18 10, rZ 8 (.assign (ciZ 0)), asZ 9 18]
def devicelink_Far_r4 : List SO := [ldZ 19 62 5, rZ 20 (.call ⟨(.value (.func (33 : Nat))), #[(tZ 19)], #[62]⟩), asZ 11 20]
def devicelink_Far_r5 : List SO := [mvZ 21 11, bcZ 22 .neq 33 21 0 33]
def devicelink_Far_r6 : List SO := [mvZ 23 11, rZ 8 (.assign (ciZ 0)), asZ 9 23]
def devicelink_Far_r7 : List SO := [ldZ 24 25 6, rZ 25 (.call ⟨(.value (.func (47 : Nat))), #[(tZ 24)], #[25]⟩), asZ 12 25]
def devicelink_Far_r8 : List SO := [mvZ 26 12, bcZ 27 .neq 33 26 0 33]
def devicelink_Far_r9 : List SO := [mvZ 28 12, rZ 8 (.assign (ciZ 0)), asZ 9 28]
def devicelink_Far_r10 : List SO := [faZ 29 25 6 0, ldZ 30 3 29, faZ 31 62 4 1, ldZ 32 22 31, rZ 33 (.call ⟨(.builtin .len), #[(tZ 32)], #[22]⟩), boZ 34 .neq 3 30 33 3, mvZ 35 34, gZ 35 false (faZ 36 25 6 1), gZ 35 false (ldZ 37 3 36), gZ 35 false (faZ 38 62 5 1), gZ 35 false (ldZ 39 22 38), gZ 35 false (rZ 40 (.call ⟨(.builtin .len), #[(tZ 39)], #[22]⟩)), gZ 35 false (boZ 41 .neq 3 37 40 3), rZ 42 (.pick (tZ 35) (.const (.bool true)) (tZ 41))]
def devicelink_Far_r11 : List SO := [rZ 8 (.assign (ciZ 0)), rZ 9 (.assign (ciZ 4))]
def devicelink_Far_r12 : List SO := [mvZ 43 3, faZ 44 25 6 0, ldZ 45 3 44, rZ 46 (.call ⟨(.value (.func (48 : Nat))), #[(tZ 43), (tZ 45)], #[23, 3]⟩), asZ 13 46]
def devicelink_Far_r13 : List SO := [mvZ 47 13, bcZ 48 .neq 33 47 0 33]
def devicelink_Far_r14 : List SO := [mvZ 49 13, rZ 8 (.assign (ciZ 0)), asZ 9 49]
def devicelink_Far_r15 : List SO := [mvZ 50 3, rZ 51 (.call ⟨(.value (.func (60 : Nat))), #[(tZ 4), (tZ 50)], #[105, 23]⟩), mvZ 52 3, rZ 53 (.call ⟨(.value (.func (49 : Nat))), #[(tZ 6), (tZ 52)], #[82, 23]⟩), rZ 54 (.call ⟨(.value (.func (60 : Nat))), #[(tZ 5), (tZ 53)], #[105, 23]⟩), rZ 55 (.call ⟨(.value (.func (59 : Nat))), #[(tZ 51), (tZ 54)], #[43, 43]⟩), asZ 8 55, rZ 9 (.assign (ciZ 0))]
def devicelink_Far_c : SF := ⟨56, (.seq (.reg devicelink_Far_r0)
  (.seq (.seq (.reg devicelink_Far_r1)
  (.seq (.reg devicelink_Far_r2)
  (.cond (tZ 17) (.seq (.reg devicelink_Far_r3)
  .ret) .skip)))
  (.seq (.seq (.reg devicelink_Far_r4)
  (.seq (.reg devicelink_Far_r5)
  (.cond (tZ 22) (.seq (.reg devicelink_Far_r6)
  .ret) .skip)))
  (.seq (.seq (.reg devicelink_Far_r7)
  (.seq (.reg devicelink_Far_r8)
  (.cond (tZ 27) (.seq (.reg devicelink_Far_r9)
  .ret) .skip)))
  (.seq (.seq (.reg devicelink_Far_r10)
  (.cond (tZ 42) (.seq (.reg devicelink_Far_r11)
  .ret) .skip))
  (.seq (.seq (.reg devicelink_Far_r12)
  (.seq (.reg devicelink_Far_r13)
  (.cond (tZ 48) (.seq (.reg devicelink_Far_r14)
  .ret) .skip)))
  (.seq (.reg devicelink_Far_r15)
  .ret))))))), [.tmp 8, .tmp 9]⟩
theorem devicelink_Far_s : slimF Try.prog 25 = some devicelink_Far_c := by kernel_rfl
/-- printworks/devicelink.Check -/
def devicelink_Check_r0 : List SO := [rZ 1 (.box 25 (tZ 0)), rZ 2 (.assign (ciZ 0))]
def devicelink_Check_r1 : List SO := [ldZ 6 25 1, rZ 7 (.call ⟨(.value (.func (56 : Nat))), #[(tZ 6)], #[25]⟩), asZ 3 7]
def devicelink_Check_r2 : List SO := [mvZ 8 3, bcZ 9 .neq 33 8 0 33]
def devicelink_Check_r3 : List SO := [mvZ 10 3, asZ 2 10]
def devicelink_Check_r4 : List SO := [faZ 11 25 1 3, ldZ 12 23 11, rZ 13 (.call ⟨(.builtin .len), #[(tZ 12)], #[23]⟩), rZ 14 (.move (ciZ 0))]
def devicelink_Check_r5 : List SO := [boZ 15 .lss 3 14 13 3]
def devicelink_Check_r6 : List SO := [iaZ 16 23 12 14, ldZ 17 3 16, asZ 5 17]
def devicelink_Check_r7 : List SO := [mvZ 18 5, bcZ 19 .lss 3 18 0 3, mvZ 20 19, gZ 20 false (mvZ 21 5), gZ 20 false (bcZ 22 .gtr 3 21 65280 3), rZ 23 (.pick (tZ 20) (.const (.bool true)) (tZ 22))]
def devicelink_Check_r8 : List SO := [rZ 2 (.assign (ciZ 3))]
def devicelink_Check_r9 : List SO := [bcZ 24 .add 3 14 1 3, mvZ 14 24]
def devicelink_Check_r10 : List SO := [rZ 2 (.assign (ciZ 0))]
def devicelink_Check_c : SF := ⟨25, (.seq (.reg devicelink_Check_r0)
  (.seq (.seq (.reg devicelink_Check_r1)
  (.seq (.reg devicelink_Check_r2)
  (.cond (tZ 9) (.seq (.reg devicelink_Check_r3)
  .ret) .skip)))
  (.seq (.seq (.reg devicelink_Check_r4)
  (.block 0 (.loop (.seq (.reg devicelink_Check_r5)
  (.seq (.cond (tZ 15) .skip (.exit 0))
  (.seq (.block 1 (.seq (.reg devicelink_Check_r6)
  (.seq (.reg devicelink_Check_r7)
  (.cond (tZ 23) (.seq (.reg devicelink_Check_r8)
  .ret) .skip))))
  (.reg devicelink_Check_r9)))))))
  (.seq (.reg devicelink_Check_r10)
  .ret)))), [.tmp 2]⟩
theorem devicelink_Check_s : slimF Try.prog 47 = some devicelink_Check_c := by kernel_rfl
abbrev devicelink_Check_f : Nat := 47
/-- printworks/devicelink.Quick -/
def devicelink_Quick_r0 : List SO := [rZ 4 (.assign (.const (.slice none 0 0)))]
def devicelink_Quick_r1 : List SO := [mvZ 11 1, rZ 12 (.call ⟨(.builtin .len), #[(tZ 11)], #[23]⟩), rZ 13 (.makeSlice 23 (tZ 12) (tZ 12)), asZ 5 13]
def devicelink_Quick_r2 : List SO := [mvZ 14 1, rZ 15 (.call ⟨(.builtin .len), #[(tZ 14)], #[23]⟩), rZ 16 (.move (ciZ 0))]
def devicelink_Quick_r3 : List SO := [boZ 17 .lss 3 16 15 3]
def devicelink_Quick_r4 : List SO := [mvZ 18 16, iaZ 19 23 14 16, ldZ 20 3 19, asZ 6 18, asZ 7 20]
def devicelink_Quick_r5 : List SO := [mvZ 21 5, mvZ 22 6, mvZ 23 7, rZ 24 (.binOp .mul 3 (ciZ 256) (tZ 23) 3), iaZ 25 23 21 22, stZ 3 25 24]
def devicelink_Quick_r6 : List SO := [bcZ 26 .add 3 16 1 3, mvZ 16 26]
def devicelink_Quick_r7 : List SO := [mvZ 27 0, mvZ 28 5, rZ 29 (.call ⟨(.value (.func (58 : Nat))), #[(tZ 27), (tZ 28)], #[82, 23]⟩), asZ 8 29]
def devicelink_Quick_r8 : List SO := [mvZ 30 8, rZ 31 (.call ⟨(.builtin .len), #[(tZ 30)], #[23]⟩), rZ 32 (.move (ciZ 0))]
def devicelink_Quick_r9 : List SO := [boZ 33 .lss 3 32 31 3]
def devicelink_Quick_r10 : List SO := [mvZ 34 32, iaZ 35 23 30 32, ldZ 36 3 35, asZ 9 34, asZ 10 36]
def devicelink_Quick_r11 : List SO := [mvZ 37 8, mvZ 38 9, mvZ 39 10, mvZ 40 0, rZ 41 (.nilCheck (tZ 40)), faZ 42 25 41 2, ldZ 43 3 42, bcZ 44 .sub 3 43 1 3, rZ 45 (.binOp .quo 3 (ciZ 65280) (tZ 44) 3), rZ 46 (.binOp .mul 3 (ciZ 256) (tZ 45) 3), rZ 47 (.call ⟨(.value (.func (78 : Nat))), #[(tZ 39), (tZ 46)], #[3, 3]⟩), iaZ 48 23 37 38, stZ 3 48 47]
def devicelink_Quick_r12 : List SO := [bcZ 49 .add 3 32 1 3, mvZ 32 49]
def devicelink_Quick_r13 : List SO := [mvZ 50 8, asZ 4 50]
def devicelink_Quick_c : SF := ⟨51, (.seq (.reg devicelink_Quick_r0)
  (.seq (.reg devicelink_Quick_r1)
  (.seq (.seq (.reg devicelink_Quick_r2)
  (.block 0 (.loop (.seq (.reg devicelink_Quick_r3)
  (.seq (.cond (tZ 17) .skip (.exit 0))
  (.seq (.block 1 (.seq (.reg devicelink_Quick_r4)
  (.reg devicelink_Quick_r5)))
  (.reg devicelink_Quick_r6)))))))
  (.seq (.reg devicelink_Quick_r7)
  (.seq (.seq (.reg devicelink_Quick_r8)
  (.block 2 (.loop (.seq (.reg devicelink_Quick_r9)
  (.seq (.cond (tZ 33) .skip (.exit 2))
  (.seq (.block 3 (.seq (.reg devicelink_Quick_r10)
  (.reg devicelink_Quick_r11)))
  (.reg devicelink_Quick_r12)))))))
  (.seq (.reg devicelink_Quick_r13)
  .ret)))))), [.tmp 4]⟩
theorem devicelink_Quick_s : slimF Try.prog 49 = some devicelink_Quick_c := by kernel_rfl
abbrev devicelink_Quick_f : Nat := 49
/-- printworks/devicelink.Build -/
def devicelink_Build_r0 : List SO := [rZ 3 (.box 62 (tZ 0)), rZ 4 (.box 62 (tZ 1)), rZ 5 (.box 100 (tZ 2)), rZ 6 (.alloc 25), rZ 7 (.assign (ciZ 0))]
def devicelink_Build_r1 : List SO := [ldZ 11 62 3, rZ 12 (.call ⟨(.value (.func (33 : Nat))), #[(tZ 11)], #[62]⟩), asZ 8 12]
def devicelink_Build_r2 : List SO := [mvZ 13 8, bcZ 14 .neq 33 13 0 33]
def devicelink_Build_r3 : List SO := [rZ 15 (.build 25 #[]), mvZ 16 8, stZ 25 6 15, asZ 7 16]
def devicelink_Build_r4 : List SO := [ldZ 17 62 4, rZ 18 (.call ⟨(.value (.func (33 : Nat))), #[(tZ 17)], #[62]⟩), asZ 9 18]
def devicelink_Build_r5 : List SO := [mvZ 19 9, bcZ 20 .neq 33 19 0 33]
def devicelink_Build_r6 : List SO := [rZ 21 (.build 25 #[]), mvZ 22 9, stZ 25 6 21, asZ 7 22]
def devicelink_Build_r7 : List SO := [rZ 23 (.call ⟨(.value (.func (80 : Nat))), #[(tZ 3), (tZ 4), (tZ 5)], #[105, 105, 137]⟩), asZ 10 23]
def devicelink_Build_r8 : List SO := [mvZ 24 10, bcZ 25 .neq 33 24 0 33]
def devicelink_Build_r9 : List SO := [rZ 26 (.build 25 #[]), mvZ 27 10, stZ 25 6 26, asZ 7 27]
def devicelink_Build_r10 : List SO := [faZ 28 62 3 1, ldZ 29 22 28, rZ 30 (.call ⟨(.builtin .len), #[(tZ 29)], #[22]⟩), faZ 31 62 4 1, ldZ 32 22 31, rZ 33 (.call ⟨(.builtin .len), #[(tZ 32)], #[22]⟩), faZ 34 100 5 0, ldZ 35 3 34, rZ 36 (.makeFunc (.func (82 : Nat)) #[] #[(tZ 5), (tZ 3), (tZ 4)]), rZ 37 (.call ⟨(.value (.func (81 : Nat))), #[(tZ 30), (tZ 33), (tZ 35), (tZ 36)], #[3, 3, 3, 147]⟩), exZ 38 37 0, exZ 39 37 1, stZ 25 6 38, asZ 7 39]
def devicelink_Build_c : SF := ⟨40, (.seq (.reg devicelink_Build_r0)
  (.seq (.seq (.reg devicelink_Build_r1)
  (.seq (.reg devicelink_Build_r2)
  (.cond (tZ 14) (.seq (.reg devicelink_Build_r3)
  .ret) .skip)))
  (.seq (.seq (.reg devicelink_Build_r4)
  (.seq (.reg devicelink_Build_r5)
  (.cond (tZ 20) (.seq (.reg devicelink_Build_r6)
  .ret) .skip)))
  (.seq (.seq (.reg devicelink_Build_r7)
  (.seq (.reg devicelink_Build_r8)
  (.cond (tZ 25) (.seq (.reg devicelink_Build_r9)
  .ret) .skip)))
  (.seq (.reg devicelink_Build_r10)
  .ret))))), [.cell 6 25, .tmp 7]⟩
theorem devicelink_Build_s : slimF Try.prog 53 = some devicelink_Build_c := by kernel_rfl
/-- printworks/devicelink.check -/
def devicelink_check_r0 : List SO := [rZ 6 (.assign (ciZ 0))]
def devicelink_check_r1 : List SO := [rZ 7 (.assign (ciZ 1))]
def devicelink_check_r2 : List SO := [mvZ 12 2, rZ 13 (.nilCheck (tZ 12)), faZ 14 100 13 0, ldZ 15 3 14]
def devicelink_check_r3 : List SO := [bcZ 17 .eql 3 15 2 3, asZ 16 17]
def devicelink_check_r4 : List SO := [bcZ 18 .eql 3 15 4 3, asZ 16 18]
def devicelink_check_r5 : List SO := [bcZ 19 .eql 3 15 6 3, asZ 16 19]
def devicelink_check_r6 : List SO := [mvZ 20 0, rZ 21 (.nilCheck (tZ 20)), faZ 22 62 21 1, ldZ 23 22 22, rZ 24 (.call ⟨(.builtin .len), #[(tZ 23)], #[22]⟩), rZ 25 (.move (ciZ 0))]
def devicelink_check_r7 : List SO := [boZ 26 .lss 3 25 24 3]
def devicelink_check_r8 : List SO := [mvZ 27 7, mvZ 28 2, rZ 29 (.nilCheck (tZ 28)), faZ 30 100 29 0, ldZ 31 3 30, boZ 32 .mul 3 27 31 3, asZ 7 32]
def devicelink_check_r9 : List SO := [bcZ 33 .add 3 25 1 3, mvZ 25 33]
def devicelink_check_r10 : List SO := [rZ 6 (.assign (ciZ 3))]
def devicelink_check_r11 : List SO := [mvZ 34 7, bcZ 35 .gtr 3 34 256 3]
def devicelink_check_r12 : List SO := [rZ 6 (.assign (ciZ 2))]
def devicelink_check_r13 : List SO := [mvZ 36 1, rZ 37 (.nilCheck (tZ 36)), faZ 38 62 37 1, ldZ 39 22 38, rZ 40 (.call ⟨(.builtin .len), #[(tZ 39)], #[22]⟩), mvZ 41 1, rZ 42 (.nilCheck (tZ 41)), faZ 43 62 42 1, ldZ 44 22 43, rZ 45 (.call ⟨(.builtin .len), #[(tZ 44)], #[22]⟩), rZ 46 (.build 43 #[]), mvZ 47 2, rZ 48 (.call ⟨(.value (.func (84 : Nat))), #[(tZ 45), (tZ 46), (tZ 47)], #[3, 43, 137]⟩), rZ 49 (.call ⟨(.value (.func (92 : Nat))), #[(tZ 40), (tZ 48)], #[3, 142]⟩), asZ 8 49]
def devicelink_check_a13 : List (List Nat) := [[], [0], [1], [2], [3], [], [5], [6], [7], [8], [], [], [9, 10, 11], [4, 12, 12], [13, 13, 0, 1, 2, 3, 4, 5, 6, 7, 8, 9, 10, 11, 12, 13]]
def devicelink_check_r14 : List SO := [mvZ 50 8, bcZ 51 .neq 33 50 0 33]
def devicelink_check_r15 : List SO := [mvZ 52 8, asZ 6 52]
def devicelink_check_r16 : List SO := [mvZ 53 2, rZ 54 (.nilCheck (tZ 53)), faZ 55 100 54 3, ldZ 56 4 55, rZ 57 (.unOp .not 4 (tZ 56))]
def devicelink_check_r17 : List SO := [mvZ 58 2, rZ 59 (.nilCheck (tZ 58)), faZ 60 100 59 4, ldZ 61 43 60, rZ 62 (.build 43 #[]), boZ 63 .neq 43 61 62 43]
def devicelink_check_r18 : List SO := [rZ 6 (.assign (ciZ 4))]
def devicelink_check_r19 : List SO := [rZ 6 (.assign (ciZ 0))]
def devicelink_check_r20 : List SO := [mvZ 65 1, rZ 66 (.nilCheck (tZ 65)), ldZ 67 62 66, mvZ 68 2, rZ 69 (.nilCheck (tZ 68)), faZ 70 100 69 4, ldZ 71 43 70, mvZ 72 2, rZ 73 (.nilCheck (tZ 72)), faZ 74 100 73 4, ldZ 75 43 74, rZ 76 (.call ⟨(.value (.func (93 : Nat))), #[(tZ 67), (tZ 71), (tZ 75)], #[62, 43, 43]⟩), mvZ 64 76, exZ 77 64 0, exZ 78 64 1, exZ 79 64 2, rZ 9 (.alloc 43), stZ 43 9 77, asZ 10 78, asZ 11 79]
def devicelink_check_a20 : List (List Nat) := [[], [0], [1], [], [3], [4], [5], [], [7], [8], [9], [2, 6, 10], [11], [12], [12], [12], [], [16, 13, 11, 0, 1, 2, 3, 4, 5, 6, 7, 8, 9, 10, 11, 12, 13, 16], [14, 17, 0, 1, 2, 3, 4, 5, 6, 7, 8, 9, 10, 11, 12, 13, 14, 16, 17], [15, 18, 0, 1, 2, 3, 4, 5, 6, 7, 8, 9, 10, 11, 12, 13, 14, 15, 16, 17, 18]]
def devicelink_check_r21 : List SO := [mvZ 80 11, asZ 6 80]
def devicelink_check_c : SF := ⟨81, (.seq (.reg devicelink_check_r0)
  (.seq (.reg devicelink_check_r1)
  (.seq (.seq (.reg devicelink_check_r2)
  (.block 0 (.seq (.seq (.reg devicelink_check_r3)
  (.cond (tZ 16) .skip (.seq (.reg devicelink_check_r4)
  (.cond (tZ 16) .skip (.reg devicelink_check_r5)))))
  (.cond (tZ 16) (.seq (.reg devicelink_check_r6)
  (.block 1 (.loop (.seq (.reg devicelink_check_r7)
  (.seq (.cond (tZ 26) .skip (.exit 1))
  (.seq (.block 2 (.reg devicelink_check_r8))
  (.reg devicelink_check_r9))))))) (.seq (.reg devicelink_check_r10)
  .ret)))))
  (.seq (.seq (.reg devicelink_check_r11)
  (.cond (tZ 35) (.seq (.reg devicelink_check_r12)
  .ret) .skip))
  (.seq (.seq (.regd devicelink_check_r13 devicelink_check_a13)
  (.seq (.reg devicelink_check_r14)
  (.cond (tZ 51) (.seq (.reg devicelink_check_r15)
  .ret) .skip)))
  (.seq (.seq (.reg devicelink_check_r16)
  (.cond (tZ 57) (.seq (.seq (.reg devicelink_check_r17)
  (.cond (tZ 63) (.seq (.reg devicelink_check_r18)
  .ret) .skip))
  (.seq (.reg devicelink_check_r19)
  .ret)) .skip))
  (.seq (.regd devicelink_check_r20 devicelink_check_a20)
  (.seq (.reg devicelink_check_r21)
  .ret)))))))), [.tmp 6]⟩
theorem devicelink_check_s : slimF Try.prog 80 = some devicelink_check_c := by kernel_rfl
/-- printworks/devicelink.Build$1 -/
def devicelink_Build_1_r0 : List SO := [rZ 5 (.assign (.const (.slice none 0 0))), rZ 6 (.assign (ciZ 0))]
def devicelink_Build_1_r1 : List SO := [mvZ 15 0, rZ 16 (.call ⟨(.builtin .len), #[(tZ 15)], #[23]⟩), rZ 17 (.move (ciZ 0))]
def devicelink_Build_1_r2 : List SO := [boZ 18 .lss 3 17 16 3]
def devicelink_Build_1_r3 : List SO := [mvZ 19 17, asZ 7 19]
def devicelink_Build_1_r4 : List SO := [mvZ 20 0, mvZ 21 7, iaZ 22 23 20 21, ldZ 23 3 22, faZ 24 100 1 0, ldZ 25 3 24, bcZ 26 .sub 3 25 1 3, rZ 27 (.binOp .quo 3 (ciZ 255) (tZ 26) 3), boZ 28 .mul 3 23 27 3, iaZ 29 23 20 21, stZ 3 29 28]
def devicelink_Build_1_a4 : List (List Nat) := [[], [], [0, 1], [2], [], [4], [5], [6], [3, 7], [0, 1, 0, 1, 2, 3, 4, 5, 6, 7, 8], [9, 8, 0, 1, 2, 3, 4, 5, 6, 7, 8]]
def devicelink_Build_1_r5 : List SO := [bcZ 30 .add 3 17 1 3, mvZ 17 30]
def devicelink_Build_1_r6 : List SO := [mvZ 31 0, rZ 32 (.call ⟨(.value (.func (60 : Nat))), #[(tZ 2), (tZ 31)], #[105, 23]⟩), rZ 8 (.alloc 43), stZ 43 8 32]
def devicelink_Build_1_r7 : List SO := [faZ 33 100 1 3, ldZ 34 4 33]
def devicelink_Build_1_r8 : List SO := [rZ 9 (.assign (ciZ 0))]
def devicelink_Build_1_r9 : List SO := [ldZ 36 43 8, faZ 37 100 1 4, ldZ 38 43 37, rZ 39 (.call ⟨(.value (.func (83 : Nat))), #[(tZ 3), (tZ 36), (tZ 38)], #[105, 43, 43]⟩), mvZ 35 39, exZ 40 35 0, exZ 41 35 1, exZ 42 35 2, stZ 43 8 40, asZ 9 42]
def devicelink_Build_1_r10 : List SO := [mvZ 43 9, bcZ 44 .neq 33 43 0 33]
def devicelink_Build_1_r11 : List SO := [mvZ 45 9, rZ 5 (.assign (.const (.slice none 0 0))), asZ 6 45]
def devicelink_Build_1_r12 : List SO := [faZ 46 62 3 1, ldZ 47 22 46, rZ 48 (.call ⟨(.builtin .len), #[(tZ 47)], #[22]⟩), ldZ 49 43 8, rZ 50 (.call ⟨(.value (.func (84 : Nat))), #[(tZ 48), (tZ 49), (tZ 1)], #[3, 43, 137]⟩), rZ 10 (.alloc 142), stZ 142 10 50]
def devicelink_Build_1_r13 : List SO := [rZ 52 (.call ⟨(.value (.func (85 : Nat))), #[(tZ 3), (tZ 10)], #[105, 146]⟩), mvZ 51 52, exZ 53 51 0, exZ 54 51 1, exZ 55 51 2, asZ 11 53, asZ 12 54, asZ 13 55]
def devicelink_Build_1_r14 : List SO := [mvZ 56 13, bcZ 57 .neq 33 56 0 33]
def devicelink_Build_1_r15 : List SO := [mvZ 58 13, rZ 5 (.assign (.const (.slice none 0 0))), asZ 6 58]
def devicelink_Build_1_r16 : List SO := [mvZ 59 11, rZ 60 (.call ⟨(.builtin .len), #[(tZ 59)], #[23]⟩), rZ 61 (.move (ciZ 0))]
def devicelink_Build_1_r17 : List SO := [boZ 62 .lss 3 61 60 3]
def devicelink_Build_1_r18 : List SO := [mvZ 63 61, asZ 14 63]
def devicelink_Build_1_r19 : List SO := [mvZ 64 11, mvZ 65 14, iaZ 66 23 64 65, ldZ 67 3 66, bcZ 68 .mul 3 67 256 3, iaZ 69 23 64 65, stZ 3 69 68]
def devicelink_Build_1_r20 : List SO := [bcZ 70 .add 3 61 1 3, mvZ 61 70]
def devicelink_Build_1_r21 : List SO := [mvZ 71 11, asZ 5 71, rZ 6 (.assign (ciZ 0))]
def devicelink_Build_1_c : SF := ⟨72, (.seq (.reg devicelink_Build_1_r0)
  (.seq (.seq (.reg devicelink_Build_1_r1)
  (.block 0 (.loop (.seq (.reg devicelink_Build_1_r2)
  (.seq (.cond (tZ 18) .skip (.exit 0))
  (.seq (.block 1 (.seq (.reg devicelink_Build_1_r3)
  (.regd devicelink_Build_1_r4 devicelink_Build_1_a4)))
  (.reg devicelink_Build_1_r5)))))))
  (.seq (.reg devicelink_Build_1_r6)
  (.seq (.seq (.reg devicelink_Build_1_r7)
  (.cond (tZ 34) (.seq (.reg devicelink_Build_1_r8)
  (.seq (.reg devicelink_Build_1_r9)
  (.seq (.reg devicelink_Build_1_r10)
  (.cond (tZ 44) (.seq (.reg devicelink_Build_1_r11)
  .ret) .skip)))) .skip))
  (.seq (.reg devicelink_Build_1_r12)
  (.seq (.reg devicelink_Build_1_r13)
  (.seq (.seq (.reg devicelink_Build_1_r14)
  (.cond (tZ 57) (.seq (.reg devicelink_Build_1_r15)
  .ret) .skip))
  (.seq (.seq (.reg devicelink_Build_1_r16)
  (.block 2 (.loop (.seq (.reg devicelink_Build_1_r17)
  (.seq (.cond (tZ 62) .skip (.exit 2))
  (.seq (.block 3 (.seq (.reg devicelink_Build_1_r18)
  (.reg devicelink_Build_1_r19)))
  (.reg devicelink_Build_1_r20)))))))
  (.seq (.reg devicelink_Build_1_r21)
  .ret))))))))), [.tmp 5, .tmp 6]⟩
theorem devicelink_Build_1_s : slimF Try.prog 82 = some devicelink_Build_1_c := by kernel_rfl
/-- printworks/devicelink.ask -/
def devicelink_ask_r0 : List SO := [rZ 4 (.box 43 (tZ 1)), rZ 6 (.alloc 142)]
def devicelink_ask_r1 : List SO := [ldZ 9 43 4, mvZ 10 2, rZ 11 (.nilCheck (tZ 10)), faZ 12 100 11 1, ldZ 13 3 12, mvZ 14 2, rZ 15 (.nilCheck (tZ 14)), faZ 16 100 15 2, ldZ 17 3 16, mvZ 18 0, rZ 19 (.makeSlice 23 (tZ 18) (tZ 18)), mvZ 20 0, rZ 21 (.makeSlice 23 (tZ 20) (tZ 20)), rZ 22 (.build 142 #[(0, (tZ 9)), (1, (tZ 13)), (2, (tZ 17)), (3, (tZ 19)), (4, (tZ 21))]), rZ 7 (.alloc 142), stZ 142 7 22]
def devicelink_ask_a1 : List (List Nat) := [[], [], [1], [2], [3], [], [5], [6], [7], [], [9, 9], [], [11, 11], [0, 4, 8, 10, 12], [], [14, 13, 0, 1, 2, 3, 4, 5, 6, 7, 8, 9, 10, 11, 12, 13, 14]]
def devicelink_ask_r2 : List SO := [mvZ 23 0, rZ 24 (.move (ciZ 0))]
def devicelink_ask_r3 : List SO := [boZ 25 .lss 3 24 23 3]
def devicelink_ask_r4 : List SO := [mvZ 26 24, asZ 8 26]
def devicelink_ask_r5 : List SO := [faZ 27 142 7 4, ldZ 28 23 27, mvZ 29 8, iaZ 30 23 28 29, ⟨none, .store 3 (tZ 30) (ciZ 255), none⟩]
def devicelink_ask_r6 : List SO := [bcZ 31 .add 3 24 1 3, mvZ 24 31]
def devicelink_ask_r7 : List SO := [ldZ 32 142 7, stZ 142 6 32]
def devicelink_ask_c : SF := ⟨33, (.seq (.reg devicelink_ask_r0)
  (.seq (.regd devicelink_ask_r1 devicelink_ask_a1)
  (.seq (.seq (.reg devicelink_ask_r2)
  (.block 0 (.loop (.seq (.reg devicelink_ask_r3)
  (.seq (.cond (tZ 25) .skip (.exit 0))
  (.seq (.block 1 (.seq (.reg devicelink_ask_r4)
  (.reg devicelink_ask_r5)))
  (.reg devicelink_ask_r6)))))))
  (.seq (.reg devicelink_ask_r7)
  .ret)))), [.cell 6 142]⟩
theorem devicelink_ask_s : slimF Try.prog 84 = some devicelink_ask_c := by kernel_rfl
def tbl_devicelink : List (Nat × SF) := [(18, devicelink_Convert_c), (25, devicelink_Far_c), (47, devicelink_Check_c), (49, devicelink_Quick_c), (53, devicelink_Build_c), (80, devicelink_check_c), (82, devicelink_Build_1_c), (84, devicelink_ask_c)]
theorem tbl_devicelink_ok : okT Try.prog tbl_devicelink := ⟨devicelink_Convert_s, devicelink_Far_s, devicelink_Check_s, devicelink_Quick_s, devicelink_Build_s, devicelink_check_s, devicelink_Build_1_s, devicelink_ask_s, trivial⟩

end Go.Proofs.Ytogbkhopanaoiaa
namespace Go.Proofs.Ytogbkhopanaoiaa
open Go Go.Lite
set_option linter.unusedVariables false

/-- printworks/profile.Forward -/
def profile_Forward_r0 : List SO := [rZ 2 (.box 62 (tZ 0)), rZ 4 (.alloc 43), rZ 5 (.assign (ciZ 0))]
def profile_Forward_r1 : List SO := [ldZ 8 62 2, rZ 9 (.call ⟨(.value (.func (33 : Nat))), #[(tZ 8)], #[62]⟩), asZ 6 9]
def profile_Forward_r2 : List SO := [mvZ 10 6, bcZ 11 .neq 33 10 0 33]
def profile_Forward_r3 : List SO := [rZ 12 (.build 43 #[]), mvZ 13 6, stZ 43 4 12, asZ 5 13]
def profile_Forward_r4 : List SO := [mvZ 14 1, faZ 15 62 2 1, ldZ 16 22 15, rZ 17 (.call ⟨(.builtin .len), #[(tZ 16)], #[22]⟩), rZ 18 (.call ⟨(.value (.func (48 : Nat))), #[(tZ 14), (tZ 17)], #[23, 3]⟩), asZ 7 18]
def profile_Forward_r5 : List SO := [mvZ 19 7, bcZ 20 .neq 33 19 0 33]
def profile_Forward_r6 : List SO := [rZ 21 (.build 43 #[]), mvZ 22 7, stZ 43 4 21, asZ 5 22]
def profile_Forward_r7 : List SO := [mvZ 23 1, rZ 24 (.call ⟨(.value (.func (60 : Nat))), #[(tZ 2), (tZ 23)], #[105, 23]⟩), stZ 43 4 24, rZ 5 (.assign (ciZ 0))]
def profile_Forward_c : SF := ⟨25, (.seq (.reg profile_Forward_r0)
  (.seq (.seq (.reg profile_Forward_r1)
  (.seq (.reg profile_Forward_r2)
  (.cond (tZ 11) (.seq (.reg profile_Forward_r3)
  .ret) .skip)))
  (.seq (.seq (.reg profile_Forward_r4)
  (.seq (.reg profile_Forward_r5)
  (.cond (tZ 20) (.seq (.reg profile_Forward_r6)
  .ret) .skip)))
  (.seq (.reg profile_Forward_r7)
  .ret)))), [.cell 4 43, .tmp 5]⟩
theorem profile_Forward_s : slimF Try.prog 26 = some profile_Forward_c := by kernel_rfl
/-- printworks/profile.Exact -/
def profile_Exact_r0 : List SO := [rZ 2 (.box 62 (tZ 0)), rZ 4 (.assign (.const (.slice none 0 0))), rZ 5 (.assign (ciZ 0))]
def profile_Exact_r1 : List SO := [ldZ 8 62 2, rZ 9 (.call ⟨(.value (.func (33 : Nat))), #[(tZ 8)], #[62]⟩), asZ 6 9]
def profile_Exact_r2 : List SO := [mvZ 10 6, bcZ 11 .neq 33 10 0 33]
def profile_Exact_r3 : List SO := [mvZ 12 6, rZ 4 (.assign (.const (.slice none 0 0))), asZ 5 12]
def profile_Exact_r4 : List SO := [mvZ 13 1, faZ 14 62 2 1, ldZ 15 22 14, rZ 16 (.call ⟨(.builtin .len), #[(tZ 15)], #[22]⟩), rZ 17 (.call ⟨(.value (.func (48 : Nat))), #[(tZ 13), (tZ 16)], #[23, 3]⟩), asZ 7 17]
def profile_Exact_r5 : List SO := [mvZ 18 7, bcZ 19 .neq 33 18 0 33]
def profile_Exact_r6 : List SO := [mvZ 20 7, rZ 4 (.assign (.const (.slice none 0 0))), asZ 5 20]
def profile_Exact_r7 : List SO := [faZ 21 62 2 3, mvZ 22 1, rZ 23 (.call ⟨(.value (.func (65 : Nat))), #[(tZ 2), (tZ 22)], #[105, 23]⟩), rZ 24 (.call ⟨(.value (.func (58 : Nat))), #[(tZ 21), (tZ 23)], #[82, 23]⟩), asZ 4 24, rZ 5 (.assign (ciZ 0))]
def profile_Exact_c : SF := ⟨25, (.seq (.reg profile_Exact_r0)
  (.seq (.seq (.reg profile_Exact_r1)
  (.seq (.reg profile_Exact_r2)
  (.cond (tZ 11) (.seq (.reg profile_Exact_r3)
  .ret) .skip)))
  (.seq (.seq (.reg profile_Exact_r4)
  (.seq (.reg profile_Exact_r5)
  (.cond (tZ 19) (.seq (.reg profile_Exact_r6)
  .ret) .skip)))
  (.seq (.reg profile_Exact_r7)
  .ret)))), [.tmp 4, .tmp 5]⟩
theorem profile_Exact_s : slimF Try.prog 29 = some profile_Exact_c := by kernel_rfl
/-- printworks/profile.Encode -/
def profile_Encode_r0 : List SO := [rZ 1 (.box 62 (tZ 0)), rZ 2 (.assign (.const (.slice none 0 0))), rZ 3 (.assign (ciZ 0))]
def profile_Encode_r1 : List SO := [ldZ 21 62 1, rZ 22 (.call ⟨(.value (.func (33 : Nat))), #[(tZ 21)], #[62]⟩), asZ 4 22]
def profile_Encode_r2 : List SO := [mvZ 23 4, bcZ 24 .neq 33 23 0 33]
def profile_Encode_r3 : List SO := [mvZ 25 4, rZ 2 (.assign (.const (.slice none 0 0))), asZ 3 25]
def profile_Encode_r4 : List SO := [rZ 5 (.alloc 114)]
def profile_Encode_r5 : List SO := [faZ 26 62 1 0, ldZ 27 9 26, rZ 28 (.convert 9 71 (tZ 27)), rZ 29 (.indexAddr 114 (tZ 5) (ciZ 0)), stZ 71 29 28]
def profile_Encode_r6 : List SO := [faZ 30 62 1 1, ldZ 31 22 30, rZ 32 (.call ⟨(.builtin .len), #[(tZ 31)], #[22]⟩), rZ 33 (.move (ciZ 0))]
def profile_Encode_r7 : List SO := [boZ 34 .lss 3 33 32 3]
def profile_Encode_r8 : List SO := [iaZ 35 22 31 33, ldZ 36 9 35, asZ 7 36]
def profile_Encode_r9 : List SO := [rZ 37 (.indexAddr 114 (tZ 5) (ciZ 1)), ldZ 38 71 37, mvZ 39 7, rZ 40 (.call ⟨(.builtin .len), #[(tZ 39)], #[9]⟩), rZ 41 (.convert 3 5 (tZ 40)), rZ 42 (.buildSlice 71 1 #[(0, (tZ 41))]), rZ 43 (.call ⟨(.builtin .append), #[(tZ 38), (tZ 42)], #[71, 71]⟩), mvZ 44 7, rZ 45 (.call ⟨(.builtin .append), #[(tZ 43), (tZ 44)], #[71, 9]⟩), rZ 46 (.indexAddr 114 (tZ 5) (ciZ 1)), stZ 71 46 45]
def profile_Encode_r10 : List SO := [bcZ 47 .add 3 33 1 3, mvZ 33 47]
def profile_Encode_r11 : List SO := [faZ 48 62 1 2, ldZ 49 60 48, rZ 50 (.call ⟨(.builtin .len), #[(tZ 49)], #[60]⟩), rZ 51 (.move (ciZ 0))]
def profile_Encode_r12 : List SO := [boZ 52 .lss 3 51 50 3]
def profile_Encode_r13 : List SO := [iaZ 53 60 49 51, ldZ 54 46 53, rZ 9 (.alloc 46), stZ 46 9 54]
def profile_Encode_r14 : List SO := [rZ 55 (.indexAddr 114 (tZ 5) (ciZ 2)), ldZ 56 71 55, faZ 57 46 9 0, ldZ 58 44 57, rZ 59 (.call ⟨(.builtin .len), #[(tZ 58)], #[44]⟩), rZ 60 (.convert 3 5 (tZ 59)), rZ 61 (.buildSlice 71 1 #[(0, (tZ 60))]), rZ 62 (.call ⟨(.builtin .append), #[(tZ 56), (tZ 61)], #[71, 71]⟩), rZ 63 (.indexAddr 114 (tZ 5) (ciZ 2)), stZ 71 63 62]
def profile_Encode_r15 : List SO := [faZ 64 46 9 0, ldZ 65 44 64, rZ 66 (.call ⟨(.builtin .len), #[(tZ 65)], #[44]⟩), rZ 67 (.move (ciZ 0))]
def profile_Encode_r16 : List SO := [boZ 68 .lss 3 67 66 3]
def profile_Encode_r17 : List SO := [iaZ 69 44 65 67, ldZ 70 116 69, rZ 11 (.alloc 116), stZ 116 11 70]
def profile_Encode_r18 : List SO := [rZ 71 (.indexAddr 114 (tZ 5) (ciZ 2)), ldZ 72 71 71, faZ 73 116 11 0, ldZ 74 3 73, rZ 75 (.call ⟨(.value (.func (69 : Nat))), #[(tZ 72), (tZ 74)], #[71, 3]⟩), rZ 76 (.indexAddr 114 (tZ 5) (ciZ 2)), stZ 71 76 75]
def profile_Encode_r19 : List SO := [rZ 77 (.indexAddr 114 (tZ 5) (ciZ 2)), ldZ 78 71 77, faZ 79 116 11 1, ldZ 80 3 79, rZ 81 (.call ⟨(.value (.func (69 : Nat))), #[(tZ 78), (tZ 80)], #[71, 3]⟩), rZ 82 (.indexAddr 114 (tZ 5) (ciZ 2)), stZ 71 82 81]
def profile_Encode_r20 : List SO := [bcZ 83 .add 3 67 1 3, mvZ 67 83]
def profile_Encode_r21 : List SO := [bcZ 84 .add 3 51 1 3, mvZ 51 84]
def profile_Encode_r22 : List SO := [rZ 85 (.indexAddr 114 (tZ 5) (ciZ 3)), ldZ 86 71 85, faZ 87 62 1 3, faZ 88 25 87 0, ldZ 89 3 88, rZ 90 (.convert 3 5 (tZ 89)), faZ 91 62 1 3, faZ 92 25 91 1, ldZ 93 3 92, rZ 94 (.convert 3 5 (tZ 93)), faZ 95 62 1 3, faZ 96 25 95 2, ldZ 97 3 96, rZ 98 (.convert 3 5 (tZ 97)), rZ 99 (.buildSlice 71 3 #[(0, (tZ 90)), (1, (tZ 94)), (2, (tZ 98))]), rZ 100 (.call ⟨(.builtin .append), #[(tZ 86), (tZ 99)], #[71, 71]⟩), rZ 101 (.indexAddr 114 (tZ 5) (ciZ 3)), stZ 71 101 100]
def profile_Encode_r23 : List SO := [faZ 102 62 1 3, faZ 103 25 102 3, ldZ 104 23 103, rZ 105 (.call ⟨(.builtin .len), #[(tZ 104)], #[23]⟩), rZ 106 (.move (ciZ 0))]
def profile_Encode_r24 : List SO := [boZ 107 .lss 3 106 105 3]
def profile_Encode_r25 : List SO := [iaZ 108 23 104 106, ldZ 109 3 108, asZ 13 109]
def profile_Encode_r26 : List SO := [rZ 110 (.indexAddr 114 (tZ 5) (ciZ 3)), ldZ 111 71 110, mvZ 112 13, rZ 113 (.call ⟨(.value (.func (69 : Nat))), #[(tZ 111), (tZ 112)], #[71, 3]⟩), rZ 114 (.indexAddr 114 (tZ 5) (ciZ 3)), stZ 71 114 113]
def profile_Encode_r27 : List SO := [bcZ 115 .add 3 106 1 3, mvZ 106 115]
def profile_Encode_r28 : List SO := [rZ 116 (.buildSlice 71 4 #[(0, (.const (.int .u8 80))), (1, (.const (.int .u8 82))), (2, (.const (.int .u8 70))), (3, (.const (.int .u8 49)))]), rZ 117 (.convert 71 71 (tZ 116)), rZ 118 (.call ⟨(.builtin .append), #[(tZ 117), (ciZ 8)], #[71, 3]⟩), asZ 14 118]
def profile_Encode_r29 : List SO := [mvZ 119 14, rZ 120 (.call ⟨(.value (.func (69 : Nat))), #[(tZ 119), (ciZ 4)], #[71, 3]⟩), asZ 14 120]
def profile_Encode_r30 : List SO := [mvZ 121 14, rZ 122 (.buildSlice 71 2 #[(0, (.const (.int .u8 0))), (1, (.const (.int .u8 0)))]), rZ 123 (.call ⟨(.builtin .append), #[(tZ 121), (tZ 122)], #[71, 71]⟩), asZ 14 123]
def profile_Encode_r31 : List SO := [mvZ 124 14, rZ 125 (.call ⟨(.builtin .len), #[(tZ 124)], #[71]⟩), bcZ 126 .add 3 125 48 3, asZ 15 126]
def profile_Encode_r32 : List SO := [rZ 127 (.call ⟨(.value (.func (70 : Nat))), #[], #[]⟩), rZ 128 (.move (ciZ 0))]
def profile_Encode_r33 : List SO := [bcZ 129 .lss 3 128 4 3]
def profile_Encode_r34 : List SO := [mvZ 130 128, rZ 131 (.index 118 (tZ 127) (tZ 128)), asZ 16 130, asZ 17 131]
def profile_Encode_r35 : List SO := [mvZ 132 14, mvZ 133 17, rZ 134 (.call ⟨(.builtin .append), #[(tZ 132), (tZ 133)], #[71, 9]⟩), asZ 14 134]
def profile_Encode_r36 : List SO := [mvZ 135 14, mvZ 136 15, rZ 137 (.call ⟨(.value (.func (71 : Nat))), #[(tZ 135), (tZ 136)], #[71, 3]⟩), asZ 14 137]
def profile_Encode_r37 : List SO := [mvZ 138 14, mvZ 139 16, iaZ 140 114 5 139, ldZ 141 71 140, rZ 142 (.call ⟨(.builtin .len), #[(tZ 141)], #[71]⟩), rZ 143 (.call ⟨(.value (.func (71 : Nat))), #[(tZ 138), (tZ 142)], #[71, 3]⟩), asZ 14 143]
def profile_Encode_r38 : List SO := [mvZ 144 15, mvZ 145 16, iaZ 146 114 5 145, ldZ 147 71 146, rZ 148 (.call ⟨(.builtin .len), #[(tZ 147)], #[71]⟩), bcZ 149 .add 3 148 3 3, bcZ 150 .quo 3 149 4 3, bcZ 151 .mul 3 150 4 3, boZ 152 .add 3 144 151 3, asZ 15 152]
def profile_Encode_r39 : List SO := [bcZ 153 .add 3 128 1 3, mvZ 128 153]
def profile_Encode_r40 : List SO := [ldZ 154 114 5, rZ 155 (.move (ciZ 0))]
def profile_Encode_r41 : List SO := [bcZ 156 .lss 3 155 4 3]
def profile_Encode_r42 : List SO := [rZ 157 (.index 114 (tZ 154) (tZ 155)), asZ 19 157]
def profile_Encode_r43 : List SO := [mvZ 158 14, mvZ 159 19, rZ 160 (.call ⟨(.builtin .append), #[(tZ 158), (tZ 159)], #[71, 71]⟩), asZ 14 160]
def profile_Encode_r44 : List SO := [mvZ 161 14, rZ 162 (.call ⟨(.builtin .len), #[(tZ 161)], #[71]⟩), bcZ 163 .rem 3 162 4 3, bcZ 164 .neq 3 163 0 3]
def profile_Encode_r45 : List SO := [mvZ 165 14, rZ 166 (.buildSlice 71 1 #[(0, (.const (.int .u8 0)))]), rZ 167 (.call ⟨(.builtin .append), #[(tZ 165), (tZ 166)], #[71, 71]⟩), asZ 14 167]
def profile_Encode_r46 : List SO := [bcZ 168 .add 3 155 1 3, mvZ 155 168]
def profile_Encode_r47 : List SO := [rZ 169 (.buildSlice 71 4 #[(0, (.const (.int .u8 80))), (1, (.const (.int .u8 82))), (2, (.const (.int .u8 70))), (3, (.const (.int .u8 49)))]), rZ 170 (.convert 71 71 (tZ 169)), mvZ 171 14, rZ 172 (.call ⟨(.builtin .len), #[(tZ 171)], #[71]⟩), rZ 173 (.call ⟨(.value (.func (71 : Nat))), #[(tZ 170), (tZ 172)], #[71, 3]⟩), mvZ 174 14, rZ 175 (.slice 71 (tZ 174) (some (ciZ 12)) none none), rZ 176 (.call ⟨(.value (.func (64 : Nat))), #[(tZ 175)], #[71]⟩), rZ 177 (.call ⟨(.value (.func (71 : Nat))), #[(tZ 173), (tZ 176)], #[71, 3]⟩), asZ 20 177]
def profile_Encode_a47 : List (List Nat) := [[], [0], [], [2], [1, 3], [], [5], [6, 4], [4, 7, 7], [8, 8, 0, 1, 2, 3, 4, 5, 6, 7, 8]]
def profile_Encode_r48 : List SO := [mvZ 178 20, mvZ 179 14, rZ 180 (.slice 71 (tZ 179) (some (ciZ 12)) none none), rZ 181 (.call ⟨(.builtin .append), #[(tZ 178), (tZ 180)], #[71, 71]⟩), asZ 2 181, rZ 3 (.assign (ciZ 0))]
def profile_Encode_c : SF := ⟨182, (.seq (.reg profile_Encode_r0)
  (.seq (.seq (.reg profile_Encode_r1)
  (.seq (.reg profile_Encode_r2)
  (.cond (tZ 24) (.seq (.reg profile_Encode_r3)
  .ret) .skip)))
  (.seq (.reg profile_Encode_r4)
  (.seq (.reg profile_Encode_r5)
  (.seq (.seq (.reg profile_Encode_r6)
  (.block 0 (.loop (.seq (.reg profile_Encode_r7)
  (.seq (.cond (tZ 34) .skip (.exit 0))
  (.seq (.block 1 (.seq (.reg profile_Encode_r8)
  (.reg profile_Encode_r9)))
  (.reg profile_Encode_r10)))))))
  (.seq (.seq (.reg profile_Encode_r11)
  (.block 2 (.loop (.seq (.reg profile_Encode_r12)
  (.seq (.cond (tZ 52) .skip (.exit 2))
  (.seq (.block 3 (.seq (.reg profile_Encode_r13)
  (.seq (.reg profile_Encode_r14)
  (.seq (.reg profile_Encode_r15)
  (.block 4 (.loop (.seq (.reg profile_Encode_r16)
  (.seq (.cond (tZ 68) .skip (.exit 4))
  (.seq (.block 5 (.seq (.reg profile_Encode_r17)
  (.seq (.reg profile_Encode_r18)
  (.reg profile_Encode_r19))))
  (.reg profile_Encode_r20))))))))))
  (.reg profile_Encode_r21)))))))
  (.seq (.reg profile_Encode_r22)
  (.seq (.seq (.reg profile_Encode_r23)
  (.block 6 (.loop (.seq (.reg profile_Encode_r24)
  (.seq (.cond (tZ 107) .skip (.exit 6))
  (.seq (.block 7 (.seq (.reg profile_Encode_r25)
  (.reg profile_Encode_r26)))
  (.reg profile_Encode_r27)))))))
  (.seq (.reg profile_Encode_r28)
  (.seq (.reg profile_Encode_r29)
  (.seq (.reg profile_Encode_r30)
  (.seq (.reg profile_Encode_r31)
  (.seq (.seq (.reg profile_Encode_r32)
  (.block 8 (.loop (.seq (.reg profile_Encode_r33)
  (.seq (.cond (tZ 129) .skip (.exit 8))
  (.seq (.block 9 (.seq (.reg profile_Encode_r34)
  (.seq (.reg profile_Encode_r35)
  (.seq (.reg profile_Encode_r36)
  (.seq (.reg profile_Encode_r37)
  (.reg profile_Encode_r38))))))
  (.reg profile_Encode_r39)))))))
  (.seq (.seq (.reg profile_Encode_r40)
  (.block 10 (.loop (.seq (.reg profile_Encode_r41)
  (.seq (.cond (tZ 156) .skip (.exit 10))
  (.seq (.block 11 (.seq (.reg profile_Encode_r42)
  (.seq (.reg profile_Encode_r43)
  (.block 12 (.loop (.seq (.seq (.reg profile_Encode_r44)
  (.cond (tZ 164) .skip (.exit 12)))
  (.block 13 (.reg profile_Encode_r45))))))))
  (.reg profile_Encode_r46)))))))
  (.seq (.regd profile_Encode_r47 profile_Encode_a47)
  (.seq (.reg profile_Encode_r48)
  .ret)))))))))))))))), [.tmp 2, .tmp 3]⟩
theorem profile_Encode_s : slimF Try.prog 32 = some profile_Encode_c := by kernel_rfl
/-- printworks/profile.Check -/
def profile_Check_r0 : List SO := [rZ 1 (.box 62 (tZ 0)), rZ 2 (.assign (ciZ 0))]
def profile_Check_r1 : List SO := [faZ 11 62 1 0, ldZ 12 9 11, rZ 13 (.call ⟨(.value (.func (72 : Nat))), #[(tZ 12)], #[9]⟩), rZ 14 (.unOp .not 4 (tZ 13))]
def profile_Check_r2 : List SO := [rZ 2 (.assign (ciZ 6))]
def profile_Check_r3 : List SO := [faZ 15 62 1 1, ldZ 16 22 15, rZ 17 (.call ⟨(.builtin .len), #[(tZ 16)], #[22]⟩), asZ 3 17]
def profile_Check_r4 : List SO := [mvZ 19 3, bcZ 20 .gtr 3 19 4 3, asZ 18 20]
def profile_Check_r5 : List SO := [rZ 2 (.assign (ciZ 2))]
def profile_Check_r6 : List SO := [mvZ 22 3, bcZ 23 .eql 3 22 0 3, asZ 21 23]
def profile_Check_r7 : List SO := [rZ 2 (.assign (ciZ 1))]
def profile_Check_r8 : List SO := [faZ 24 62 1 1, ldZ 25 22 24, rZ 26 (.call ⟨(.value (.func (41 : Nat))), #[(tZ 25)], #[22]⟩), asZ 4 26]
def profile_Check_r9 : List SO := [mvZ 27 4, bcZ 28 .neq 33 27 0 33]
def profile_Check_r10 : List SO := [mvZ 29 4, asZ 2 29]
def profile_Check_r11 : List SO := [faZ 30 62 1 2, ldZ 31 60 30, rZ 32 (.call ⟨(.builtin .len), #[(tZ 31)], #[60]⟩), faZ 33 62 1 1, ldZ 34 22 33, rZ 35 (.call ⟨(.builtin .len), #[(tZ 34)], #[22]⟩), boZ 36 .neq 3 32 35 3]
def profile_Check_r12 : List SO := [rZ 2 (.assign (ciZ 4))]
def profile_Check_r13 : List SO := [faZ 37 62 1 2, ldZ 38 60 37, rZ 39 (.call ⟨(.builtin .len), #[(tZ 38)], #[60]⟩), rZ 40 (.move (ciZ 0))]
def profile_Check_r14 : List SO := [boZ 41 .lss 3 40 39 3]
def profile_Check_r15 : List SO := [iaZ 42 60 38 40, ldZ 43 46 42, rZ 6 (.alloc 46), stZ 46 6 43]
def profile_Check_r16 : List SO := [ldZ 44 46 6, rZ 45 (.call ⟨(.value (.func (66 : Nat))), #[(tZ 44)], #[46]⟩), asZ 7 45]
def profile_Check_r17 : List SO := [mvZ 46 7, bcZ 47 .neq 33 46 0 33]
def profile_Check_r18 : List SO := [mvZ 48 7, asZ 2 48]
def profile_Check_r19 : List SO := [bcZ 49 .add 3 40 1 3, mvZ 40 49]
def profile_Check_r20 : List SO := [faZ 50 62 1 3, ldZ 51 25 50, rZ 52 (.call ⟨(.value (.func (56 : Nat))), #[(tZ 51)], #[25]⟩), asZ 8 52]
def profile_Check_r21 : List SO := [mvZ 53 8, bcZ 54 .neq 33 53 0 33]
def profile_Check_r22 : List SO := [mvZ 55 8, asZ 2 55]
def profile_Check_r23 : List SO := [faZ 56 62 1 3, faZ 57 25 56 0, ldZ 58 3 57, faZ 59 62 1 1, ldZ 60 22 59, rZ 61 (.call ⟨(.builtin .len), #[(tZ 60)], #[22]⟩), boZ 62 .neq 3 58 61 3, mvZ 63 62, gZ 63 false (faZ 64 62 1 3), gZ 63 false (faZ 65 25 64 1), gZ 63 false (ldZ 66 3 65), gZ 63 false (bcZ 67 .neq 3 66 3 3), rZ 68 (.pick (tZ 63) (.const (.bool true)) (tZ 67))]
def profile_Check_r24 : List SO := [rZ 2 (.assign (ciZ 4))]
def profile_Check_r25 : List SO := [faZ 69 62 1 3, faZ 70 25 69 3, ldZ 71 23 70, asZ 9 71]
def profile_Check_r26 : List SO := [mvZ 72 9, rZ 73 (.call ⟨(.builtin .len), #[(tZ 72)], #[23]⟩), bcZ 74 .gtr 3 73 0 3]
def profile_Check_r27 : List SO := [mvZ 77 9, rZ 78 (.indexAddr 23 (tZ 77) (ciZ 0)), ldZ 79 3 78, mvZ 80 9, rZ 81 (.indexAddr 23 (tZ 80) (ciZ 1)), ldZ 82 3 81, mvZ 83 9, rZ 84 (.indexAddr 23 (tZ 83) (ciZ 2)), ldZ 85 3 84, rZ 86 (.build 43 #[(0, (tZ 79)), (1, (tZ 82)), (2, (tZ 85))]), rZ 87 (.call ⟨(.value (.func (61 : Nat))), #[(tZ 86)], #[43]⟩), asZ 10 87]
def profile_Check_a27 : List (List Nat) := [[], [0], [1], [], [3], [4], [], [6], [7], [2, 5, 8], [9], [10, 10, 0, 1, 2, 3, 4, 5, 6, 7, 8, 9, 10]]
def profile_Check_r28 : List SO := [mvZ 88 10, bcZ 89 .neq 33 88 0 33]
def profile_Check_r29 : List SO := [mvZ 90 10, asZ 2 90]
def profile_Check_r30 : List SO := [mvZ 75 9, rZ 76 (.slice 23 (tZ 75) (some (ciZ 3)) none none), asZ 9 76]
def profile_Check_r31 : List SO := [rZ 2 (.assign (ciZ 0))]
def profile_Check_c : SF := ⟨91, (.seq (.reg profile_Check_r0)
  (.seq (.seq (.reg profile_Check_r1)
  (.cond (tZ 14) (.seq (.reg profile_Check_r2)
  .ret) .skip))
  (.seq (.seq (.reg profile_Check_r3)
  (.block 0 (.seq (.reg profile_Check_r4)
  (.cond (tZ 18) (.seq (.reg profile_Check_r5)
  .ret) (.seq (.reg profile_Check_r6)
  (.cond (tZ 21) (.seq (.reg profile_Check_r7)
  .ret) .skip))))))
  (.seq (.seq (.reg profile_Check_r8)
  (.seq (.reg profile_Check_r9)
  (.cond (tZ 28) (.seq (.reg profile_Check_r10)
  .ret) .skip)))
  (.seq (.seq (.reg profile_Check_r11)
  (.cond (tZ 36) (.seq (.reg profile_Check_r12)
  .ret) .skip))
  (.seq (.seq (.reg profile_Check_r13)
  (.block 1 (.loop (.seq (.reg profile_Check_r14)
  (.seq (.cond (tZ 41) .skip (.exit 1))
  (.seq (.block 2 (.seq (.reg profile_Check_r15)
  (.seq (.reg profile_Check_r16)
  (.seq (.reg profile_Check_r17)
  (.cond (tZ 47) (.seq (.reg profile_Check_r18)
  .ret) .skip)))))
  (.reg profile_Check_r19)))))))
  (.seq (.seq (.reg profile_Check_r20)
  (.seq (.reg profile_Check_r21)
  (.cond (tZ 54) (.seq (.reg profile_Check_r22)
  .ret) .skip)))
  (.seq (.seq (.reg profile_Check_r23)
  (.cond (tZ 68) (.seq (.reg profile_Check_r24)
  .ret) .skip))
  (.seq (.seq (.reg profile_Check_r25)
  (.block 3 (.loop (.seq (.seq (.reg profile_Check_r26)
  (.cond (tZ 74) .skip (.exit 3)))
  (.seq (.block 4 (.seq (.regd profile_Check_r27 profile_Check_a27)
  (.seq (.reg profile_Check_r28)
  (.cond (tZ 89) (.seq (.reg profile_Check_r29)
  .ret) .skip))))
  (.reg profile_Check_r30))))))
  (.seq (.reg profile_Check_r31)
  .ret)))))))))), [.tmp 2]⟩
theorem profile_Check_s : slimF Try.prog 33 = some profile_Check_c := by kernel_rfl
/-- printworks/profile.Decode -/
def profile_Decode_r0 : List SO := [rZ 2 (.alloc 62), rZ 3 (.alloc 33)]
def profile_Decode_r1 : List SO := [mvZ 19 0, rZ 20 (.call ⟨(.value (.func (73 : Nat))), #[(tZ 19)], #[71]⟩), mvZ 18 20, exZ 21 18 0, exZ 22 18 1, asZ 4 21, stZ 33 3 22]
def profile_Decode_r2 : List SO := [ldZ 23 33 3, bcZ 24 .neq 33 23 0 33]
def profile_Decode_r3 : List SO := [rZ 25 (.build 62 #[]), ldZ 26 33 3, stZ 62 2 25, stZ 33 3 26]
def profile_Decode_a3 : List (List Nat) := [[], [], [0, 0], [1, 2, 0, 1, 2]]
def profile_Decode_r4 : List SO := [rZ 5 (.alloc 114)]
def profile_Decode_r5 : List SO := [rZ 27 (.call ⟨(.value (.func (70 : Nat))), #[], #[]⟩), rZ 28 (.move (ciZ 0))]
def profile_Decode_r6 : List SO := [bcZ 29 .lss 3 28 4 3]
def profile_Decode_r7 : List SO := [mvZ 30 28, rZ 31 (.index 118 (tZ 27) (tZ 28)), asZ 6 30, asZ 7 31]
def profile_Decode_r8 : List SO := [rZ 8 (.assign (.const (.bool false)))]
def profile_Decode_r9 : List SO := [mvZ 32 4, rZ 33 (.call ⟨(.builtin .len), #[(tZ 32)], #[121]⟩), rZ 34 (.move (ciZ 0))]
def profile_Decode_r10 : List SO := [boZ 35 .lss 3 34 33 3]
def profile_Decode_r11 : List SO := [iaZ 36 121 32 34, ldZ 37 125 36, rZ 10 (.alloc 125), stZ 125 10 37]
def profile_Decode_r12 : List SO := [faZ 38 125 10 0, ldZ 39 9 38, mvZ 40 7, boZ 41 .eql 9 39 40 9]
def profile_Decode_r13 : List SO := [mvZ 42 6, faZ 43 125 10 1, ldZ 44 71 43, iaZ 45 114 5 42, stZ 71 45 44, rZ 8 (.assign (.const (.bool true)))]
def profile_Decode_r14 : List SO := [bcZ 46 .add 3 34 1 3, mvZ 34 46]
def profile_Decode_r15 : List SO := [mvZ 47 8, rZ 48 (.unOp .not 4 (tZ 47))]
def profile_Decode_r16 : List SO := [rZ 49 (.build 62 #[]), stZ 62 2 49, ⟨none, .store 33 (tZ 3) (ciZ 8), none⟩]
def profile_Decode_r17 : List SO := [bcZ 50 .add 3 28 1 3, mvZ 28 50]
def profile_Decode_r18 : List SO := [rZ 51 (.makeFunc (.func (74 : Nat)) #[] #[(tZ 2), (tZ 3)]), ⟨none, .defer ⟨(.value (tZ 51)), #[], #[]⟩, none⟩]
def profile_Decode_r19 : List SO := [rZ 52 (.indexAddr 114 (tZ 5) (ciZ 0)), ldZ 53 71 52, rZ 54 (.convert 71 9 (tZ 53)), faZ 55 62 2 0, stZ 9 55 54]
def profile_Decode_r20 : List SO := [rZ 56 (.indexAddr 114 (tZ 5) (ciZ 1)), ldZ 57 71 56, rZ 58 (.build 130 #[(0, (tZ 57))]), rZ 11 (.alloc 130), stZ 130 11 58]
def profile_Decode_r21 : List SO := [faZ 59 130 11 0, ldZ 60 71 59, rZ 61 (.call ⟨(.builtin .len), #[(tZ 60)], #[71]⟩), bcZ 62 .gtr 3 61 0 3]
def profile_Decode_r22 : List SO := [faZ 63 62 2 1, ldZ 64 22 63, rZ 65 (.call ⟨(.value (.func (75 : Nat))), #[(tZ 11), (ciZ 1)], #[130, 3]⟩), rZ 66 (.indexAddr 71 (tZ 65) (ciZ 0)), ldZ 67 5 66, rZ 68 (.convert 5 3 (tZ 67)), rZ 69 (.call ⟨(.value (.func (75 : Nat))), #[(tZ 11), (tZ 68)], #[130, 3]⟩), rZ 70 (.convert 71 9 (tZ 69)), rZ 71 (.buildSlice 22 1 #[(0, (tZ 70))]), rZ 72 (.call ⟨(.builtin .append), #[(tZ 64), (tZ 71)], #[22, 22]⟩), faZ 73 62 2 1, stZ 22 73 72]
def profile_Decode_a22 : List (List Nat) := [[], [0], [], [2], [3], [4], [5, 2], [6], [7], [1, 8, 6], [0, 1, 2, 3, 4, 5, 6, 7, 8, 9], [10, 9, 9, 0, 1, 2, 3, 4, 5, 6, 7, 8, 9]]
def profile_Decode_r23 : List SO := [ldZ 74 130 11]
def profile_Decode_r24 : List SO := [rZ 11 (.alloc 130), stZ 130 11 74]
def profile_Decode_r25 : List SO := [rZ 75 (.indexAddr 114 (tZ 5) (ciZ 2)), ldZ 76 71 75, rZ 77 (.build 130 #[(0, (tZ 76))]), rZ 12 (.alloc 130), stZ 130 12 77]
def profile_Decode_r26 : List SO := [faZ 78 130 12 0, ldZ 79 71 78, rZ 80 (.call ⟨(.builtin .len), #[(tZ 79)], #[71]⟩), bcZ 81 .gtr 3 80 0 3]
def profile_Decode_r27 : List SO := [rZ 13 (.alloc 46)]
def profile_Decode_r28 : List SO := [rZ 82 (.call ⟨(.value (.func (75 : Nat))), #[(tZ 12), (ciZ 1)], #[130, 3]⟩), rZ 83 (.indexAddr 71 (tZ 82) (ciZ 0)), ldZ 84 5 83, rZ 85 (.move (.const (.int .u8 0)))]
def profile_Decode_r29 : List SO := [boZ 86 .lss 5 85 84 5]
def profile_Decode_r30 : List SO := [rZ 87 (.call ⟨(.value (.func (76 : Nat))), #[(tZ 12)], #[130]⟩), rZ 88 (.build 116 #[(0, (tZ 87))]), rZ 14 (.alloc 116), stZ 116 14 88]
def profile_Decode_r31 : List SO := [rZ 89 (.call ⟨(.value (.func (76 : Nat))), #[(tZ 12)], #[130]⟩), faZ 90 116 14 1, stZ 3 90 89]
def profile_Decode_r32 : List SO := [faZ 91 46 13 0, ldZ 92 44 91, ldZ 93 116 14, rZ 94 (.buildSlice 44 1 #[(0, (tZ 93))]), rZ 95 (.call ⟨(.builtin .append), #[(tZ 92), (tZ 94)], #[44, 44]⟩), faZ 96 46 13 0, stZ 44 96 95]
def profile_Decode_r33 : List SO := [rZ 97 (.binOp .add 5 (tZ 85) (.const (.int .u8 1)) 5), mvZ 85 97]
def profile_Decode_r34 : List SO := [faZ 98 62 2 2, ldZ 99 60 98, ldZ 100 46 13, rZ 101 (.buildSlice 60 1 #[(0, (tZ 100))]), rZ 102 (.call ⟨(.builtin .append), #[(tZ 99), (tZ 101)], #[60, 60]⟩), faZ 103 62 2 2, stZ 60 103 102]
def profile_Decode_r35 : List SO := [ldZ 104 130 12]
def profile_Decode_r36 : List SO := [rZ 12 (.alloc 130), stZ 130 12 104]
def profile_Decode_r37 : List SO := [rZ 105 (.indexAddr 114 (tZ 5) (ciZ 3)), ldZ 106 71 105, rZ 107 (.build 130 #[(0, (tZ 106))]), rZ 15 (.alloc 130), stZ 130 15 107]
def profile_Decode_r38 : List SO := [rZ 108 (.call ⟨(.value (.func (75 : Nat))), #[(tZ 15), (ciZ 3)], #[130, 3]⟩), asZ 16 108]
def profile_Decode_r39 : List SO := [mvZ 109 16, rZ 110 (.indexAddr 71 (tZ 109) (ciZ 0)), ldZ 111 5 110, rZ 112 (.convert 5 3 (tZ 111)), mvZ 113 16, rZ 114 (.indexAddr 71 (tZ 113) (ciZ 1)), ldZ 115 5 114, rZ 116 (.convert 5 3 (tZ 115)), mvZ 117 16, rZ 118 (.indexAddr 71 (tZ 117) (ciZ 2)), ldZ 119 5 118, rZ 120 (.convert 5 3 (tZ 119)), rZ 121 (.build 25 #[(0, (tZ 112)), (1, (tZ 116)), (2, (tZ 120))]), faZ 122 62 2 3, stZ 25 122 121]
def profile_Decode_a39 : List (List Nat) := [[], [0], [1], [2], [], [4], [5], [6], [], [8], [9], [10], [3, 7, 11], [0, 1, 2, 3, 4, 5, 6, 7, 8, 9, 10, 11, 12], [13, 12, 0, 1, 2, 3, 4, 5, 6, 7, 8, 9, 10, 11, 12]]
def profile_Decode_r40 : List SO := [faZ 123 130 15 0, ldZ 124 71 123, rZ 125 (.call ⟨(.builtin .len), #[(tZ 124)], #[71]⟩), bcZ 126 .gtr 3 125 0 3]
def profile_Decode_r41 : List SO := [faZ 127 62 2 3, faZ 128 25 127 3, ldZ 129 23 128, rZ 130 (.call ⟨(.value (.func (76 : Nat))), #[(tZ 15)], #[130]⟩), rZ 131 (.convert 3 133 (tZ 130)), rZ 132 (.convert 133 3 (tZ 131)), rZ 133 (.buildSlice 23 1 #[(0, (tZ 132))]), rZ 134 (.call ⟨(.builtin .append), #[(tZ 129), (tZ 133)], #[23, 23]⟩), faZ 135 62 2 3, faZ 136 25 135 3, stZ 23 136 134]
def profile_Decode_a41 : List (List Nat) := [[], [0], [1], [], [3], [4], [5], [2, 6, 3], [0, 1, 2, 3, 4, 5, 6, 7], [8, 0, 1, 2, 3, 4, 5, 6, 7], [9, 7, 7, 0, 1, 2, 3, 4, 5, 6, 7]]
def profile_Decode_r42 : List SO := [ldZ 137 62 2, rZ 138 (.call ⟨(.value (.func (33 : Nat))), #[(tZ 137)], #[62]⟩), asZ 17 138]
def profile_Decode_r43 : List SO := [mvZ 139 17, bcZ 140 .neq 33 139 0 33]
def profile_Decode_r44 : List SO := [rZ 141 (.build 62 #[]), mvZ 142 17, stZ 62 2 141, stZ 33 3 142]
def profile_Decode_r45 : List SO := [ldZ 143 62 2, stZ 62 2 143, ⟨none, .store 33 (tZ 3) (ciZ 0), none⟩]
def profile_Decode_c : SF := ⟨144, (.seq (.reg profile_Decode_r0)
  (.seq (.reg profile_Decode_r1)
  (.seq (.seq (.reg profile_Decode_r2)
  (.cond (tZ 24) (.seq (.regd profile_Decode_r3 profile_Decode_a3)
  .ret) .skip))
  (.seq (.reg profile_Decode_r4)
  (.seq (.seq (.reg profile_Decode_r5)
  (.block 0 (.loop (.seq (.reg profile_Decode_r6)
  (.seq (.cond (tZ 29) .skip (.exit 0))
  (.seq (.block 1 (.seq (.reg profile_Decode_r7)
  (.seq (.reg profile_Decode_r8)
  (.seq (.seq (.reg profile_Decode_r9)
  (.block 2 (.loop (.seq (.reg profile_Decode_r10)
  (.seq (.cond (tZ 35) .skip (.exit 2))
  (.seq (.block 3 (.seq (.reg profile_Decode_r11)
  (.seq (.reg profile_Decode_r12)
  (.cond (tZ 41) (.reg profile_Decode_r13) .skip))))
  (.reg profile_Decode_r14)))))))
  (.seq (.reg profile_Decode_r15)
  (.cond (tZ 48) (.seq (.reg profile_Decode_r16)
  .ret) .skip))))))
  (.reg profile_Decode_r17)))))))
  (.seq (.reg profile_Decode_r18)
  (.seq (.reg profile_Decode_r19)
  (.seq (.seq (.reg profile_Decode_r20)
  (.block 4 (.loop (.seq (.seq (.reg profile_Decode_r21)
  (.cond (tZ 62) .skip (.exit 4)))
  (.seq (.block 5 (.regd profile_Decode_r22 profile_Decode_a22))
  (.seq (.reg profile_Decode_r23)
  (.reg profile_Decode_r24)))))))
  (.seq (.seq (.reg profile_Decode_r25)
  (.block 6 (.loop (.seq (.seq (.reg profile_Decode_r26)
  (.cond (tZ 81) .skip (.exit 6)))
  (.seq (.block 7 (.seq (.reg profile_Decode_r27)
  (.seq (.seq (.reg profile_Decode_r28)
  (.block 8 (.loop (.seq (.reg profile_Decode_r29)
  (.seq (.cond (tZ 86) .skip (.exit 8))
  (.seq (.block 9 (.seq (.reg profile_Decode_r30)
  (.seq (.reg profile_Decode_r31)
  (.reg profile_Decode_r32))))
  (.reg profile_Decode_r33)))))))
  (.reg profile_Decode_r34))))
  (.seq (.reg profile_Decode_r35)
  (.reg profile_Decode_r36)))))))
  (.seq (.reg profile_Decode_r37)
  (.seq (.reg profile_Decode_r38)
  (.seq (.regd profile_Decode_r39 profile_Decode_a39)
  (.seq (.block 10 (.loop (.seq (.seq (.reg profile_Decode_r40)
  (.cond (tZ 126) .skip (.exit 10)))
  (.block 11 (.regd profile_Decode_r41 profile_Decode_a41)))))
  (.seq (.seq (.reg profile_Decode_r42)
  (.seq (.reg profile_Decode_r43)
  (.cond (tZ 140) (.seq (.reg profile_Decode_r44)
  .ret) .skip)))
  (.seq (.reg profile_Decode_r45)
  .ret))))))))))))))), [.cell 2 62, .cell 3 33]⟩
theorem profile_Decode_s : slimF Try.prog 34 = some profile_Decode_c := by kernel_rfl
/-- printworks/profile.Names -/
def profile_Names_r0 : List SO := [rZ 2 (.assign (ciZ 0))]
def profile_Names_r1 : List SO := [mvZ 7 0, rZ 8 (.call ⟨(.builtin .len), #[(tZ 7)], #[22]⟩), rZ 9 (.move (ciZ 0))]
def profile_Names_r2 : List SO := [boZ 10 .lss 3 9 8 3]
def profile_Names_r3 : List SO := [mvZ 11 9, iaZ 12 22 7 9, ldZ 13 9 12, asZ 3 11, asZ 4 13]
def profile_Names_r4 : List SO := [mvZ 14 4, rZ 15 (.call ⟨(.value (.func (72 : Nat))), #[(tZ 14)], #[9]⟩), rZ 16 (.unOp .not 4 (tZ 15))]
def profile_Names_r5 : List SO := [rZ 2 (.assign (ciZ 6))]
def profile_Names_r6 : List SO := [mvZ 17 0, mvZ 18 3, rZ 19 (.slice 22 (tZ 17) none (some (tZ 18)) none), rZ 20 (.call ⟨(.builtin .len), #[(tZ 19)], #[22]⟩), rZ 21 (.move (ciZ 0))]
def profile_Names_r7 : List SO := [boZ 22 .lss 3 21 20 3]
def profile_Names_r8 : List SO := [iaZ 23 22 19 21, ldZ 24 9 23, asZ 6 24]
def profile_Names_r9 : List SO := [mvZ 25 4, mvZ 26 6, boZ 27 .eql 9 25 26 9]
def profile_Names_r10 : List SO := [rZ 2 (.assign (ciZ 7))]
def profile_Names_r11 : List SO := [bcZ 28 .add 3 21 1 3, mvZ 21 28]
def profile_Names_r12 : List SO := [bcZ 29 .add 3 9 1 3, mvZ 9 29]
def profile_Names_r13 : List SO := [rZ 2 (.assign (ciZ 0))]
def profile_Names_c : SF := ⟨30, (.seq (.reg profile_Names_r0)
  (.seq (.seq (.reg profile_Names_r1)
  (.block 0 (.loop (.seq (.reg profile_Names_r2)
  (.seq (.cond (tZ 10) .skip (.exit 0))
  (.seq (.block 1 (.seq (.reg profile_Names_r3)
  (.seq (.seq (.reg profile_Names_r4)
  (.cond (tZ 16) (.seq (.reg profile_Names_r5)
  .ret) .skip))
  (.seq (.reg profile_Names_r6)
  (.block 2 (.loop (.seq (.reg profile_Names_r7)
  (.seq (.cond (tZ 22) .skip (.exit 2))
  (.seq (.block 3 (.seq (.reg profile_Names_r8)
  (.seq (.reg profile_Names_r9)
  (.cond (tZ 27) (.seq (.reg profile_Names_r10)
  .ret) .skip))))
  (.reg profile_Names_r11))))))))))
  (.reg profile_Names_r12)))))))
  (.seq (.reg profile_Names_r13)
  .ret))), [.tmp 2]⟩
theorem profile_Names_s : slimF Try.prog 41 = some profile_Names_c := by kernel_rfl
abbrev profile_Names_f : Nat := 41
/-- printworks/profile.Tones -/
def profile_Tones_r0 : List SO := [rZ 4 (.assign (ciZ 0))]
def profile_Tones_r1 : List SO := [mvZ 7 0, rZ 8 (.call ⟨(.builtin .len), #[(tZ 7)], #[23]⟩), mvZ 9 1, boZ 10 .neq 3 8 9 3]
def profile_Tones_r2 : List SO := [rZ 4 (.assign (ciZ 4))]
def profile_Tones_r3 : List SO := [mvZ 11 0, rZ 12 (.call ⟨(.builtin .len), #[(tZ 11)], #[23]⟩), rZ 13 (.move (ciZ 0))]
def profile_Tones_r4 : List SO := [boZ 14 .lss 3 13 12 3]
def profile_Tones_r5 : List SO := [iaZ 15 23 11 13, ldZ 16 3 15, asZ 6 16]
def profile_Tones_r6 : List SO := [mvZ 17 6, bcZ 18 .lss 3 17 0 3, mvZ 19 18, gZ 19 false (mvZ 20 6), gZ 19 false (bcZ 21 .gtr 3 20 255 3), rZ 22 (.pick (tZ 19) (.const (.bool true)) (tZ 21))]
def profile_Tones_r7 : List SO := [rZ 4 (.assign (ciZ 3))]
def profile_Tones_r8 : List SO := [bcZ 23 .add 3 13 1 3, mvZ 13 23]
def profile_Tones_r9 : List SO := [rZ 4 (.assign (ciZ 0))]
def profile_Tones_c : SF := ⟨24, (.seq (.reg profile_Tones_r0)
  (.seq (.seq (.reg profile_Tones_r1)
  (.cond (tZ 10) (.seq (.reg profile_Tones_r2)
  .ret) .skip))
  (.seq (.seq (.reg profile_Tones_r3)
  (.block 0 (.loop (.seq (.reg profile_Tones_r4)
  (.seq (.cond (tZ 14) .skip (.exit 0))
  (.seq (.block 1 (.seq (.reg profile_Tones_r5)
  (.seq (.reg profile_Tones_r6)
  (.cond (tZ 22) (.seq (.reg profile_Tones_r7)
  .ret) .skip))))
  (.reg profile_Tones_r8)))))))
  (.seq (.reg profile_Tones_r9)
  .ret)))), [.tmp 4]⟩
theorem profile_Tones_s : slimF Try.prog 48 = some profile_Tones_c := by kernel_rfl
abbrev profile_Tones_f : Nat := 48
/-- printworks/profile.Quick -/
def profile_Quick_r0 : List SO := [rZ 4 (.alloc 43)]
def profile_Quick_r1 : List SO := [mvZ 6 0, rZ 7 (.nilCheck (tZ 6)), faZ 8 62 7 3, mvZ 9 0, mvZ 10 1, rZ 11 (.call ⟨(.value (.func (65 : Nat))), #[(tZ 9), (tZ 10)], #[105, 23]⟩), rZ 12 (.call ⟨(.value (.func (68 : Nat))), #[(tZ 8), (tZ 11)], #[82, 23]⟩), asZ 5 12]
def profile_Quick_a1 : List (List Nat) := [[], [0], [1], [], [], [3, 4], [2, 5, 5], [6, 6, 0, 1, 2, 3, 4, 5, 6]]
def profile_Quick_r2 : List SO := [mvZ 13 5, rZ 14 (.indexAddr 23 (tZ 13) (ciZ 0)), ldZ 15 3 14, mvZ 16 5, rZ 17 (.indexAddr 23 (tZ 16) (ciZ 1)), ldZ 18 3 17, mvZ 19 5, rZ 20 (.indexAddr 23 (tZ 19) (ciZ 2)), ldZ 21 3 20, rZ 22 (.build 43 #[(0, (tZ 15)), (1, (tZ 18)), (2, (tZ 21))]), stZ 43 4 22]
def profile_Quick_a2 : List (List Nat) := [[], [0], [1], [], [3], [4], [], [6], [7], [2, 5, 8], [9, 0, 1, 2, 3, 4, 5, 6, 7, 8, 9]]
def profile_Quick_c : SF := ⟨23, (.seq (.reg profile_Quick_r0)
  (.seq (.regd profile_Quick_r1 profile_Quick_a1)
  (.seq (.regd profile_Quick_r2 profile_Quick_a2)
  .ret))), [.cell 4 43]⟩
theorem profile_Quick_s : slimF Try.prog 60 = some profile_Quick_c := by kernel_rfl
/-- printworks/profile.Tags -/
def profile_Tags_r0 : List SO := [rZ 2 (.assign (.const (.slice none 0 0))), rZ 3 (.assign (ciZ 0))]
def profile_Tags_r1 : List SO := [mvZ 10 0, rZ 11 (.call ⟨(.value (.func (73 : Nat))), #[(tZ 10)], #[71]⟩), mvZ 9 11, exZ 12 9 0, exZ 13 9 1, asZ 4 12, asZ 5 13]
def profile_Tags_r2 : List SO := [mvZ 14 5, bcZ 15 .neq 33 14 0 33]
def profile_Tags_r3 : List SO := [mvZ 16 5, rZ 2 (.assign (.const (.slice none 0 0))), asZ 3 16]
def profile_Tags_r4 : List SO := [rZ 6 (.assign (.const (.slice none 0 0)))]
def profile_Tags_r5 : List SO := [mvZ 17 4, rZ 18 (.call ⟨(.builtin .len), #[(tZ 17)], #[121]⟩), rZ 19 (.move (ciZ 0))]
def profile_Tags_r6 : List SO := [boZ 20 .lss 3 19 18 3]
def profile_Tags_r7 : List SO := [iaZ 21 121 17 19, ldZ 22 125 21, rZ 8 (.alloc 125), stZ 125 8 22]
def profile_Tags_r8 : List SO := [mvZ 23 6, faZ 24 125 8 0, ldZ 25 9 24, rZ 26 (.buildSlice 22 1 #[(0, (tZ 25))]), rZ 27 (.call ⟨(.builtin .append), #[(tZ 23), (tZ 26)], #[22, 22]⟩), asZ 6 27]
def profile_Tags_r9 : List SO := [bcZ 28 .add 3 19 1 3, mvZ 19 28]
def profile_Tags_r10 : List SO := [mvZ 29 6, asZ 2 29, rZ 3 (.assign (ciZ 0))]
def profile_Tags_c : SF := ⟨30, (.seq (.reg profile_Tags_r0)
  (.seq (.reg profile_Tags_r1)
  (.seq (.seq (.reg profile_Tags_r2)
  (.cond (tZ 15) (.seq (.reg profile_Tags_r3)
  .ret) .skip))
  (.seq (.reg profile_Tags_r4)
  (.seq (.seq (.reg profile_Tags_r5)
  (.block 0 (.loop (.seq (.reg profile_Tags_r6)
  (.seq (.cond (tZ 20) .skip (.exit 0))
  (.seq (.block 1 (.seq (.reg profile_Tags_r7)
  (.reg profile_Tags_r8)))
  (.reg profile_Tags_r9)))))))
  (.seq (.reg profile_Tags_r10)
  .ret)))))), [.tmp 2, .tmp 3]⟩
theorem profile_Tags_s : slimF Try.prog 62 = some profile_Tags_c := by kernel_rfl
/-- printworks/profile.Sum -/
def profile_Sum_r0 : List SO := [rZ 2 (.assign (ciZ 0))]
def profile_Sum_r1 : List SO := [rZ 3 (.assign (.const (.int .u32 4294967295)))]
def profile_Sum_r2 : List SO := [mvZ 6 0, rZ 7 (.call ⟨(.builtin .len), #[(tZ 6)], #[71]⟩), rZ 8 (.move (ciZ 0))]
def profile_Sum_r3 : List SO := [boZ 9 .lss 3 8 7 3]
def profile_Sum_r4 : List SO := [iaZ 10 71 6 8, ldZ 11 5 10, asZ 5 11]
def profile_Sum_r5 : List SO := [mvZ 12 3, mvZ 13 5, rZ 14 (.convert 5 152 (tZ 13)), boZ 15 .xor 152 12 14 152, asZ 3 15]
def profile_Sum_r6 : List SO := [rZ 16 (.move (ciZ 0))]
def profile_Sum_r7 : List SO := [bcZ 17 .lss 3 16 8 3]
def profile_Sum_r8 : List SO := [mvZ 18 3, rZ 19 (.binOp .shr 152 (tZ 18) (.const (.int .u64 1)) 153), mvZ 20 3, rZ 21 (.binOp .and 152 (tZ 20) (.const (.int .u32 1)) 152), rZ 22 (.unOp .neg 152 (tZ 21)), rZ 23 (.binOp .and 152 (.const (.int .u32 3988292384)) (tZ 22) 152), boZ 24 .xor 152 19 23 152, asZ 3 24]
def profile_Sum_r9 : List SO := [bcZ 25 .add 3 16 1 3, mvZ 16 25]
def profile_Sum_r10 : List SO := [bcZ 26 .add 3 8 1 3, mvZ 8 26]
def profile_Sum_r11 : List SO := [mvZ 27 3, rZ 28 (.unOp .xor 152 (tZ 27)), rZ 29 (.convert 152 3 (tZ 28)), asZ 2 29]
def profile_Sum_c : SF := ⟨30, (.seq (.reg profile_Sum_r0)
  (.seq (.reg profile_Sum_r1)
  (.seq (.seq (.reg profile_Sum_r2)
  (.block 0 (.loop (.seq (.reg profile_Sum_r3)
  (.seq (.cond (tZ 9) .skip (.exit 0))
  (.seq (.block 1 (.seq (.reg profile_Sum_r4)
  (.seq (.reg profile_Sum_r5)
  (.seq (.reg profile_Sum_r6)
  (.block 2 (.loop (.seq (.reg profile_Sum_r7)
  (.seq (.cond (tZ 17) .skip (.exit 2))
  (.seq (.block 3 (.reg profile_Sum_r8))
  (.reg profile_Sum_r9))))))))))
  (.reg profile_Sum_r10)))))))
  (.seq (.reg profile_Sum_r11)
  .ret)))), [.tmp 2]⟩
theorem profile_Sum_s : slimF Try.prog 64 = some profile_Sum_c := by kernel_rfl
/-- printworks/profile.Fine -/
def profile_Fine_r0 : List SO := [rZ 4 (.assign (.const (.slice none 0 0)))]
def profile_Fine_r1 : List SO := [mvZ 8 1, rZ 9 (.call ⟨(.builtin .len), #[(tZ 8)], #[23]⟩), rZ 10 (.makeSlice 23 (tZ 9) (tZ 9)), asZ 5 10]
def profile_Fine_r2 : List SO := [mvZ 11 1, rZ 12 (.call ⟨(.builtin .len), #[(tZ 11)], #[23]⟩), rZ 13 (.move (ciZ 0))]
def profile_Fine_r3 : List SO := [boZ 14 .lss 3 13 12 3]
def profile_Fine_r4 : List SO := [mvZ 15 13, iaZ 16 23 11 13, ldZ 17 3 16, asZ 6 15, asZ 7 17]
def profile_Fine_r5 : List SO := [mvZ 18 5, mvZ 19 6, mvZ 20 0, mvZ 21 6, mvZ 22 7, rZ 23 (.call ⟨(.value (.func (89 : Nat))), #[(tZ 20), (tZ 21), (tZ 22)], #[105, 3, 3]⟩), iaZ 24 23 18 19, stZ 3 24 23]
def profile_Fine_r6 : List SO := [bcZ 25 .add 3 13 1 3, mvZ 13 25]
def profile_Fine_r7 : List SO := [mvZ 26 5, asZ 4 26]
def profile_Fine_c : SF := ⟨27, (.seq (.reg profile_Fine_r0)
  (.seq (.reg profile_Fine_r1)
  (.seq (.seq (.reg profile_Fine_r2)
  (.block 0 (.loop (.seq (.reg profile_Fine_r3)
  (.seq (.cond (tZ 14) .skip (.exit 0))
  (.seq (.block 1 (.seq (.reg profile_Fine_r4)
  (.reg profile_Fine_r5)))
  (.reg profile_Fine_r6)))))))
  (.seq (.reg profile_Fine_r7)
  .ret)))), [.tmp 4]⟩
theorem profile_Fine_s : slimF Try.prog 65 = some profile_Fine_c := by kernel_rfl
/-- printworks/profile.Put16 -/
def profile_Put16_r0 : List SO := [rZ 4 (.assign (.const (.slice none 0 0)))]
def profile_Put16_r1 : List SO := [mvZ 5 0, mvZ 6 1, rZ 7 (.binOp .shr 3 (tZ 6) (.const (.int .u64 8)) 153), rZ 8 (.convert 3 5 (tZ 7)), mvZ 9 1, rZ 10 (.convert 3 5 (tZ 9)), rZ 11 (.buildSlice 71 2 #[(0, (tZ 8)), (1, (tZ 10))]), rZ 12 (.call ⟨(.builtin .append), #[(tZ 5), (tZ 11)], #[71, 71]⟩), asZ 4 12]
def profile_Put16_c : SF := ⟨13, (.seq (.reg profile_Put16_r0)
  (.seq (.reg profile_Put16_r1)
  .ret)), [.tmp 4]⟩
theorem profile_Put16_s : slimF Try.prog 69 = some profile_Put16_c := by kernel_rfl
/-- printworks/profile.signatures -/
def profile_signatures_r0 : List SO := [rZ 0 (.alloc 118)]
def profile_signatures_r1 : List SO := [rZ 1 (.build 118 #[(0, (.const (.string ⟨([110, 97, 109, 101] : List UInt8).toArray⟩))), (1, (.const (.string ⟨([105, 110, 107, 115] : List UInt8).toArray⟩))), (2, (.const (.string ⟨([99, 117, 114, 118] : List UInt8).toArray⟩))), (3, (.const (.string ⟨([103, 114, 105, 100] : List UInt8).toArray⟩)))]), stZ 118 0 1]
def profile_signatures_c : SF := ⟨2, (.seq (.reg profile_signatures_r0)
  (.seq (.reg profile_signatures_r1)
  .ret)), [.cell 0 118]⟩
theorem profile_signatures_s : slimF Try.prog 70 = some profile_signatures_c := by kernel_rfl
/-- printworks/profile.Put32 -/
def profile_Put32_r0 : List SO := [rZ 4 (.assign (.const (.slice none 0 0)))]
def profile_Put32_r1 : List SO := [mvZ 5 0, mvZ 6 1, rZ 7 (.binOp .shr 3 (tZ 6) (.const (.int .u64 16)) 153), rZ 8 (.call ⟨(.value (.func (69 : Nat))), #[(tZ 5), (tZ 7)], #[71, 3]⟩), mvZ 9 1, rZ 10 (.call ⟨(.value (.func (69 : Nat))), #[(tZ 8), (tZ 9)], #[71, 3]⟩), asZ 4 10]
def profile_Put32_c : SF := ⟨11, (.seq (.reg profile_Put32_r0)
  (.seq (.reg profile_Put32_r1)
  .ret)), [.tmp 4]⟩
theorem profile_Put32_s : slimF Try.prog 71 = some profile_Put32_c := by kernel_rfl
/-- printworks/profile.IsName -/
def profile_IsName_r0 : List SO := [rZ 2 (.assign (.const (.bool false)))]
def profile_IsName_r1 : List SO := [mvZ 5 0, rZ 6 (.call ⟨(.builtin .len), #[(tZ 5)], #[9]⟩), bcZ 7 .lss 3 6 1 3, mvZ 8 7, gZ 8 false (mvZ 9 0), gZ 8 false (rZ 10 (.call ⟨(.builtin .len), #[(tZ 9)], #[9]⟩)), gZ 8 false (bcZ 11 .gtr 3 10 16 3), rZ 12 (.pick (tZ 8) (.const (.bool true)) (tZ 11)), mvZ 13 12, gZ 13 false (mvZ 14 0), gZ 13 false (rZ 15 (.index 9 (tZ 14) (ciZ 0))), gZ 13 false (rZ 16 (.binOp .lss 5 (tZ 15) (.const (.int .u8 97)) 5)), rZ 17 (.pick (tZ 13) (.const (.bool true)) (tZ 16)), mvZ 18 17, gZ 18 false (mvZ 19 0), gZ 18 false (rZ 20 (.index 9 (tZ 19) (ciZ 0))), gZ 18 false (rZ 21 (.binOp .gtr 5 (tZ 20) (.const (.int .u8 122)) 5)), rZ 22 (.pick (tZ 18) (.const (.bool true)) (tZ 21))]
def profile_IsName_r2 : List SO := [rZ 2 (.assign (.const (.bool false)))]
def profile_IsName_r3 : List SO := [mvZ 23 0, rZ 24 (.call ⟨(.builtin .len), #[(tZ 23)], #[9]⟩), rZ 25 (.move (ciZ 0))]
def profile_IsName_r4 : List SO := [boZ 26 .lss 3 25 24 3]
def profile_IsName_r5 : List SO := [mvZ 27 25, asZ 3 27]
def profile_IsName_r6 : List SO := [mvZ 28 0, mvZ 29 3, rZ 30 (.index 9 (tZ 28) (tZ 29)), asZ 4 30]
def profile_IsName_r7 : List SO := [mvZ 31 4, rZ 32 (.binOp .lss 5 (tZ 31) (.const (.int .u8 97)) 5), mvZ 33 32, gZ 33 false (mvZ 34 4), gZ 33 false (rZ 35 (.binOp .gtr 5 (tZ 34) (.const (.int .u8 122)) 5)), rZ 36 (.pick (tZ 33) (.const (.bool true)) (tZ 35)), mvZ 37 36, gZ 37 true (mvZ 38 4), gZ 37 true (rZ 39 (.binOp .lss 5 (tZ 38) (.const (.int .u8 48)) 5)), gZ 37 true (mvZ 40 39), gZ 40 false (mvZ 41 4), gZ 40 false (rZ 42 (.binOp .gtr 5 (tZ 41) (.const (.int .u8 57)) 5)), gZ 37 true (rZ 43 (.pick (tZ 40) (.const (.bool true)) (tZ 42))), rZ 44 (.pick (tZ 37) (tZ 43) (.const (.bool false))), mvZ 45 44, gZ 45 true (mvZ 46 4), gZ 45 true (rZ 47 (.binOp .neq 5 (tZ 46) (.const (.int .u8 45)) 5)), rZ 48 (.pick (tZ 45) (tZ 47) (.const (.bool false)))]
def profile_IsName_r8 : List SO := [rZ 2 (.assign (.const (.bool false)))]
def profile_IsName_r9 : List SO := [bcZ 49 .add 3 25 1 3, mvZ 25 49]
def profile_IsName_r10 : List SO := [rZ 2 (.assign (.const (.bool true)))]
def profile_IsName_c : SF := ⟨50, (.seq (.reg profile_IsName_r0)
  (.seq (.seq (.reg profile_IsName_r1)
  (.cond (tZ 22) (.seq (.reg profile_IsName_r2)
  .ret) .skip))
  (.seq (.seq (.reg profile_IsName_r3)
  (.block 0 (.loop (.seq (.reg profile_IsName_r4)
  (.seq (.cond (tZ 26) .skip (.exit 0))
  (.seq (.block 1 (.seq (.reg profile_IsName_r5)
  (.seq (.reg profile_IsName_r6)
  (.seq (.reg profile_IsName_r7)
  (.cond (tZ 48) (.seq (.reg profile_IsName_r8)
  .ret) .skip)))))
  (.reg profile_IsName_r9)))))))
  (.seq (.reg profile_IsName_r10)
  .ret)))), [.tmp 2]⟩
theorem profile_IsName_s : slimF Try.prog 72 = some profile_IsName_c := by kernel_rfl
abbrev profile_IsName_f : Nat := 72
/-- printworks/profile.table -/
def profile_table_r0 : List SO := [rZ 2 (.assign (.const (.slice none 0 0))), rZ 3 (.assign (ciZ 0))]
def profile_table_r1 : List SO := [mvZ 18 0, rZ 19 (.call ⟨(.builtin .len), #[(tZ 18)], #[71]⟩), bcZ 20 .gtr 3 19 65536 3]
def profile_table_r2 : List SO := [rZ 2 (.assign (.const (.slice none 0 0))), rZ 3 (.assign (ciZ 2))]
def profile_table_r3 : List SO := [mvZ 21 0, rZ 22 (.call ⟨(.builtin .len), #[(tZ 21)], #[71]⟩), bcZ 23 .lss 3 22 16 3]
def profile_table_r4 : List SO := [rZ 2 (.assign (.const (.slice none 0 0))), rZ 3 (.assign (ciZ 12))]
def profile_table_r5 : List SO := [mvZ 24 0, rZ 25 (.slice 71 (tZ 24) none (some (ciZ 4)) none), rZ 26 (.convert 71 9 (tZ 25)), rZ 27 (.binOp .neq 9 (tZ 26) (.const (.string ⟨([80, 82, 70, 49] : List UInt8).toArray⟩)) 9)]
def profile_table_r6 : List SO := [rZ 2 (.assign (.const (.slice none 0 0))), rZ 3 (.assign (ciZ 4))]
def profile_table_r7 : List SO := [mvZ 28 0, rZ 29 (.slice 71 (tZ 28) (some (ciZ 4)) none none), rZ 30 (.call ⟨(.value (.func (90 : Nat))), #[(tZ 29)], #[71]⟩), asZ 4 30]
def profile_table_r8 : List SO := [mvZ 32 4, mvZ 33 0, rZ 34 (.call ⟨(.builtin .len), #[(tZ 33)], #[71]⟩), boZ 35 .gtr 3 32 34 3, asZ 31 35]
def profile_table_r9 : List SO := [rZ 2 (.assign (.const (.slice none 0 0))), rZ 3 (.assign (ciZ 12))]
def profile_table_r10 : List SO := [mvZ 37 4, mvZ 38 0, rZ 39 (.call ⟨(.builtin .len), #[(tZ 38)], #[71]⟩), boZ 40 .lss 3 37 39 3, asZ 36 40]
def profile_table_r11 : List SO := [rZ 2 (.assign (.const (.slice none 0 0))), rZ 3 (.assign (ciZ 4))]
def profile_table_r12 : List SO := [mvZ 41 0, rZ 42 (.slice 71 (tZ 41) (some (ciZ 8)) none none), rZ 43 (.call ⟨(.value (.func (90 : Nat))), #[(tZ 42)], #[71]⟩), mvZ 44 0, rZ 45 (.slice 71 (tZ 44) (some (ciZ 12)) none none), rZ 46 (.call ⟨(.value (.func (64 : Nat))), #[(tZ 45)], #[71]⟩), boZ 47 .neq 3 43 46 3]
def profile_table_a12 : List (List Nat) := [[], [0], [1], [], [3], [4, 2], [2, 5]]
def profile_table_r13 : List SO := [rZ 2 (.assign (.const (.slice none 0 0))), rZ 3 (.assign (ciZ 11))]
def profile_table_r14 : List SO := [mvZ 48 0, rZ 49 (.slice 71 (tZ 48) (some (ciZ 12)) none none), rZ 50 (.call ⟨(.value (.func (91 : Nat))), #[(tZ 49)], #[71]⟩), asZ 5 50]
def profile_table_r15 : List SO := [mvZ 51 5, bcZ 52 .gtr 3 51 16 3]
def profile_table_r16 : List SO := [rZ 2 (.assign (.const (.slice none 0 0))), rZ 3 (.assign (ciZ 2))]
def profile_table_r17 : List SO := [mvZ 53 5, rZ 54 (.binOp .mul 3 (ciZ 12) (tZ 53) 3), rZ 55 (.binOp .add 3 (ciZ 16) (tZ 54) 3), asZ 6 55]
def profile_table_r18 : List SO := [mvZ 56 6, mvZ 57 0, rZ 58 (.call ⟨(.builtin .len), #[(tZ 57)], #[71]⟩), boZ 59 .gtr 3 56 58 3]
def profile_table_r19 : List SO := [rZ 2 (.assign (.const (.slice none 0 0))), rZ 3 (.assign (ciZ 12))]
def profile_table_r20 : List SO := [rZ 7 (.assign (.const (.slice none 0 0)))]
def profile_table_r21 : List SO := [rZ 8 (.assign (.const (.slice none 0 0))), rZ 9 (.assign (.const (.slice none 0 0)))]
def profile_table_r22 : List SO := [mvZ 60 5, rZ 61 (.move (ciZ 0))]
def profile_table_r23 : List SO := [boZ 62 .lss 3 61 60 3]
def profile_table_r24 : List SO := [mvZ 63 61, asZ 10 63]
def profile_table_r25 : List SO := [mvZ 64 0, mvZ 65 10, rZ 66 (.binOp .mul 3 (ciZ 12) (tZ 65) 3), rZ 67 (.binOp .add 3 (ciZ 16) (tZ 66) 3), rZ 68 (.slice 71 (tZ 64) (some (tZ 67)) none none), rZ 69 (.slice 71 (tZ 68) none (some (ciZ 12)) none), asZ 11 69]
def profile_table_r26 : List SO := [mvZ 70 11, rZ 71 (.slice 71 (tZ 70) none (some (ciZ 4)) none), rZ 72 (.convert 71 9 (tZ 71)), rZ 73 (.build 125 #[(0, (tZ 72))]), rZ 12 (.alloc 125), stZ 125 12 73]
def profile_table_r27 : List SO := [mvZ 74 11, rZ 75 (.slice 71 (tZ 74) (some (ciZ 4)) none none), rZ 76 (.call ⟨(.value (.func (90 : Nat))), #[(tZ 75)], #[71]⟩), mvZ 77 11, rZ 78 (.slice 71 (tZ 77) (some (ciZ 8)) none none), rZ 79 (.call ⟨(.value (.func (90 : Nat))), #[(tZ 78)], #[71]⟩), asZ 13 76, asZ 14 79]
def profile_table_a27 : List (List Nat) := [[], [0], [1], [], [3], [4, 2], [2, 5, 0, 1, 2], [5, 6, 0, 1, 2, 3, 4, 5, 6]]
def profile_table_r28 : List SO := [mvZ 80 13, mvZ 81 14, boZ 82 .add 3 80 81 3, mvZ 83 0, rZ 84 (.call ⟨(.builtin .len), #[(tZ 83)], #[71]⟩), boZ 85 .gtr 3 82 84 3]
def profile_table_r29 : List SO := [rZ 2 (.assign (.const (.slice none 0 0))), rZ 3 (.assign (ciZ 12))]
def profile_table_r30 : List SO := [mvZ 86 13, bcZ 87 .rem 3 86 4 3, bcZ 88 .neq 3 87 0 3, mvZ 89 88, gZ 89 false (mvZ 90 13), gZ 89 false (mvZ 91 6), gZ 89 false (boZ 92 .lss 3 90 91 3), rZ 93 (.pick (tZ 89) (.const (.bool true)) (tZ 92))]
def profile_table_r31 : List SO := [rZ 2 (.assign (.const (.slice none 0 0))), rZ 3 (.assign (ciZ 4))]
def profile_table_r32 : List SO := [mvZ 94 7, rZ 95 (.call ⟨(.builtin .len), #[(tZ 94)], #[121]⟩), rZ 96 (.move (ciZ 0))]
def profile_table_r33 : List SO := [boZ 97 .lss 3 96 95 3]
def profile_table_r34 : List SO := [iaZ 98 121 94 96, ldZ 99 125 98, rZ 16 (.alloc 125), stZ 125 16 99]
def profile_table_r35 : List SO := [faZ 100 125 16 0, ldZ 101 9 100, faZ 102 125 12 0, ldZ 103 9 102, boZ 104 .eql 9 101 103 9]
def profile_table_r36 : List SO := [rZ 2 (.assign (.const (.slice none 0 0))), rZ 3 (.assign (ciZ 7))]
def profile_table_r37 : List SO := [bcZ 105 .add 3 96 1 3, mvZ 96 105]
def profile_table_r38 : List SO := [mvZ 106 7, rZ 107 (.call ⟨(.builtin .len), #[(tZ 106)], #[121]⟩), rZ 108 (.move (ciZ 0))]
def profile_table_r39 : List SO := [boZ 109 .lss 3 108 107 3]
def profile_table_r40 : List SO := [mvZ 110 108, asZ 17 110]
def profile_table_r41 : List SO := [mvZ 111 13, mvZ 112 8, mvZ 113 17, iaZ 114 23 112 113, ldZ 115 3 114, rZ 116 (.call ⟨(.builtin .max), #[(tZ 111), (tZ 115)], #[3, 3]⟩), mvZ 117 13, mvZ 118 14, boZ 119 .add 3 117 118 3, mvZ 120 9, mvZ 121 17, iaZ 122 23 120 121, ldZ 123 3 122, rZ 124 (.call ⟨(.builtin .min), #[(tZ 119), (tZ 123)], #[3, 3]⟩), boZ 125 .lss 3 116 124 3]
def profile_table_a41 : List (List Nat) := [[], [], [], [1, 2], [3], [0, 4], [], [], [6, 7], [], [], [9, 10], [11], [8, 12], [5, 13]]
def profile_table_r42 : List SO := [rZ 2 (.assign (.const (.slice none 0 0))), rZ 3 (.assign (ciZ 4))]
def profile_table_r43 : List SO := [bcZ 126 .add 3 108 1 3, mvZ 108 126]
def profile_table_r44 : List SO := [mvZ 127 0, mvZ 128 13, mvZ 129 13, mvZ 130 14, boZ 131 .add 3 129 130 3, rZ 132 (.slice 71 (tZ 127) (some (tZ 128)) (some (tZ 131)) none), faZ 133 125 12 1, stZ 71 133 132]
def profile_table_r45 : List SO := [mvZ 134 7, ldZ 135 125 12, rZ 136 (.buildSlice 121 1 #[(0, (tZ 135))]), rZ 137 (.call ⟨(.builtin .append), #[(tZ 134), (tZ 136)], #[121, 121]⟩), mvZ 138 8, mvZ 139 13, rZ 140 (.buildSlice 23 1 #[(0, (tZ 139))]), rZ 141 (.call ⟨(.builtin .append), #[(tZ 138), (tZ 140)], #[23, 23]⟩), mvZ 142 9, mvZ 143 13, mvZ 144 14, boZ 145 .add 3 143 144 3, rZ 146 (.buildSlice 23 1 #[(0, (tZ 145))]), rZ 147 (.call ⟨(.builtin .append), #[(tZ 142), (tZ 146)], #[23, 23]⟩), asZ 7 137, asZ 8 141, asZ 9 147]
def profile_table_r46 : List SO := [bcZ 148 .add 3 61 1 3, mvZ 61 148]
def profile_table_r47 : List SO := [mvZ 149 7, asZ 2 149, rZ 3 (.assign (ciZ 0))]
def profile_table_c : SF := ⟨150, (.seq (.reg profile_table_r0)
  (.seq (.seq (.reg profile_table_r1)
  (.cond (tZ 20) (.seq (.reg profile_table_r2)
  .ret) .skip))
  (.seq (.seq (.reg profile_table_r3)
  (.cond (tZ 23) (.seq (.reg profile_table_r4)
  .ret) .skip))
  (.seq (.seq (.reg profile_table_r5)
  (.cond (tZ 27) (.seq (.reg profile_table_r6)
  .ret) .skip))
  (.seq (.seq (.reg profile_table_r7)
  (.block 0 (.seq (.reg profile_table_r8)
  (.cond (tZ 31) (.seq (.reg profile_table_r9)
  .ret) (.seq (.reg profile_table_r10)
  (.cond (tZ 36) (.seq (.reg profile_table_r11)
  .ret) .skip))))))
  (.seq (.seq (.regd profile_table_r12 profile_table_a12)
  (.cond (tZ 47) (.seq (.reg profile_table_r13)
  .ret) .skip))
  (.seq (.reg profile_table_r14)
  (.seq (.seq (.reg profile_table_r15)
  (.cond (tZ 52) (.seq (.reg profile_table_r16)
  .ret) .skip))
  (.seq (.reg profile_table_r17)
  (.seq (.seq (.reg profile_table_r18)
  (.cond (tZ 59) (.seq (.reg profile_table_r19)
  .ret) .skip))
  (.seq (.reg profile_table_r20)
  (.seq (.reg profile_table_r21)
  (.seq (.seq (.reg profile_table_r22)
  (.block 1 (.loop (.seq (.reg profile_table_r23)
  (.seq (.cond (tZ 62) .skip (.exit 1))
  (.seq (.block 2 (.seq (.reg profile_table_r24)
  (.seq (.reg profile_table_r25)
  (.seq (.reg profile_table_r26)
  (.seq (.regd profile_table_r27 profile_table_a27)
  (.seq (.seq (.reg profile_table_r28)
  (.cond (tZ 85) (.seq (.reg profile_table_r29)
  .ret) .skip))
  (.seq (.seq (.reg profile_table_r30)
  (.cond (tZ 93) (.seq (.reg profile_table_r31)
  .ret) .skip))
  (.seq (.seq (.reg profile_table_r32)
  (.block 3 (.loop (.seq (.reg profile_table_r33)
  (.seq (.cond (tZ 97) .skip (.exit 3))
  (.seq (.block 4 (.seq (.reg profile_table_r34)
  (.seq (.reg profile_table_r35)
  (.cond (tZ 104) (.seq (.reg profile_table_r36)
  .ret) .skip))))
  (.reg profile_table_r37)))))))
  (.seq (.seq (.reg profile_table_r38)
  (.block 5 (.loop (.seq (.reg profile_table_r39)
  (.seq (.cond (tZ 109) .skip (.exit 5))
  (.seq (.block 6 (.seq (.reg profile_table_r40)
  (.seq (.regd profile_table_r41 profile_table_a41)
  (.cond (tZ 125) (.seq (.reg profile_table_r42)
  .ret) .skip))))
  (.reg profile_table_r43)))))))
  (.seq (.reg profile_table_r44)
  (.reg profile_table_r45)))))))))))
  (.reg profile_table_r46)))))))
  (.seq (.reg profile_table_r47)
  .ret)))))))))))))), [.tmp 2, .tmp 3]⟩
theorem profile_table_s : slimF Try.prog 73 = some profile_table_c := by kernel_rfl
/-- printworks/profile.Decode$1 -/
def profile_Decode_1_r0 : List SO := [rZ 5 (.call ⟨(.builtin .recover), #[], #[]⟩), asZ 2 5]
def profile_Decode_1_r1 : List SO := [mvZ 6 2, rZ 7 (.binOp .neq 20 (tZ 6) (.const .nilIface) 20)]
def profile_Decode_1_r2 : List SO := [mvZ 9 2, rZ 10 (.typeAssert (tZ 9) 20 127 true), mvZ 8 10, exZ 11 8 0, exZ 12 8 1, rZ 3 (.alloc 127), stZ 127 3 11, asZ 4 12]
def profile_Decode_1_r3 : List SO := [mvZ 13 4, rZ 14 (.unOp .not 4 (tZ 13))]
def profile_Decode_1_r4 : List SO := [mvZ 15 2, ⟨none, .panic (tZ 15), none⟩]
def profile_Decode_1_r5 : List SO := [rZ 16 (.build 62 #[]), stZ 62 0 16, ⟨none, .store 33 (tZ 1) (ciZ 4), none⟩]
def profile_Decode_1_c : SF := ⟨17, (.seq (.reg profile_Decode_1_r0)
  (.seq (.reg profile_Decode_1_r1)
  (.cond (tZ 7) (.seq (.seq (.reg profile_Decode_1_r2)
  (.seq (.reg profile_Decode_1_r3)
  (.cond (tZ 14) (.reg profile_Decode_1_r4) .skip)))
  (.reg profile_Decode_1_r5)) .skip))), []⟩
theorem profile_Decode_1_s : slimF Try.prog 74 = some profile_Decode_1_c := by kernel_rfl
/-- (*printworks/profile.reader).take -/
def __profile_reader__take_r0 : List SO := [rZ 4 (.assign (.const (.slice none 0 0)))]
def __profile_reader__take_r1 : List SO := [mvZ 6 1, mvZ 7 0, rZ 8 (.nilCheck (tZ 7)), faZ 9 130 8 0, ldZ 10 71 9, rZ 11 (.call ⟨(.builtin .len), #[(tZ 10)], #[71]⟩), boZ 12 .gtr 3 6 11 3]
def __profile_reader__take_r2 : List SO := [rZ 13 (.build 127 #[]), rZ 14 (.makeInterface 127 (tZ 13)), ⟨none, .panic (tZ 14), none⟩]
def __profile_reader__take_r3 : List SO := [mvZ 15 0, rZ 16 (.nilCheck (tZ 15)), faZ 17 130 16 0, ldZ 18 71 17, mvZ 19 1, rZ 20 (.slice 71 (tZ 18) none (some (tZ 19)) none), asZ 5 20]
def __profile_reader__take_r4 : List SO := [mvZ 21 0, mvZ 22 0, rZ 23 (.nilCheck (tZ 22)), faZ 24 130 23 0, ldZ 25 71 24, mvZ 26 1, rZ 27 (.slice 71 (tZ 25) (some (tZ 26)) none none), rZ 28 (.nilCheck (tZ 21)), faZ 29 130 28 0, stZ 71 29 27]
def __profile_reader__take_r5 : List SO := [mvZ 30 5, asZ 4 30]
def __profile_reader__take_c : SF := ⟨31, (.seq (.reg __profile_reader__take_r0)
  (.seq (.seq (.reg __profile_reader__take_r1)
  (.cond (tZ 12) (.reg __profile_reader__take_r2) .skip))
  (.seq (.reg __profile_reader__take_r3)
  (.seq (.reg __profile_reader__take_r4)
  (.seq (.reg __profile_reader__take_r5)
  .ret))))), [.tmp 4]⟩
theorem __profile_reader__take_s : slimF Try.prog 75 = some __profile_reader__take_c := by kernel_rfl
/-- (*printworks/profile.reader).word -/
def __profile_reader__word_r0 : List SO := [rZ 2 (.assign (ciZ 0))]
def __profile_reader__word_r1 : List SO := [mvZ 3 0, rZ 4 (.call ⟨(.value (.func (75 : Nat))), #[(tZ 3), (ciZ 2)], #[155, 3]⟩), rZ 5 (.call ⟨(.value (.func (91 : Nat))), #[(tZ 4)], #[71]⟩), asZ 2 5]
def __profile_reader__word_c : SF := ⟨6, (.seq (.reg __profile_reader__word_r0)
  (.seq (.reg __profile_reader__word_r1)
  .ret)), [.tmp 2]⟩
theorem __profile_reader__word_s : slimF Try.prog 76 = some __profile_reader__word_c := by kernel_rfl
/-- printworks/profile.FineOne -/
def profile_FineOne_r0 : List SO := [rZ 6 (.assign (ciZ 0))]
def profile_FineOne_r1 : List SO := [mvZ 7 0, rZ 8 (.nilCheck (tZ 7)), faZ 9 62 8 2, ldZ 10 60 9, mvZ 11 1, iaZ 12 60 10 11, ldZ 13 46 12, mvZ 14 2, rZ 15 (.binOp .mul 3 (ciZ 256) (tZ 14) 3), rZ 16 (.call ⟨(.value (.func (67 : Nat))), #[(tZ 13), (tZ 15)], #[46, 3]⟩), asZ 6 16]
def profile_FineOne_c : SF := ⟨17, (.seq (.reg profile_FineOne_r0)
  (.seq (.reg profile_FineOne_r1)
  .ret)), [.tmp 6]⟩
theorem profile_FineOne_s : slimF Try.prog 89 = some profile_FineOne_c := by kernel_rfl
/-- printworks/profile.Get32 -/
def profile_Get32_r0 : List SO := [rZ 2 (.assign (ciZ 0))]
def profile_Get32_r1 : List SO := [mvZ 3 0, rZ 4 (.call ⟨(.value (.func (91 : Nat))), #[(tZ 3)], #[71]⟩), rZ 5 (.binOp .shl 3 (tZ 4) (.const (.int .u64 16)) 153), mvZ 6 0, rZ 7 (.slice 71 (tZ 6) (some (ciZ 2)) none none), rZ 8 (.call ⟨(.value (.func (91 : Nat))), #[(tZ 7)], #[71]⟩), boZ 9 .or 3 5 8 3, asZ 2 9]
def profile_Get32_a1 : List (List Nat) := [[], [0], [1], [], [3], [4, 1], [2, 5], [6, 5, 0, 1, 2, 3, 4, 5, 6]]
def profile_Get32_c : SF := ⟨10, (.seq (.reg profile_Get32_r0)
  (.seq (.regd profile_Get32_r1 profile_Get32_a1)
  .ret)), [.tmp 2]⟩
theorem profile_Get32_s : slimF Try.prog 90 = some profile_Get32_c := by kernel_rfl
/-- printworks/profile.Get16 -/
def profile_Get16_r0 : List SO := [rZ 2 (.assign (ciZ 0))]
def profile_Get16_r1 : List SO := [mvZ 3 0, rZ 4 (.indexAddr 71 (tZ 3) (ciZ 0)), ldZ 5 5 4, rZ 6 (.convert 5 3 (tZ 5)), rZ 7 (.binOp .shl 3 (tZ 6) (.const (.int .u64 8)) 153), mvZ 8 0, rZ 9 (.indexAddr 71 (tZ 8) (ciZ 1)), ldZ 10 5 9, rZ 11 (.convert 5 3 (tZ 10)), boZ 12 .or 3 7 11 3, asZ 2 12]
def profile_Get16_a1 : List (List Nat) := [[], [0], [1], [2], [3], [], [5], [6], [7], [4, 8], [9, 0, 1, 2, 3, 4, 5, 6, 7, 8, 9]]
def profile_Get16_c : SF := ⟨13, (.seq (.reg profile_Get16_r0)
  (.seq (.regd profile_Get16_r1 profile_Get16_a1)
  .ret)), [.tmp 2]⟩
theorem profile_Get16_s : slimF Try.prog 91 = some profile_Get16_c := by kernel_rfl
def tbl_profile : List (Nat × SF) := [(26, profile_Forward_c), (29, profile_Exact_c), (32, profile_Encode_c), (33, profile_Check_c), (34, profile_Decode_c), (41, profile_Names_c), (48, profile_Tones_c), (60, profile_Quick_c), (62, profile_Tags_c), (64, profile_Sum_c), (65, profile_Fine_c), (69, profile_Put16_c), (70, profile_signatures_c), (71, profile_Put32_c), (72, profile_IsName_c), (73, profile_table_c), (74, profile_Decode_1_c), (75, __profile_reader__take_c), (76, __profile_reader__word_c), (89, profile_FineOne_c), (90, profile_Get32_c), (91, profile_Get16_c)]
theorem tbl_profile_ok : okT Try.prog tbl_profile := ⟨profile_Forward_s, profile_Exact_s, profile_Encode_s, profile_Check_s, profile_Decode_s, profile_Names_s, profile_Tones_s, profile_Quick_s, profile_Tags_s, profile_Sum_s, profile_Fine_s, profile_Put16_s, profile_signatures_s, profile_Put32_s, profile_IsName_s, profile_table_s, profile_Decode_1_s, __profile_reader__take_s, __profile_reader__word_s, profile_FineOne_s, profile_Get32_s, profile_Get16_s, trivial⟩

end Go.Proofs.Ytogbkhopanaoiaa
namespace Go.Proofs.Ytogbkhopanaoiaa
open Go Go.Lite
set_option linter.unusedVariables false

/-- printworks/refspace.Square -/
def refspace_Square_r0 : List SO := [rZ 2 (.box 43 (tZ 0)), rZ 3 (.box 43 (tZ 1)), rZ 4 (.assign (ciZ 0)), rZ 5 (.assign (ciZ 0))]
def refspace_Square_r1 : List SO := [ldZ 8 43 2, rZ 9 (.call ⟨(.value (.func (61 : Nat))), #[(tZ 8)], #[43]⟩), asZ 6 9]
def refspace_Square_r2 : List SO := [mvZ 10 6, bcZ 11 .neq 33 10 0 33]
def refspace_Square_r3 : List SO := [mvZ 12 6, rZ 4 (.assign (ciZ 0)), asZ 5 12]
def refspace_Square_r4 : List SO := [ldZ 13 43 3, rZ 14 (.call ⟨(.value (.func (61 : Nat))), #[(tZ 13)], #[43]⟩), asZ 7 14]
def refspace_Square_r5 : List SO := [mvZ 15 7, bcZ 16 .neq 33 15 0 33]
def refspace_Square_r6 : List SO := [mvZ 17 7, rZ 4 (.assign (ciZ 0)), asZ 5 17]
def refspace_Square_r7 : List SO := [ldZ 18 43 2, ldZ 19 43 3, rZ 20 (.call ⟨(.value (.func (59 : Nat))), #[(tZ 18), (tZ 19)], #[43, 43]⟩), asZ 4 20, rZ 5 (.assign (ciZ 0))]
def refspace_Square_c : SF := ⟨21, (.seq (.reg refspace_Square_r0)
  (.seq (.seq (.reg refspace_Square_r1)
  (.seq (.reg refspace_Square_r2)
  (.cond (tZ 11) (.seq (.reg refspace_Square_r3)
  .ret) .skip)))
  (.seq (.seq (.reg refspace_Square_r4)
  (.seq (.reg refspace_Square_r5)
  (.cond (tZ 16) (.seq (.reg refspace_Square_r6)
  .ret) .skip)))
  (.seq (.reg refspace_Square_r7)
  .ret)))), [.tmp 4, .tmp 5]⟩
theorem refspace_Square_s : slimF Try.prog 27 = some refspace_Square_c := by kernel_rfl
/-- printworks/refspace.Far -/
def refspace_Far_r0 : List SO := [rZ 2 (.box 43 (tZ 0)), rZ 3 (.box 43 (tZ 1)), rZ 4 (.assign (ciZ 0))]
def refspace_Far_r1 : List SO := [faZ 8 43 2 0, ldZ 9 3 8, faZ 10 43 3 0, ldZ 11 3 10, boZ 12 .sub 3 9 11 3, faZ 13 43 2 1, ldZ 14 3 13, faZ 15 43 3 1, ldZ 16 3 15, boZ 17 .sub 3 14 16 3, faZ 18 43 2 2, ldZ 19 3 18, faZ 20 43 3 2, ldZ 21 3 20, boZ 22 .sub 3 19 21 3, asZ 5 12, asZ 6 17, asZ 7 22]
def refspace_Far_a1 : List (List Nat) := [[], [0], [], [2], [1, 3], [], [5], [], [7], [6, 8], [], [10], [], [12], [11, 13], [4, 0, 1, 2, 3, 4], [9, 15, 0, 1, 2, 3, 4, 5, 6, 7, 8, 9, 15], [14, 16, 0, 1, 2, 3, 4, 5, 6, 7, 8, 9, 10, 11, 12, 13, 14, 15, 16]]
def refspace_Far_r2 : List SO := [mvZ 23 5, mvZ 24 5, boZ 25 .mul 3 23 24 3, mvZ 26 6, mvZ 27 6, boZ 28 .mul 3 26 27 3, boZ 29 .add 3 25 28 3, mvZ 30 7, mvZ 31 7, boZ 32 .mul 3 30 31 3, boZ 33 .add 3 29 32 3, asZ 4 33]
def refspace_Far_c : SF := ⟨34, (.seq (.reg refspace_Far_r0)
  (.seq (.regd refspace_Far_r1 refspace_Far_a1)
  (.seq (.reg refspace_Far_r2)
  .ret))), [.tmp 4]⟩
theorem refspace_Far_s : slimF Try.prog 59 = some refspace_Far_c := by kernel_rfl
/-- printworks/refspace.Check -/
def refspace_Check_r0 : List SO := [rZ 1 (.box 43 (tZ 0)), rZ 2 (.assign (ciZ 0))]
def refspace_Check_r1 : List SO := [faZ 3 43 1 0, ldZ 4 3 3, bcZ 5 .lss 3 4 0 3, mvZ 6 5, gZ 6 false (faZ 7 43 1 0), gZ 6 false (ldZ 8 3 7), gZ 6 false (bcZ 9 .gtr 3 8 10000 3), rZ 10 (.pick (tZ 6) (.const (.bool true)) (tZ 9)), mvZ 11 10, gZ 11 false (faZ 12 43 1 1), gZ 11 false (ldZ 13 3 12), gZ 11 false (rZ 14 (.binOp .lss 3 (tZ 13) (.const (.int .i64 (-12800))) 3)), rZ 15 (.pick (tZ 11) (.const (.bool true)) (tZ 14)), mvZ 16 15, gZ 16 false (faZ 17 43 1 1), gZ 16 false (ldZ 18 3 17), gZ 16 false (bcZ 19 .gtr 3 18 12800 3), rZ 20 (.pick (tZ 16) (.const (.bool true)) (tZ 19)), mvZ 21 20, gZ 21 false (faZ 22 43 1 2), gZ 21 false (ldZ 23 3 22), gZ 21 false (rZ 24 (.binOp .lss 3 (tZ 23) (.const (.int .i64 (-12800))) 3)), rZ 25 (.pick (tZ 21) (.const (.bool true)) (tZ 24)), mvZ 26 25, gZ 26 false (faZ 27 43 1 2), gZ 26 false (ldZ 28 3 27), gZ 26 false (bcZ 29 .gtr 3 28 12800 3), rZ 30 (.pick (tZ 26) (.const (.bool true)) (tZ 29))]
def refspace_Check_r2 : List SO := [rZ 2 (.assign (ciZ 3))]
def refspace_Check_r3 : List SO := [rZ 2 (.assign (ciZ 0))]
def refspace_Check_c : SF := ⟨31, (.seq (.reg refspace_Check_r0)
  (.seq (.seq (.reg refspace_Check_r1)
  (.cond (tZ 30) (.seq (.reg refspace_Check_r2)
  .ret) .skip))
  (.seq (.reg refspace_Check_r3)
  .ret))), [.tmp 2]⟩
theorem refspace_Check_s : slimF Try.prog 61 = some refspace_Check_c := by kernel_rfl
abbrev refspace_Check_f : Nat := 61
/-- printworks/refspace.Between -/
def refspace_Between_r0 : List SO := [rZ 4 (.box 43 (tZ 0)), rZ 5 (.box 43 (tZ 1)), rZ 6 (.box 3 (tZ 2)), rZ 7 (.box 3 (tZ 3)), rZ 8 (.alloc 43), rZ 9 (.assign (ciZ 0))]
def refspace_Between_r1 : List SO := [ldZ 13 43 4, rZ 14 (.call ⟨(.value (.func (61 : Nat))), #[(tZ 13)], #[43]⟩), asZ 10 14]
def refspace_Between_r2 : List SO := [mvZ 15 10, bcZ 16 .neq 33 15 0 33]
def refspace_Between_r3 : List SO := [rZ 17 (.build 43 #[]), mvZ 18 10, stZ 43 8 17, asZ 9 18]
def refspace_Between_r4 : List SO := [ldZ 19 43 5, rZ 20 (.call ⟨(.value (.func (61 : Nat))), #[(tZ 19)], #[43]⟩), asZ 11 20]
def refspace_Between_r5 : List SO := [mvZ 21 11, bcZ 22 .neq 33 21 0 33]
def refspace_Between_r6 : List SO := [rZ 23 (.build 43 #[]), mvZ 24 11, stZ 43 8 23, asZ 9 24]
def refspace_Between_r7 : List SO := [ldZ 25 3 7, bcZ 26 .lss 3 25 1 3, mvZ 27 26, gZ 27 false (ldZ 28 3 7), gZ 27 false (bcZ 29 .gtr 3 28 65280 3), rZ 30 (.pick (tZ 27) (.const (.bool true)) (tZ 29)), mvZ 31 30, gZ 31 false (ldZ 32 3 6), gZ 31 false (bcZ 33 .lss 3 32 0 3), rZ 34 (.pick (tZ 31) (.const (.bool true)) (tZ 33)), mvZ 35 34, gZ 35 false (ldZ 36 3 6), gZ 35 false (ldZ 37 3 7), gZ 35 false (boZ 38 .gtr 3 36 37 3), rZ 39 (.pick (tZ 35) (.const (.bool true)) (tZ 38))]
def refspace_Between_r8 : List SO := [rZ 40 (.build 43 #[]), stZ 43 8 40, rZ 9 (.assign (ciZ 3))]
def refspace_Between_r9 : List SO := [rZ 41 (.makeFunc (.func (106 : Nat)) #[] #[(tZ 7), (tZ 6)]), asZ 12 41]
def refspace_Between_r10 : List SO := [mvZ 42 12, faZ 43 43 4 0, ldZ 44 3 43, faZ 45 43 5 0, ldZ 46 3 45, rZ 47 (.call ⟨(.value (tZ 42)), #[(tZ 44), (tZ 46)], #[3, 3]⟩), mvZ 48 12, faZ 49 43 4 1, ldZ 50 3 49, faZ 51 43 5 1, ldZ 52 3 51, rZ 53 (.call ⟨(.value (tZ 48)), #[(tZ 50), (tZ 52)], #[3, 3]⟩), mvZ 54 12, faZ 55 43 4 2, ldZ 56 3 55, faZ 57 43 5 2, ldZ 58 3 57, rZ 59 (.call ⟨(.value (tZ 54)), #[(tZ 56), (tZ 58)], #[3, 3]⟩), rZ 60 (.build 43 #[(0, (tZ 47)), (1, (tZ 53)), (2, (tZ 59))]), stZ 43 8 60, rZ 9 (.assign (ciZ 0))]
def refspace_Between_a10 : List (List Nat) := [[], [], [1], [], [3], [0, 2, 4], [], [], [7], [], [9], [6, 8, 10, 5], [], [], [13], [], [15], [12, 14, 16, 11], [5, 11, 17], [18, 17, 0, 1, 2, 3, 4, 5, 6, 7, 8, 9, 10, 11, 12, 13, 14, 15, 16, 17, 18], [19, 0, 1, 2, 3, 4, 5, 6, 7, 8, 9, 10, 11, 12, 13, 14, 15, 16, 17, 18, 19]]
def refspace_Between_c : SF := ⟨61, (.seq (.reg refspace_Between_r0)
  (.seq (.seq (.reg refspace_Between_r1)
  (.seq (.reg refspace_Between_r2)
  (.cond (tZ 16) (.seq (.reg refspace_Between_r3)
  .ret) .skip)))
  (.seq (.seq (.reg refspace_Between_r4)
  (.seq (.reg refspace_Between_r5)
  (.cond (tZ 22) (.seq (.reg refspace_Between_r6)
  .ret) .skip)))
  (.seq (.seq (.reg refspace_Between_r7)
  (.cond (tZ 39) (.seq (.reg refspace_Between_r8)
  .ret) .skip))
  (.seq (.reg refspace_Between_r9)
  (.seq (.regd refspace_Between_r10 refspace_Between_a10)
  .ret)))))), [.cell 8 43, .tmp 9]⟩
theorem refspace_Between_s : slimF Try.prog 99 = some refspace_Between_c := by kernel_rfl
/-- printworks/refspace.Between$1 -/
def refspace_Between_1_r0 : List SO := [rZ 6 (.assign (ciZ 0))]
def refspace_Between_1_r1 : List SO := [ldZ 7 3 2, ldZ 8 3 3, boZ 9 .sub 3 7 8 3, mvZ 10 0, boZ 11 .mul 3 9 10 3, ldZ 12 3 3, mvZ 13 1, boZ 14 .mul 3 12 13 3, boZ 15 .add 3 11 14 3, ldZ 16 3 2, rZ 17 (.call ⟨(.value (.func (78 : Nat))), #[(tZ 15), (tZ 16)], #[3, 3]⟩), asZ 6 17]
def refspace_Between_1_c : SF := ⟨18, (.seq (.reg refspace_Between_1_r0)
  (.seq (.reg refspace_Between_1_r1)
  .ret)), [.tmp 6]⟩
theorem refspace_Between_1_s : slimF Try.prog 106 = some refspace_Between_1_c := by kernel_rfl
def tbl_refspace : List (Nat × SF) := [(27, refspace_Square_c), (59, refspace_Far_c), (61, refspace_Check_c), (99, refspace_Between_c), (106, refspace_Between_1_c)]
theorem tbl_refspace_ok : okT Try.prog tbl_refspace := ⟨refspace_Square_s, refspace_Far_s, refspace_Check_s, refspace_Between_s, refspace_Between_1_s, trivial⟩

end Go.Proofs.Ytogbkhopanaoiaa
namespace Go.Proofs.Ytogbkhopanaoiaa
open Go Go.Lite
set_option linter.unusedVariables false

/-- printworks/spot.Process -/
def spot_Process_r0 : List SO := [rZ 2 (.box 48 (tZ 0)), rZ 4 (.assign (.const (.slice none 0 0))), rZ 5 (.assign (ciZ 0))]
def spot_Process_r1 : List SO := [rZ 7 (.call ⟨(.value (.func (46 : Nat))), #[(tZ 2)], #[85]⟩), asZ 6 7]
def spot_Process_r2 : List SO := [mvZ 8 6, bcZ 9 .neq 33 8 0 33]
def spot_Process_r3 : List SO := [mvZ 10 6, rZ 4 (.assign (.const (.slice none 0 0))), asZ 5 10]
def spot_Process_r4 : List SO := [mvZ 11 1, bcZ 12 .lss 3 11 0 3, mvZ 13 12, gZ 13 false (mvZ 14 1), gZ 13 false (bcZ 15 .gtr 3 14 255 3), rZ 16 (.pick (tZ 13) (.const (.bool true)) (tZ 15))]
def spot_Process_r5 : List SO := [rZ 4 (.assign (.const (.slice none 0 0))), rZ 5 (.assign (ciZ 3))]
def spot_Process_r6 : List SO := [mvZ 17 1, rZ 18 (.call ⟨(.value (.func (40 : Nat))), #[(tZ 2), (tZ 17)], #[85, 3]⟩), asZ 4 18, rZ 5 (.assign (ciZ 0))]
def spot_Process_c : SF := ⟨19, (.seq (.reg spot_Process_r0)
  (.seq (.seq (.reg spot_Process_r1)
  (.seq (.reg spot_Process_r2)
  (.cond (tZ 9) (.seq (.reg spot_Process_r3)
  .ret) .skip)))
  (.seq (.seq (.reg spot_Process_r4)
  (.cond (tZ 16) (.seq (.reg spot_Process_r5)
  .ret) .skip))
  (.seq (.reg spot_Process_r6)
  .ret)))), [.tmp 4, .tmp 5]⟩
theorem spot_Process_s : slimF Try.prog 17 = some spot_Process_c := by kernel_rfl
/-- printworks/spot.Quick -/
def spot_Quick_r0 : List SO := [rZ 4 (.assign (.const (.slice none 0 0)))]
def spot_Quick_r1 : List SO := [mvZ 8 0, rZ 9 (.nilCheck (tZ 8)), faZ 10 48 9 4, ldZ 11 23 10, rZ 12 (.call ⟨(.builtin .len), #[(tZ 11)], #[23]⟩), rZ 13 (.makeSlice 23 (tZ 12) (tZ 12)), asZ 5 13]
def spot_Quick_r2 : List SO := [mvZ 14 0, rZ 15 (.nilCheck (tZ 14)), faZ 16 48 15 4, ldZ 17 23 16, rZ 18 (.call ⟨(.builtin .len), #[(tZ 17)], #[23]⟩), rZ 19 (.move (ciZ 0))]
def spot_Quick_r3 : List SO := [boZ 20 .lss 3 19 18 3]
def spot_Quick_r4 : List SO := [mvZ 21 19, iaZ 22 23 17 19, ldZ 23 3 22, asZ 6 21, asZ 7 23]
def spot_Quick_r5 : List SO := [mvZ 24 5, mvZ 25 6, mvZ 26 7, mvZ 27 0, rZ 28 (.nilCheck (tZ 27)), faZ 29 48 28 3, ldZ 30 46 29, mvZ 31 1, rZ 32 (.binOp .mul 3 (ciZ 256) (tZ 31) 3), rZ 33 (.call ⟨(.value (.func (67 : Nat))), #[(tZ 30), (tZ 32)], #[46, 3]⟩), boZ 34 .mul 3 26 33 3, rZ 35 (.call ⟨(.value (.func (78 : Nat))), #[(tZ 34), (ciZ 65280)], #[3, 3]⟩), iaZ 36 23 24 25, stZ 3 36 35]
def spot_Quick_r6 : List SO := [bcZ 37 .add 3 19 1 3, mvZ 19 37]
def spot_Quick_r7 : List SO := [mvZ 38 5, asZ 4 38]
def spot_Quick_c : SF := ⟨39, (.seq (.reg spot_Quick_r0)
  (.seq (.reg spot_Quick_r1)
  (.seq (.seq (.reg spot_Quick_r2)
  (.block 0 (.loop (.seq (.reg spot_Quick_r3)
  (.seq (.cond (tZ 20) .skip (.exit 0))
  (.seq (.block 1 (.seq (.reg spot_Quick_r4)
  (.reg spot_Quick_r5)))
  (.reg spot_Quick_r6)))))))
  (.seq (.reg spot_Quick_r7)
  .ret)))), [.tmp 4]⟩
theorem spot_Quick_s : slimF Try.prog 40 = some spot_Quick_c := by kernel_rfl
abbrev spot_Quick_f : Nat := 40
/-- printworks/spot.Check -/
def spot_Check_r0 : List SO := [rZ 2 (.assign (ciZ 0))]
def spot_Check_r1 : List SO := [mvZ 6 0, rZ 7 (.call ⟨(.builtin .len), #[(tZ 6)], #[26]⟩), bcZ 8 .gtr 3 7 40 3]
def spot_Check_r2 : List SO := [rZ 2 (.assign (ciZ 2))]
def spot_Check_r3 : List SO := [mvZ 9 0, rZ 10 (.call ⟨(.builtin .len), #[(tZ 9)], #[26]⟩), rZ 11 (.move (ciZ 0))]
def spot_Check_r4 : List SO := [boZ 12 .lss 3 11 10 3]
def spot_Check_r5 : List SO := [mvZ 13 11, asZ 3 13]
def spot_Check_r6 : List SO := [mvZ 14 0, mvZ 15 3, iaZ 16 26 14 15, rZ 17 (.call ⟨(.value (.func (46 : Nat))), #[(tZ 16)], #[85]⟩), asZ 4 17]
def spot_Check_r7 : List SO := [mvZ 18 4, bcZ 19 .neq 33 18 0 33]
def spot_Check_r8 : List SO := [mvZ 20 4, asZ 2 20]
def spot_Check_r9 : List SO := [mvZ 21 3, rZ 22 (.move (ciZ 0))]
def spot_Check_r10 : List SO := [boZ 23 .lss 3 22 21 3]
def spot_Check_r11 : List SO := [mvZ 24 22, asZ 5 24]
def spot_Check_r12 : List SO := [mvZ 25 0, mvZ 26 5, iaZ 27 26 25 26, faZ 28 48 27 0, ldZ 29 9 28, mvZ 30 0, mvZ 31 3, iaZ 32 26 30 31, faZ 33 48 32 0, ldZ 34 9 33, boZ 35 .eql 9 29 34 9]
def spot_Check_a12 : List (List Nat) := [[], [], [0, 1], [2], [3], [], [], [5, 6], [7], [8], [4, 9]]
def spot_Check_r13 : List SO := [rZ 2 (.assign (ciZ 7))]
def spot_Check_r14 : List SO := [bcZ 36 .add 3 22 1 3, mvZ 22 36]
def spot_Check_r15 : List SO := [bcZ 37 .add 3 11 1 3, mvZ 11 37]
def spot_Check_r16 : List SO := [rZ 2 (.assign (ciZ 0))]
def spot_Check_c : SF := ⟨38, (.seq (.reg spot_Check_r0)
  (.seq (.seq (.reg spot_Check_r1)
  (.cond (tZ 8) (.seq (.reg spot_Check_r2)
  .ret) .skip))
  (.seq (.seq (.reg spot_Check_r3)
  (.block 0 (.loop (.seq (.reg spot_Check_r4)
  (.seq (.cond (tZ 12) .skip (.exit 0))
  (.seq (.block 1 (.seq (.reg spot_Check_r5)
  (.seq (.seq (.reg spot_Check_r6)
  (.seq (.reg spot_Check_r7)
  (.cond (tZ 19) (.seq (.reg spot_Check_r8)
  .ret) .skip)))
  (.seq (.reg spot_Check_r9)
  (.block 2 (.loop (.seq (.reg spot_Check_r10)
  (.seq (.cond (tZ 23) .skip (.exit 2))
  (.seq (.block 3 (.seq (.reg spot_Check_r11)
  (.seq (.regd spot_Check_r12 spot_Check_a12)
  (.cond (tZ 35) (.seq (.reg spot_Check_r13)
  .ret) .skip))))
  (.reg spot_Check_r14))))))))))
  (.reg spot_Check_r15)))))))
  (.seq (.reg spot_Check_r16)
  .ret)))), [.tmp 2]⟩
theorem spot_Check_s : slimF Try.prog 44 = some spot_Check_c := by kernel_rfl
abbrev spot_Check_f : Nat := 44
/-- printworks/spot.one -/
def spot_one_r0 : List SO := [rZ 2 (.assign (ciZ 0))]
def spot_one_r1 : List SO := [mvZ 6 0, rZ 7 (.nilCheck (tZ 6)), faZ 8 48 7 0, ldZ 9 9 8, rZ 10 (.call ⟨(.value (.func (72 : Nat))), #[(tZ 9)], #[9]⟩), rZ 11 (.unOp .not 4 (tZ 10))]
def spot_one_r2 : List SO := [rZ 2 (.assign (ciZ 6))]
def spot_one_r3 : List SO := [mvZ 12 0, rZ 13 (.nilCheck (tZ 12)), faZ 14 48 13 1, ldZ 15 43 14, rZ 16 (.call ⟨(.value (.func (61 : Nat))), #[(tZ 15)], #[43]⟩), asZ 3 16]
def spot_one_r4 : List SO := [mvZ 17 3, bcZ 18 .neq 33 17 0 33]
def spot_one_r5 : List SO := [mvZ 19 3, asZ 2 19]
def spot_one_r6 : List SO := [mvZ 20 0, rZ 21 (.nilCheck (tZ 20)), faZ 22 48 21 2, ldZ 23 43 22, rZ 24 (.call ⟨(.value (.func (61 : Nat))), #[(tZ 23)], #[43]⟩), asZ 4 24]
def spot_one_r7 : List SO := [mvZ 25 4, bcZ 26 .neq 33 25 0 33]
def spot_one_r8 : List SO := [mvZ 27 4, asZ 2 27]
def spot_one_r9 : List SO := [mvZ 28 0, rZ 29 (.nilCheck (tZ 28)), faZ 30 48 29 3, ldZ 31 46 30, rZ 32 (.call ⟨(.value (.func (66 : Nat))), #[(tZ 31)], #[46]⟩), asZ 5 32]
def spot_one_r10 : List SO := [mvZ 33 5, bcZ 34 .neq 33 33 0 33]
def spot_one_r11 : List SO := [mvZ 35 5, asZ 2 35]
def spot_one_r12 : List SO := [mvZ 36 0, rZ 37 (.nilCheck (tZ 36)), faZ 38 48 37 4, ldZ 39 23 38, rZ 40 (.call ⟨(.builtin .len), #[(tZ 39)], #[23]⟩), bcZ 41 .gtr 3 40 8 3]
def spot_one_r13 : List SO := [rZ 2 (.assign (ciZ 2))]
def spot_one_r14 : List SO := [mvZ 42 0, rZ 43 (.nilCheck (tZ 42)), faZ 44 48 43 4, ldZ 45 23 44, mvZ 46 0, rZ 47 (.nilCheck (tZ 46)), faZ 48 48 47 4, ldZ 49 23 48, rZ 50 (.call ⟨(.builtin .len), #[(tZ 49)], #[23]⟩), rZ 51 (.call ⟨(.value (.func (48 : Nat))), #[(tZ 45), (tZ 50)], #[23, 3]⟩), asZ 2 51]
def spot_one_a14 : List (List Nat) := [[], [0], [1], [2], [], [4], [5], [6], [7], [3, 8], [9, 9, 0, 1, 2, 3, 4, 5, 6, 7, 8, 9]]
def spot_one_c : SF := ⟨52, (.seq (.reg spot_one_r0)
  (.seq (.seq (.reg spot_one_r1)
  (.cond (tZ 11) (.seq (.reg spot_one_r2)
  .ret) .skip))
  (.seq (.seq (.reg spot_one_r3)
  (.seq (.reg spot_one_r4)
  (.cond (tZ 18) (.seq (.reg spot_one_r5)
  .ret) .skip)))
  (.seq (.seq (.reg spot_one_r6)
  (.seq (.reg spot_one_r7)
  (.cond (tZ 26) (.seq (.reg spot_one_r8)
  .ret) .skip)))
  (.seq (.seq (.reg spot_one_r9)
  (.seq (.reg spot_one_r10)
  (.cond (tZ 34) (.seq (.reg spot_one_r11)
  .ret) .skip)))
  (.seq (.seq (.reg spot_one_r12)
  (.cond (tZ 41) (.seq (.reg spot_one_r13)
  .ret) .skip))
  (.seq (.regd spot_one_r14 spot_one_a14)
  .ret))))))), [.tmp 2]⟩
theorem spot_one_s : slimF Try.prog 46 = some spot_one_c := by kernel_rfl
abbrev spot_one_f : Nat := 46

def tbl_spot : List (Nat × SF) := [(17, spot_Process_c), (40, spot_Quick_c), (44, spot_Check_c), (46, spot_one_c)]
theorem tbl_spot_ok : okT Try.prog tbl_spot := ⟨spot_Process_s, spot_Quick_s, spot_Check_s, spot_one_s, trivial⟩

end Go.Proofs.Ytogbkhopanaoiaa
namespace Go.Proofs.Ytogbkhopanaoiaa
open Go Go.Lite
set_option linter.unusedVariables false

/-- printworks/condition.Gray -/
def condition_Gray_r0 : List SO := [rZ 2 (.box 28 (tZ 0)), rZ 4 (.alloc 32), rZ 5 (.assign (ciZ 0))]
def condition_Gray_r1 : List SO := [ldZ 7 28 2, rZ 8 (.call ⟨(.value (.func (15 : Nat))), #[(tZ 7)], #[28]⟩), asZ 6 8]
def condition_Gray_r2 : List SO := [mvZ 9 6, bcZ 10 .neq 33 9 0 33]
def condition_Gray_r3 : List SO := [rZ 11 (.build 32 #[]), mvZ 12 6, stZ 32 4 11, asZ 5 12]
def condition_Gray_r4 : List SO := [faZ 13 28 2 3, mvZ 14 1, rZ 15 (.buildSlice 71 1 #[(0, (tZ 14))]), rZ 16 (.call ⟨(.value (.func (37 : Nat))), #[(tZ 2), (tZ 13), (tZ 15)], #[81, 82, 71]⟩), stZ 32 4 16, rZ 5 (.assign (ciZ 0))]
def condition_Gray_c : SF := ⟨17, (.seq (.reg condition_Gray_r0)
  (.seq (.seq (.reg condition_Gray_r1)
  (.seq (.reg condition_Gray_r2)
  (.cond (tZ 10) (.seq (.reg condition_Gray_r3)
  .ret) .skip)))
  (.seq (.reg condition_Gray_r4)
  .ret))), [.cell 4 32, .tmp 5]⟩
theorem condition_Gray_s : slimF Try.prog 11 = some condition_Gray_c := by kernel_rfl
abbrev condition_Gray_f : Nat := 11
/-- printworks/condition.RGB -/
def condition_RGB_r0 : List SO := [rZ 4 (.box 28 (tZ 0)), rZ 8 (.alloc 32), rZ 9 (.assign (ciZ 0))]
def condition_RGB_r1 : List SO := [ldZ 11 28 4, rZ 12 (.call ⟨(.value (.func (15 : Nat))), #[(tZ 11)], #[28]⟩), asZ 10 12]
def condition_RGB_r2 : List SO := [mvZ 13 10, bcZ 14 .neq 33 13 0 33]
def condition_RGB_r3 : List SO := [rZ 15 (.build 32 #[]), mvZ 16 10, stZ 32 8 15, asZ 9 16]
def condition_RGB_r4 : List SO := [faZ 17 28 4 4, mvZ 18 1, mvZ 19 2, mvZ 20 3, rZ 21 (.buildSlice 71 3 #[(0, (tZ 18)), (1, (tZ 19)), (2, (tZ 20))]), rZ 22 (.call ⟨(.value (.func (37 : Nat))), #[(tZ 4), (tZ 17), (tZ 21)], #[81, 82, 71]⟩), stZ 32 8 22, rZ 9 (.assign (ciZ 0))]
def condition_RGB_c : SF := ⟨23, (.seq (.reg condition_RGB_r0)
  (.seq (.seq (.reg condition_RGB_r1)
  (.seq (.reg condition_RGB_r2)
  (.cond (tZ 14) (.seq (.reg condition_RGB_r3)
  .ret) .skip)))
  (.seq (.reg condition_RGB_r4)
  .ret))), [.cell 8 32, .tmp 9]⟩
theorem condition_RGB_s : slimF Try.prog 12 = some condition_RGB_c := by kernel_rfl
abbrev condition_RGB_f : Nat := 12
/-- printworks/condition.Process -/
def condition_Process_r0 : List SO := [rZ 2 (.box 28 (tZ 0)), rZ 3 (.box 29 (tZ 1)), rZ 4 (.alloc 32), rZ 5 (.assign (ciZ 0))]
def condition_Process_r1 : List SO := [ldZ 10 28 2, rZ 11 (.call ⟨(.value (.func (15 : Nat))), #[(tZ 10)], #[28]⟩), asZ 6 11]
def condition_Process_r2 : List SO := [mvZ 12 6, bcZ 13 .neq 33 12 0 33]
def condition_Process_r3 : List SO := [rZ 14 (.build 32 #[]), mvZ 15 6, stZ 32 4 14, asZ 5 15]
def condition_Process_r4 : List SO := [faZ 16 28 2 1, ldZ 17 23 16, rZ 18 (.call ⟨(.builtin .len), #[(tZ 17)], #[23]⟩), bcZ 19 .eql 3 18 0 3]
def condition_Process_r5 : List SO := [rZ 20 (.build 32 #[]), stZ 32 4 20, rZ 5 (.assign (ciZ 8))]
def condition_Process_r6 : List SO := [rZ 21 (.makeSlice 23 (ciZ 4) (ciZ 4)), asZ 7 21]
def condition_Process_r7 : List SO := [ldZ 22 29 3, rZ 23 (.move (ciZ 0))]
def condition_Process_r8 : List SO := [bcZ 24 .lss 3 23 4 3]
def condition_Process_r9 : List SO := [mvZ 25 23, rZ 26 (.index 29 (tZ 22) (tZ 23)), asZ 8 25, asZ 9 26]
def condition_Process_r10 : List SO := [mvZ 27 7, mvZ 28 8, mvZ 29 9, rZ 30 (.convert 5 3 (tZ 29)), iaZ 31 23 27 28, stZ 3 31 30]
def condition_Process_r11 : List SO := [bcZ 32 .add 3 23 1 3, mvZ 23 32]
def condition_Process_r12 : List SO := [mvZ 33 7, rZ 34 (.call ⟨(.value (.func (38 : Nat))), #[(tZ 2), (tZ 33)], #[81, 23]⟩), stZ 32 4 34, rZ 5 (.assign (ciZ 0))]
def condition_Process_c : SF := ⟨35, (.seq (.reg condition_Process_r0)
  (.seq (.seq (.reg condition_Process_r1)
  (.seq (.reg condition_Process_r2)
  (.cond (tZ 13) (.seq (.reg condition_Process_r3)
  .ret) .skip)))
  (.seq (.seq (.reg condition_Process_r4)
  (.cond (tZ 19) (.seq (.reg condition_Process_r5)
  .ret) .skip))
  (.seq (.reg condition_Process_r6)
  (.seq (.seq (.reg condition_Process_r7)
  (.block 0 (.loop (.seq (.reg condition_Process_r8)
  (.seq (.cond (tZ 24) .skip (.exit 0))
  (.seq (.block 1 (.seq (.reg condition_Process_r9)
  (.reg condition_Process_r10)))
  (.reg condition_Process_r11)))))))
  (.seq (.reg condition_Process_r12)
  .ret)))))), [.cell 4 32, .tmp 5]⟩
theorem condition_Process_s : slimF Try.prog 13 = some condition_Process_c := by kernel_rfl
abbrev condition_Process_f : Nat := 13
/-- printworks/condition.Spot -/
def condition_Spot_r0 : List SO := [rZ 3 (.box 28 (tZ 0)), rZ 6 (.alloc 32), rZ 7 (.assign (ciZ 0))]
def condition_Spot_r1 : List SO := [ldZ 13 28 3, rZ 14 (.call ⟨(.value (.func (15 : Nat))), #[(tZ 13)], #[28]⟩), asZ 8 14]
def condition_Spot_r2 : List SO := [mvZ 15 8, bcZ 16 .neq 33 15 0 33]
def condition_Spot_r3 : List SO := [rZ 17 (.build 32 #[]), mvZ 18 8, stZ 32 6 17, asZ 7 18]
def condition_Spot_r4 : List SO := [faZ 19 28 3 0, ldZ 20 22 19, rZ 21 (.call ⟨(.builtin .len), #[(tZ 20)], #[22]⟩), rZ 22 (.move (ciZ 0))]
def condition_Spot_r5 : List SO := [boZ 23 .lss 3 22 21 3]
def condition_Spot_r6 : List SO := [mvZ 24 22, iaZ 25 22 20 22, ldZ 26 9 25, asZ 9 24, asZ 10 26]
def condition_Spot_r7 : List SO := [mvZ 27 10, mvZ 28 1, boZ 29 .eql 9 27 28 9]
def condition_Spot_r8 : List SO := [faZ 30 28 3 0, ldZ 31 22 30, rZ 32 (.call ⟨(.builtin .len), #[(tZ 31)], #[22]⟩), rZ 33 (.makeSlice 23 (tZ 32) (tZ 32)), asZ 11 33]
def condition_Spot_r9 : List SO := [mvZ 34 11, mvZ 35 9, mvZ 36 2, rZ 37 (.convert 5 3 (tZ 36)), iaZ 38 23 34 35, stZ 3 38 37]
def condition_Spot_r10 : List SO := [mvZ 39 11, rZ 40 (.call ⟨(.value (.func (39 : Nat))), #[(tZ 3), (tZ 39)], #[81, 23]⟩), stZ 32 6 40, rZ 7 (.assign (ciZ 0))]
def condition_Spot_r11 : List SO := [bcZ 41 .add 3 22 1 3, mvZ 22 41]
def condition_Spot_r12 : List SO := [faZ 42 28 3 5, ldZ 43 26 42, rZ 44 (.call ⟨(.builtin .len), #[(tZ 43)], #[26]⟩), rZ 45 (.move (ciZ 0))]
def condition_Spot_r13 : List SO := [boZ 46 .lss 3 45 44 3]
def condition_Spot_r14 : List SO := [mvZ 47 45, asZ 12 47]
def condition_Spot_r15 : List SO := [faZ 48 28 3 5, ldZ 49 26 48, mvZ 50 12, iaZ 51 26 49 50, faZ 52 48 51 0, ldZ 53 9 52, mvZ 54 1, boZ 55 .eql 9 53 54 9]
def condition_Spot_r16 : List SO := [faZ 56 28 3 5, ldZ 57 26 56, mvZ 58 12, iaZ 59 26 57 58, mvZ 60 2, rZ 61 (.convert 5 3 (tZ 60)), rZ 62 (.call ⟨(.value (.func (40 : Nat))), #[(tZ 59), (tZ 61)], #[85, 3]⟩), rZ 63 (.call ⟨(.value (.func (38 : Nat))), #[(tZ 3), (tZ 62)], #[81, 23]⟩), stZ 32 6 63, rZ 7 (.assign (ciZ 0))]
def condition_Spot_r17 : List SO := [bcZ 64 .add 3 45 1 3, mvZ 45 64]
def condition_Spot_r18 : List SO := [rZ 65 (.build 32 #[]), stZ 32 6 65, rZ 7 (.assign (ciZ 6))]
def condition_Spot_c : SF := ⟨66, (.seq (.reg condition_Spot_r0)
  (.seq (.seq (.reg condition_Spot_r1)
  (.seq (.reg condition_Spot_r2)
  (.cond (tZ 16) (.seq (.reg condition_Spot_r3)
  .ret) .skip)))
  (.seq (.seq (.reg condition_Spot_r4)
  (.block 0 (.loop (.seq (.reg condition_Spot_r5)
  (.seq (.cond (tZ 23) .skip (.exit 0))
  (.seq (.block 1 (.seq (.reg condition_Spot_r6)
  (.seq (.reg condition_Spot_r7)
  (.cond (tZ 29) (.seq (.reg condition_Spot_r8)
  (.seq (.reg condition_Spot_r9)
  (.seq (.reg condition_Spot_r10)
  .ret))) .skip))))
  (.reg condition_Spot_r11)))))))
  (.seq (.seq (.reg condition_Spot_r12)
  (.block 2 (.loop (.seq (.reg condition_Spot_r13)
  (.seq (.cond (tZ 46) .skip (.exit 2))
  (.seq (.block 3 (.seq (.reg condition_Spot_r14)
  (.seq (.reg condition_Spot_r15)
  (.cond (tZ 55) (.seq (.reg condition_Spot_r16)
  .ret) .skip))))
  (.reg condition_Spot_r17)))))))
  (.seq (.reg condition_Spot_r18)
  .ret))))), [.cell 6 32, .tmp 7]⟩
theorem condition_Spot_s : slimF Try.prog 14 = some condition_Spot_c := by kernel_rfl
abbrev condition_Spot_f : Nat := 14
/-- printworks/condition.Check -/
def condition_Check_r0 : List SO := [rZ 1 (.box 28 (tZ 0)), rZ 2 (.assign (ciZ 0))]
def condition_Check_r1 : List SO := [faZ 12 28 1 0, ldZ 13 22 12, rZ 14 (.call ⟨(.builtin .len), #[(tZ 13)], #[22]⟩), asZ 3 14]
def condition_Check_r2 : List SO := [mvZ 16 3, bcZ 17 .gtr 3 16 8 3, asZ 15 17]
def condition_Check_r3 : List SO := [rZ 2 (.assign (ciZ 2))]
def condition_Check_r4 : List SO := [mvZ 19 3, bcZ 20 .eql 3 19 0 3, asZ 18 20]
def condition_Check_r5 : List SO := [rZ 2 (.assign (ciZ 1))]
def condition_Check_r6 : List SO := [faZ 21 28 1 0, ldZ 22 22 21, rZ 23 (.call ⟨(.value (.func (41 : Nat))), #[(tZ 22)], #[22]⟩), asZ 4 23]
def condition_Check_r7 : List SO := [mvZ 24 4, bcZ 25 .neq 33 24 0 33]
def condition_Check_r8 : List SO := [mvZ 26 4, asZ 2 26]
def condition_Check_r9 : List SO := [faZ 27 28 1 1, ldZ 28 23 27, rZ 29 (.call ⟨(.builtin .len), #[(tZ 28)], #[23]⟩), bcZ 30 .neq 3 29 0 3, mvZ 31 30, gZ 31 true (faZ 32 28 1 1), gZ 31 true (ldZ 33 23 32), gZ 31 true (rZ 34 (.call ⟨(.builtin .len), #[(tZ 33)], #[23]⟩)), gZ 31 true (bcZ 35 .neq 3 34 4 3), rZ 36 (.pick (tZ 31) (tZ 35) (.const (.bool false))), mvZ 37 36, gZ 37 false (faZ 38 28 1 2), gZ 37 false (ldZ 39 23 38), gZ 37 false (rZ 40 (.call ⟨(.builtin .len), #[(tZ 39)], #[23]⟩)), gZ 37 false (mvZ 41 3), gZ 37 false (boZ 42 .neq 3 40 41 3), rZ 43 (.pick (tZ 37) (.const (.bool true)) (tZ 42))]
def condition_Check_r10 : List SO := [rZ 2 (.assign (ciZ 4))]
def condition_Check_r11 : List SO := [faZ 44 28 1 1, ldZ 45 23 44, mvZ 46 3, rZ 47 (.call ⟨(.value (.func (42 : Nat))), #[(tZ 45), (tZ 46)], #[23, 3]⟩), asZ 5 47]
def condition_Check_r12 : List SO := [mvZ 48 5, bcZ 49 .neq 33 48 0 33]
def condition_Check_r13 : List SO := [mvZ 50 5, asZ 2 50]
def condition_Check_r14 : List SO := [faZ 51 28 1 2, ldZ 52 23 51, mvZ 53 3, rZ 54 (.call ⟨(.value (.func (42 : Nat))), #[(tZ 52), (tZ 53)], #[23, 3]⟩), asZ 6 54]
def condition_Check_r15 : List SO := [mvZ 55 6, bcZ 56 .neq 33 55 0 33]
def condition_Check_r16 : List SO := [mvZ 57 6, asZ 2 57]
def condition_Check_r17 : List SO := [faZ 58 28 1 3, ldZ 59 25 58, mvZ 60 3, rZ 61 (.call ⟨(.value (.func (43 : Nat))), #[(tZ 59), (ciZ 1), (tZ 60)], #[25, 3, 3]⟩), asZ 7 61]
def condition_Check_r18 : List SO := [mvZ 62 7, bcZ 63 .neq 33 62 0 33]
def condition_Check_r19 : List SO := [mvZ 64 7, asZ 2 64]
def condition_Check_r20 : List SO := [faZ 65 28 1 4, ldZ 66 25 65, mvZ 67 3, rZ 68 (.call ⟨(.value (.func (43 : Nat))), #[(tZ 66), (ciZ 3), (tZ 67)], #[25, 3, 3]⟩), asZ 8 68]
def condition_Check_r21 : List SO := [mvZ 69 8, bcZ 70 .neq 33 69 0 33]
def condition_Check_r22 : List SO := [mvZ 71 8, asZ 2 71]
def condition_Check_r23 : List SO := [faZ 72 28 1 5, ldZ 73 26 72, rZ 74 (.call ⟨(.value (.func (44 : Nat))), #[(tZ 73)], #[26]⟩), asZ 9 74]
def condition_Check_r24 : List SO := [mvZ 75 9, bcZ 76 .neq 33 75 0 33]
def condition_Check_r25 : List SO := [mvZ 77 9, asZ 2 77]
def condition_Check_r26 : List SO := [faZ 78 28 1 5, ldZ 79 26 78, rZ 80 (.call ⟨(.builtin .len), #[(tZ 79)], #[26]⟩), rZ 81 (.move (ciZ 0))]
def condition_Check_r27 : List SO := [boZ 82 .lss 3 81 80 3]
def condition_Check_r28 : List SO := [iaZ 83 26 79 81, ldZ 84 48 83, rZ 11 (.alloc 48), stZ 48 11 84]
def condition_Check_r29 : List SO := [faZ 85 48 11 4, ldZ 86 23 85, rZ 87 (.call ⟨(.builtin .len), #[(tZ 86)], #[23]⟩), bcZ 88 .neq 3 87 4 3, mvZ 89 88, gZ 89 false (faZ 90 28 1 1), gZ 89 false (ldZ 91 23 90), gZ 89 false (rZ 92 (.call ⟨(.builtin .len), #[(tZ 91)], #[23]⟩)), gZ 89 false (bcZ 93 .neq 3 92 4 3), rZ 94 (.pick (tZ 89) (.const (.bool true)) (tZ 93))]
def condition_Check_r30 : List SO := [rZ 2 (.assign (ciZ 4))]
def condition_Check_r31 : List SO := [bcZ 95 .add 3 81 1 3, mvZ 81 95]
def condition_Check_r32 : List SO := [faZ 96 28 1 6, ldZ 97 3 96, bcZ 98 .lss 3 97 0 3, mvZ 99 98, gZ 99 false (faZ 100 28 1 6), gZ 99 false (ldZ 101 3 100), gZ 99 false (bcZ 102 .gtr 3 101 2040 3), rZ 103 (.pick (tZ 99) (.const (.bool true)) (tZ 102))]
def condition_Check_r33 : List SO := [rZ 2 (.assign (ciZ 3))]
def condition_Check_r34 : List SO := [rZ 2 (.assign (ciZ 0))]
def condition_Check_c : SF := ⟨104, (.seq (.reg condition_Check_r0)
  (.seq (.reg condition_Check_r1)
  (.seq (.block 0 (.seq (.reg condition_Check_r2)
  (.cond (tZ 15) (.seq (.reg condition_Check_r3)
  .ret) (.seq (.reg condition_Check_r4)
  (.cond (tZ 18) (.seq (.reg condition_Check_r5)
  .ret) .skip)))))
  (.seq (.seq (.reg condition_Check_r6)
  (.seq (.reg condition_Check_r7)
  (.cond (tZ 25) (.seq (.reg condition_Check_r8)
  .ret) .skip)))
  (.seq (.seq (.reg condition_Check_r9)
  (.cond (tZ 43) (.seq (.reg condition_Check_r10)
  .ret) .skip))
  (.seq (.seq (.reg condition_Check_r11)
  (.seq (.reg condition_Check_r12)
  (.cond (tZ 49) (.seq (.reg condition_Check_r13)
  .ret) .skip)))
  (.seq (.seq (.reg condition_Check_r14)
  (.seq (.reg condition_Check_r15)
  (.cond (tZ 56) (.seq (.reg condition_Check_r16)
  .ret) .skip)))
  (.seq (.seq (.reg condition_Check_r17)
  (.seq (.reg condition_Check_r18)
  (.cond (tZ 63) (.seq (.reg condition_Check_r19)
  .ret) .skip)))
  (.seq (.seq (.reg condition_Check_r20)
  (.seq (.reg condition_Check_r21)
  (.cond (tZ 70) (.seq (.reg condition_Check_r22)
  .ret) .skip)))
  (.seq (.seq (.reg condition_Check_r23)
  (.seq (.reg condition_Check_r24)
  (.cond (tZ 76) (.seq (.reg condition_Check_r25)
  .ret) .skip)))
  (.seq (.seq (.reg condition_Check_r26)
  (.block 1 (.loop (.seq (.reg condition_Check_r27)
  (.seq (.cond (tZ 82) .skip (.exit 1))
  (.seq (.block 2 (.seq (.reg condition_Check_r28)
  (.seq (.reg condition_Check_r29)
  (.cond (tZ 94) (.seq (.reg condition_Check_r30)
  .ret) .skip))))
  (.reg condition_Check_r31)))))))
  (.seq (.seq (.reg condition_Check_r32)
  (.cond (tZ 103) (.seq (.reg condition_Check_r33)
  .ret) .skip))
  (.seq (.reg condition_Check_r34)
  .ret))))))))))))), [.tmp 2]⟩
theorem condition_Check_s : slimF Try.prog 15 = some condition_Check_c := by kernel_rfl
abbrev condition_Check_f : Nat := 15
/-- printworks/condition.from -/
def condition_from_r0 : List SO := [rZ 6 (.alloc 32)]
def condition_from_r1 : List SO := [mvZ 10 2, rZ 11 (.call ⟨(.builtin .len), #[(tZ 10)], #[71]⟩), rZ 12 (.makeSlice 23 (tZ 11) (tZ 11)), asZ 7 12]
def condition_from_r2 : List SO := [mvZ 13 2, rZ 14 (.call ⟨(.builtin .len), #[(tZ 13)], #[71]⟩), rZ 15 (.move (ciZ 0))]
def condition_from_r3 : List SO := [boZ 16 .lss 3 15 14 3]
def condition_from_r4 : List SO := [mvZ 17 15, iaZ 18 71 13 15, ldZ 19 5 18, asZ 8 17, asZ 9 19]
def condition_from_r5 : List SO := [mvZ 20 7, mvZ 21 8, mvZ 22 9, rZ 23 (.convert 5 3 (tZ 22)), iaZ 24 23 20 21, stZ 3 24 23]
def condition_from_r6 : List SO := [bcZ 25 .add 3 15 1 3, mvZ 15 25]
def condition_from_r7 : List SO := [mvZ 26 0, mvZ 27 1, mvZ 28 7, rZ 29 (.call ⟨(.value (.func (49 : Nat))), #[(tZ 27), (tZ 28)], #[82, 23]⟩), rZ 30 (.call ⟨(.value (.func (39 : Nat))), #[(tZ 26), (tZ 29)], #[81, 23]⟩), stZ 32 6 30]
def condition_from_c : SF := ⟨31, (.seq (.reg condition_from_r0)
  (.seq (.reg condition_from_r1)
  (.seq (.seq (.reg condition_from_r2)
  (.block 0 (.loop (.seq (.reg condition_from_r3)
  (.seq (.cond (tZ 16) .skip (.exit 0))
  (.seq (.block 1 (.seq (.reg condition_from_r4)
  (.reg condition_from_r5)))
  (.reg condition_from_r6)))))))
  (.seq (.reg condition_from_r7)
  .ret)))), [.cell 6 32]⟩
theorem condition_from_s : slimF Try.prog 37 = some condition_from_c := by kernel_rfl
abbrev condition_from_f : Nat := 37
/-- printworks/condition.placed -/
def condition_placed_r0 : List SO := [rZ 4 (.alloc 32)]
def condition_placed_r1 : List SO := [mvZ 8 0, rZ 9 (.nilCheck (tZ 8)), faZ 10 28 9 0, ldZ 11 22 10, rZ 12 (.call ⟨(.builtin .len), #[(tZ 11)], #[22]⟩), rZ 13 (.makeSlice 23 (tZ 12) (tZ 12)), asZ 5 13]
def condition_placed_r2 : List SO := [mvZ 14 1, rZ 15 (.call ⟨(.builtin .len), #[(tZ 14)], #[23]⟩), rZ 16 (.move (ciZ 0))]
def condition_placed_r3 : List SO := [boZ 17 .lss 3 16 15 3]
def condition_placed_r4 : List SO := [mvZ 18 16, iaZ 19 23 14 16, ldZ 20 3 19, asZ 6 18, asZ 7 20]
def condition_placed_r5 : List SO := [mvZ 21 5, mvZ 22 0, rZ 23 (.nilCheck (tZ 22)), faZ 24 28 23 1, ldZ 25 23 24, mvZ 26 6, iaZ 27 23 25 26, ldZ 28 3 27, mvZ 29 7, iaZ 30 23 21 28, stZ 3 30 29]
def condition_placed_r6 : List SO := [bcZ 31 .add 3 16 1 3, mvZ 16 31]
def condition_placed_r7 : List SO := [mvZ 32 0, mvZ 33 5, rZ 34 (.call ⟨(.value (.func (39 : Nat))), #[(tZ 32), (tZ 33)], #[81, 23]⟩), stZ 32 4 34]
def condition_placed_c : SF := ⟨35, (.seq (.reg condition_placed_r0)
  (.seq (.reg condition_placed_r1)
  (.seq (.seq (.reg condition_placed_r2)
  (.block 0 (.loop (.seq (.reg condition_placed_r3)
  (.seq (.cond (tZ 17) .skip (.exit 0))
  (.seq (.block 1 (.seq (.reg condition_placed_r4)
  (.reg condition_placed_r5)))
  (.reg condition_placed_r6)))))))
  (.seq (.reg condition_placed_r7)
  .ret)))), [.cell 4 32]⟩
theorem condition_placed_s : slimF Try.prog 38 = some condition_placed_c := by kernel_rfl
abbrev condition_placed_f : Nat := 38
/-- printworks/condition.limited -/
def condition_limited_r0 : List SO := [rZ 4 (.alloc 32)]
def condition_limited_r1 : List SO := [rZ 5 (.assign (.const (.int .i64 (-1))))]
def condition_limited_r2 : List SO := [mvZ 9 0, rZ 10 (.nilCheck (tZ 9)), faZ 11 28 10 1, ldZ 12 23 11, rZ 13 (.call ⟨(.builtin .len), #[(tZ 12)], #[23]⟩), bcZ 14 .eql 3 13 4 3]
def condition_limited_r3 : List SO := [mvZ 15 0, rZ 16 (.nilCheck (tZ 15)), faZ 17 28 16 1, ldZ 18 23 17, rZ 19 (.indexAddr 23 (tZ 18) (ciZ 3)), ldZ 20 3 19, asZ 5 20]
def condition_limited_r4 : List SO := [rZ 6 (.alloc 32)]
def condition_limited_r5 : List SO := [mvZ 21 1, mvZ 22 5, mvZ 23 0, rZ 24 (.nilCheck (tZ 23)), faZ 25 28 24 6, ldZ 26 3 25, rZ 27 (.call ⟨(.value (.func (51 : Nat))), #[(tZ 21), (tZ 22), (tZ 26)], #[23, 3, 3]⟩), rZ 28 (.call ⟨(.builtin .len), #[(tZ 27)], #[23]⟩), rZ 29 (.move (ciZ 0))]
def condition_limited_r6 : List SO := [boZ 30 .lss 3 29 28 3]
def condition_limited_r7 : List SO := [mvZ 31 29, iaZ 32 23 27 29, ldZ 33 3 32, asZ 7 31, asZ 8 33]
def condition_limited_r8 : List SO := [mvZ 34 7, mvZ 35 8, rZ 36 (.convert 3 5 (tZ 35)), iaZ 37 32 6 34, stZ 5 37 36]
def condition_limited_r9 : List SO := [bcZ 38 .add 3 29 1 3, mvZ 29 38]
def condition_limited_r10 : List SO := [ldZ 39 32 6, stZ 32 4 39]
def condition_limited_c : SF := ⟨40, (.seq (.reg condition_limited_r0)
  (.seq (.reg condition_limited_r1)
  (.seq (.seq (.reg condition_limited_r2)
  (.cond (tZ 14) (.reg condition_limited_r3) .skip))
  (.seq (.reg condition_limited_r4)
  (.seq (.seq (.reg condition_limited_r5)
  (.block 0 (.loop (.seq (.reg condition_limited_r6)
  (.seq (.cond (tZ 30) .skip (.exit 0))
  (.seq (.block 1 (.seq (.reg condition_limited_r7)
  (.reg condition_limited_r8)))
  (.reg condition_limited_r9)))))))
  (.seq (.reg condition_limited_r10)
  .ret)))))), [.cell 4 32]⟩
theorem condition_limited_s : slimF Try.prog 39 = some condition_limited_c := by kernel_rfl
abbrev condition_limited_f : Nat := 39
/-- printworks/condition.distinct -/
def condition_distinct_r0 : List SO := [rZ 4 (.assign (ciZ 0))]
def condition_distinct_r1 : List SO := [mvZ 9 0, rZ 10 (.call ⟨(.builtin .len), #[(tZ 9)], #[23]⟩), rZ 11 (.move (ciZ 0))]
def condition_distinct_r2 : List SO := [boZ 12 .lss 3 11 10 3]
def condition_distinct_r3 : List SO := [mvZ 13 11, iaZ 14 23 9 11, ldZ 15 3 14, asZ 5 13, asZ 6 15]
def condition_distinct_r4 : List SO := [mvZ 16 6, bcZ 17 .lss 3 16 0 3, mvZ 18 17, gZ 18 false (mvZ 19 6), gZ 18 false (mvZ 20 1), gZ 18 false (boZ 21 .geq 3 19 20 3), rZ 22 (.pick (tZ 18) (.const (.bool true)) (tZ 21))]
def condition_distinct_r5 : List SO := [rZ 4 (.assign (ciZ 3))]
def condition_distinct_r6 : List SO := [mvZ 23 0, mvZ 24 5, rZ 25 (.slice 23 (tZ 23) none (some (tZ 24)) none), rZ 26 (.call ⟨(.builtin .len), #[(tZ 25)], #[23]⟩), rZ 27 (.move (ciZ 0))]
def condition_distinct_r7 : List SO := [boZ 28 .lss 3 27 26 3]
def condition_distinct_r8 : List SO := [iaZ 29 23 25 27, ldZ 30 3 29, asZ 8 30]
def condition_distinct_r9 : List SO := [mvZ 31 8, mvZ 32 6, boZ 33 .eql 3 31 32 3]
def condition_distinct_r10 : List SO := [rZ 4 (.assign (ciZ 7))]
def condition_distinct_r11 : List SO := [bcZ 34 .add 3 27 1 3, mvZ 27 34]
def condition_distinct_r12 : List SO := [bcZ 35 .add 3 11 1 3, mvZ 11 35]
def condition_distinct_r13 : List SO := [rZ 4 (.assign (ciZ 0))]
def condition_distinct_c : SF := ⟨36, (.seq (.reg condition_distinct_r0)
  (.seq (.seq (.reg condition_distinct_r1)
  (.block 0 (.loop (.seq (.reg condition_distinct_r2)
  (.seq (.cond (tZ 12) .skip (.exit 0))
  (.seq (.block 1 (.seq (.reg condition_distinct_r3)
  (.seq (.seq (.reg condition_distinct_r4)
  (.cond (tZ 22) (.seq (.reg condition_distinct_r5)
  .ret) .skip))
  (.seq (.reg condition_distinct_r6)
  (.block 2 (.loop (.seq (.reg condition_distinct_r7)
  (.seq (.cond (tZ 28) .skip (.exit 2))
  (.seq (.block 3 (.seq (.reg condition_distinct_r8)
  (.seq (.reg condition_distinct_r9)
  (.cond (tZ 33) (.seq (.reg condition_distinct_r10)
  .ret) .skip))))
  (.reg condition_distinct_r11))))))))))
  (.reg condition_distinct_r12)))))))
  (.seq (.reg condition_distinct_r13)
  .ret))), [.tmp 4]⟩
theorem condition_distinct_s : slimF Try.prog 42 = some condition_distinct_c := by kernel_rfl
abbrev condition_distinct_f : Nat := 42
/-- printworks/condition.table -/
def condition_table_r0 : List SO := [rZ 3 (.box 25 (tZ 0)), rZ 6 (.assign (ciZ 0))]
def condition_table_r1 : List SO := [ldZ 8 25 3, rZ 9 (.call ⟨(.value (.func (47 : Nat))), #[(tZ 8)], #[25]⟩), asZ 7 9]
def condition_table_r2 : List SO := [mvZ 10 7, bcZ 11 .neq 33 10 0 33]
def condition_table_r3 : List SO := [mvZ 12 7, asZ 6 12]
def condition_table_r4 : List SO := [faZ 13 25 3 0, ldZ 14 3 13, mvZ 15 1, boZ 16 .neq 3 14 15 3, mvZ 17 16, gZ 17 false (faZ 18 25 3 1), gZ 17 false (ldZ 19 3 18), gZ 17 false (mvZ 20 2), gZ 17 false (boZ 21 .neq 3 19 20 3), rZ 22 (.pick (tZ 17) (.const (.bool true)) (tZ 21))]
def condition_table_r5 : List SO := [rZ 6 (.assign (ciZ 4))]
def condition_table_r6 : List SO := [rZ 6 (.assign (ciZ 0))]
def condition_table_c : SF := ⟨23, (.seq (.reg condition_table_r0)
  (.seq (.seq (.reg condition_table_r1)
  (.seq (.reg condition_table_r2)
  (.cond (tZ 11) (.seq (.reg condition_table_r3)
  .ret) .skip)))
  (.seq (.seq (.reg condition_table_r4)
  (.cond (tZ 22) (.seq (.reg condition_table_r5)
  .ret) .skip))
  (.seq (.reg condition_table_r6)
  .ret)))), [.tmp 6]⟩
theorem condition_table_s : slimF Try.prog 43 = some condition_table_c := by kernel_rfl
abbrev condition_table_f : Nat := 43

def tbl_condition : List (Nat × SF) := [(11, condition_Gray_c), (12, condition_RGB_c), (13, condition_Process_c), (14, condition_Spot_c), (15, condition_Check_c), (37, condition_from_c), (38, condition_placed_c), (39, condition_limited_c), (42, condition_distinct_c), (43, condition_table_c)]
theorem tbl_condition_ok : okT Try.prog tbl_condition := ⟨condition_Gray_s, condition_RGB_s, condition_Process_s, condition_Spot_s, condition_Check_s, condition_from_s, condition_placed_s, condition_limited_s, condition_distinct_s, condition_table_s, trivial⟩

end Go.Proofs.Ytogbkhopanaoiaa
namespace Go.Proofs.Ytogbkhopanaoiaa
open Go Go.Lite
set_option linter.unusedVariables false

/-- printworks/inklimit.Limit -/
def inklimit_Limit_r0 : List SO := [rZ 6 (.assign (.const (.slice none 0 0))), rZ 7 (.assign (ciZ 0))]
def inklimit_Limit_r1 : List SO := [mvZ 9 0, rZ 10 (.call ⟨(.value (.func (50 : Nat))), #[(tZ 9)], #[23]⟩), asZ 8 10]
def inklimit_Limit_r2 : List SO := [mvZ 11 8, bcZ 12 .neq 33 11 0 33]
def inklimit_Limit_r3 : List SO := [mvZ 13 8, rZ 6 (.assign (.const (.slice none 0 0))), asZ 7 13]
def inklimit_Limit_r4 : List SO := [mvZ 14 1, rZ 15 (.binOp .lss 3 (tZ 14) (.const (.int .i64 (-1))) 3), mvZ 16 15, gZ 16 false (mvZ 17 1), gZ 16 false (mvZ 18 0), gZ 16 false (rZ 19 (.call ⟨(.builtin .len), #[(tZ 18)], #[23]⟩)), gZ 16 false (boZ 20 .geq 3 17 19 3), rZ 21 (.pick (tZ 16) (.const (.bool true)) (tZ 20)), mvZ 22 21, gZ 22 false (mvZ 23 2), gZ 22 false (bcZ 24 .lss 3 23 0 3), rZ 25 (.pick (tZ 22) (.const (.bool true)) (tZ 24)), mvZ 26 25, gZ 26 false (mvZ 27 2), gZ 26 false (bcZ 28 .gtr 3 27 2040 3), rZ 29 (.pick (tZ 26) (.const (.bool true)) (tZ 28))]
def inklimit_Limit_r5 : List SO := [rZ 6 (.assign (.const (.slice none 0 0))), rZ 7 (.assign (ciZ 3))]
def inklimit_Limit_r6 : List SO := [mvZ 30 0, mvZ 31 1, mvZ 32 2, rZ 33 (.call ⟨(.value (.func (51 : Nat))), #[(tZ 30), (tZ 31), (tZ 32)], #[23, 3, 3]⟩), asZ 6 33, rZ 7 (.assign (ciZ 0))]
def inklimit_Limit_c : SF := ⟨34, (.seq (.reg inklimit_Limit_r0)
  (.seq (.seq (.reg inklimit_Limit_r1)
  (.seq (.reg inklimit_Limit_r2)
  (.cond (tZ 12) (.seq (.reg inklimit_Limit_r3)
  .ret) .skip)))
  (.seq (.seq (.reg inklimit_Limit_r4)
  (.cond (tZ 29) (.seq (.reg inklimit_Limit_r5)
  .ret) .skip))
  (.seq (.reg inklimit_Limit_r6)
  .ret)))), [.tmp 6, .tmp 7]⟩
theorem inklimit_Limit_s : slimF Try.prog 19 = some inklimit_Limit_c := by kernel_rfl
/-- printworks/inklimit.check -/
def inklimit_check_r0 : List SO := [rZ 2 (.assign (ciZ 0))]
def inklimit_check_r1 : List SO := [mvZ 3 0, rZ 4 (.call ⟨(.builtin .len), #[(tZ 3)], #[23]⟩), bcZ 5 .gtr 3 4 8 3]
def inklimit_check_r2 : List SO := [rZ 2 (.assign (ciZ 2))]
def inklimit_check_r3 : List SO := [mvZ 6 0, mvZ 7 0, rZ 8 (.call ⟨(.builtin .len), #[(tZ 7)], #[23]⟩), rZ 9 (.call ⟨(.value (.func (48 : Nat))), #[(tZ 6), (tZ 8)], #[23, 3]⟩), asZ 2 9]
def inklimit_check_c : SF := ⟨10, (.seq (.reg inklimit_check_r0)
  (.seq (.seq (.reg inklimit_check_r1)
  (.cond (tZ 5) (.seq (.reg inklimit_check_r2)
  .ret) .skip))
  (.seq (.reg inklimit_check_r3)
  .ret))), [.tmp 2]⟩
theorem inklimit_check_s : slimF Try.prog 50 = some inklimit_check_c := by kernel_rfl
/-- printworks/inklimit.Quick -/
def inklimit_Quick_r0 : List SO := [rZ 6 (.assign (.const (.slice none 0 0)))]
def inklimit_Quick_r1 : List SO := [mvZ 12 0, rZ 13 (.call ⟨(.builtin .append), #[(.const (.slice none 0 0)), (tZ 12)], #[23, 23]⟩), asZ 7 13]
def inklimit_Quick_r2 : List SO := [mvZ 14 0, rZ 15 (.call ⟨(.value (.func (79 : Nat))), #[(tZ 14)], #[23]⟩), asZ 8 15]
def inklimit_Quick_r3 : List SO := [mvZ 16 8, mvZ 17 2, boZ 18 .leq 3 16 17 3]
def inklimit_Quick_r4 : List SO := [mvZ 19 7, asZ 6 19]
def inklimit_Quick_r5 : List SO := [rZ 9 (.assign (ciZ 0))]
def inklimit_Quick_r6 : List SO := [mvZ 20 1, bcZ 21 .geq 3 20 0 3]
def inklimit_Quick_r7 : List SO := [mvZ 22 0, mvZ 23 1, iaZ 24 23 22 23, ldZ 25 3 24, mvZ 26 2, rZ 27 (.call ⟨(.builtin .min), #[(tZ 25), (tZ 26)], #[3, 3]⟩), asZ 9 27]
def inklimit_Quick_r8 : List SO := [mvZ 28 8, mvZ 29 0, mvZ 30 1, iaZ 31 23 29 30, ldZ 32 3 31, boZ 33 .sub 3 28 32 3, asZ 8 33]
def inklimit_Quick_r9 : List SO := [mvZ 34 0, rZ 35 (.call ⟨(.builtin .len), #[(tZ 34)], #[23]⟩), rZ 36 (.move (ciZ 0))]
def inklimit_Quick_r10 : List SO := [boZ 37 .lss 3 36 35 3]
def inklimit_Quick_r11 : List SO := [mvZ 38 36, iaZ 39 23 34 36, ldZ 40 3 39, asZ 10 38, asZ 11 40]
def inklimit_Quick_r12 : List SO := [mvZ 57 10, mvZ 58 1, boZ 59 .eql 3 57 58 3, asZ 56 59]
def inklimit_Quick_r13 : List SO := [mvZ 60 7, mvZ 61 10, mvZ 62 9, iaZ 63 23 60 61, stZ 3 63 62]
def inklimit_Quick_r14 : List SO := [mvZ 41 7, mvZ 42 10, iaZ 43 23 41 42, ⟨none, .store 3 (tZ 43) (ciZ 0), none⟩]
def inklimit_Quick_r15 : List SO := [mvZ 44 8, bcZ 45 .gtr 3 44 0 3]
def inklimit_Quick_r16 : List SO := [mvZ 46 7, mvZ 47 10, mvZ 48 11, mvZ 49 2, mvZ 50 9, boZ 51 .sub 3 49 50 3, boZ 52 .mul 3 48 51 3, mvZ 53 8, boZ 54 .quo 3 52 53 3, iaZ 55 23 46 47, stZ 3 55 54]
def inklimit_Quick_r17 : List SO := [bcZ 64 .add 3 36 1 3, mvZ 36 64]
def inklimit_Quick_r18 : List SO := [mvZ 65 7, asZ 6 65]
def inklimit_Quick_c : SF := ⟨66, (.seq (.reg inklimit_Quick_r0)
  (.seq (.reg inklimit_Quick_r1)
  (.seq (.reg inklimit_Quick_r2)
  (.seq (.seq (.reg inklimit_Quick_r3)
  (.cond (tZ 18) (.seq (.reg inklimit_Quick_r4)
  .ret) .skip))
  (.seq (.reg inklimit_Quick_r5)
  (.seq (.seq (.reg inklimit_Quick_r6)
  (.cond (tZ 21) (.seq (.reg inklimit_Quick_r7)
  (.reg inklimit_Quick_r8)) .skip))
  (.seq (.seq (.reg inklimit_Quick_r9)
  (.block 0 (.loop (.seq (.reg inklimit_Quick_r10)
  (.seq (.cond (tZ 37) .skip (.exit 0))
  (.seq (.block 1 (.seq (.reg inklimit_Quick_r11)
  (.block 2 (.seq (.reg inklimit_Quick_r12)
  (.cond (tZ 56) (.reg inklimit_Quick_r13) (.seq (.reg inklimit_Quick_r14)
  (.seq (.reg inklimit_Quick_r15)
  (.cond (tZ 45) (.reg inklimit_Quick_r16) .skip))))))))
  (.reg inklimit_Quick_r17)))))))
  (.seq (.reg inklimit_Quick_r18)
  .ret)))))))), [.tmp 6]⟩
theorem inklimit_Quick_s : slimF Try.prog 51 = some inklimit_Quick_c := by kernel_rfl
abbrev inklimit_Quick_f : Nat := 51
/-- printworks/inklimit.sum -/
def inklimit_sum_r0 : List SO := [rZ 2 (.assign (ciZ 0))]
def inklimit_sum_r1 : List SO := [rZ 3 (.assign (ciZ 0))]
def inklimit_sum_r2 : List SO := [mvZ 6 0, rZ 7 (.call ⟨(.builtin .len), #[(tZ 6)], #[23]⟩), rZ 8 (.move (ciZ 0))]
def inklimit_sum_r3 : List SO := [boZ 9 .lss 3 8 7 3]
def inklimit_sum_r4 : List SO := [iaZ 10 23 6 8, ldZ 11 3 10, asZ 5 11]
def inklimit_sum_r5 : List SO := [mvZ 12 3, mvZ 13 5, boZ 14 .add 3 12 13 3, asZ 3 14]
def inklimit_sum_r6 : List SO := [bcZ 15 .add 3 8 1 3, mvZ 8 15]
def inklimit_sum_r7 : List SO := [mvZ 16 3, asZ 2 16]
def inklimit_sum_c : SF := ⟨17, (.seq (.reg inklimit_sum_r0)
  (.seq (.reg inklimit_sum_r1)
  (.seq (.seq (.reg inklimit_sum_r2)
  (.block 0 (.loop (.seq (.reg inklimit_sum_r3)
  (.seq (.cond (tZ 9) .skip (.exit 0))
  (.seq (.block 1 (.seq (.reg inklimit_sum_r4)
  (.reg inklimit_sum_r5)))
  (.reg inklimit_sum_r6)))))))
  (.seq (.reg inklimit_sum_r7)
  .ret)))), [.tmp 2]⟩
theorem inklimit_sum_s : slimF Try.prog 79 = some inklimit_sum_c := by kernel_rfl
abbrev inklimit_sum_f : Nat := 79

def tbl_inklimit : List (Nat × SF) := [(19, inklimit_Limit_c), (50, inklimit_check_c), (51, inklimit_Quick_c), (79, inklimit_sum_c)]
theorem tbl_inklimit_ok : okT Try.prog tbl_inklimit := ⟨inklimit_Limit_s, inklimit_check_s, inklimit_Quick_s, inklimit_sum_s, trivial⟩

end Go.Proofs.Ytogbkhopanaoiaa
namespace Go.Proofs.Ytogbkhopanaoiaa
open Go Go.Lite
set_option linter.unusedVariables false

/-- printworks/printworkskeep2.conditionWorks -/
def K2_conditionWorks_r0 : List SO := [rZ 0 (.assign (.const (.bool false)))]
def K2_conditionWorks_r1 : List SO := [rZ 10 (.call ⟨(.value (.func (36 : Nat))), #[], #[]⟩), rZ 11 (.call ⟨(.value (.func (11 : Nat))), #[(tZ 10), (.const (.int .u8 64))], #[28, 5]⟩), mvZ 9 11, exZ 12 9 0, exZ 13 9 1, rZ 1 (.alloc 32), stZ 32 1 12, asZ 2 13]
def K2_conditionWorks_r2 : List SO := [rZ 15 (.call ⟨(.value (.func (36 : Nat))), #[], #[]⟩), rZ 16 (.call ⟨(.value (.func (11 : Nat))), #[(tZ 15), (.const (.int .u8 0))], #[28, 5]⟩), mvZ 14 16, exZ 17 14 0, exZ 18 14 1, rZ 3 (.alloc 32), stZ 32 3 17, asZ 4 18]
def K2_conditionWorks_r3 : List SO := [rZ 20 (.call ⟨(.value (.func (36 : Nat))), #[], #[]⟩), rZ 21 (.build 29 #[]), rZ 22 (.call ⟨(.value (.func (13 : Nat))), #[(tZ 20), (tZ 21)], #[28, 29]⟩), mvZ 19 22, exZ 23 19 0, exZ 24 19 1, rZ 5 (.alloc 32), stZ 32 5 23, asZ 6 24]
def K2_conditionWorks_r4 : List SO := [rZ 26 (.call ⟨(.value (.func (36 : Nat))), #[], #[]⟩), ⟨(some 27), .call ⟨(.value (.func (14 : Nat))), #[(tZ 26), (.const (.string ⟨([98, 108, 97, 99, 107] : List UInt8).toArray⟩)), (.const (.int .u8 7))], #[28, 9, 5]⟩, none⟩, mvZ 25 27, exZ 28 25 0, exZ 29 25 1, rZ 7 (.alloc 32), stZ 32 7 28, asZ 8 29]
def K2_conditionWorks_r5 : List SO := [mvZ 30 2, bcZ 31 .eql 33 30 0 33, mvZ 32 31, gZ 32 true (ldZ 33 32 1), gZ 32 true (rZ 34 (.build 32 #[(0, (.const (.int .u8 191)))])), gZ 32 true (boZ 35 .eql 32 33 34 32), rZ 36 (.pick (tZ 32) (tZ 35) (.const (.bool false))), mvZ 37 36, gZ 37 true (mvZ 38 4), gZ 37 true (bcZ 39 .eql 33 38 0 33), rZ 40 (.pick (tZ 37) (tZ 39) (.const (.bool false))), mvZ 41 40, gZ 41 true (ldZ 42 32 3), gZ 41 true (rZ 43 (.build 32 #[(0, (.const (.int .u8 200)))])), gZ 41 true (boZ 44 .eql 32 42 43 32), rZ 45 (.pick (tZ 41) (tZ 44) (.const (.bool false))), mvZ 46 45, gZ 46 true (mvZ 47 6), gZ 46 true (bcZ 48 .eql 33 47 8 33), rZ 49 (.pick (tZ 46) (tZ 48) (.const (.bool false))), mvZ 50 49, gZ 50 true (mvZ 51 8), gZ 50 true (bcZ 52 .eql 33 51 0 33), rZ 53 (.pick (tZ 50) (tZ 52) (.const (.bool false))), mvZ 54 53, gZ 54 true (ldZ 55 32 7), gZ 54 true (rZ 56 (.build 32 #[(0, (.const (.int .u8 7)))])), gZ 54 true (boZ 57 .eql 32 55 56 32), rZ 58 (.pick (tZ 54) (tZ 57) (.const (.bool false))), asZ 0 58]
def K2_conditionWorks_c : SF := ⟨59, (.seq (.reg K2_conditionWorks_r0)
  (.seq (.reg K2_conditionWorks_r1)
  (.seq (.reg K2_conditionWorks_r2)
  (.seq (.reg K2_conditionWorks_r3)
  (.seq (.reg K2_conditionWorks_r4)
  (.seq (.reg K2_conditionWorks_r5)
  .ret)))))), [.tmp 0]⟩
theorem K2_conditionWorks_s : slimF Try.prog 10 = some K2_conditionWorks_c := by kernel_rfl
abbrev K2_conditionWorks_f : Nat := 10
/-- printworks/printworkskeep2.devicelinkWorks -/
def K2_devicelinkWorks_r0 : List SO := [rZ 0 (.assign (.const (.bool false)))]
def K2_devicelinkWorks_r1 : List SO := [rZ 6 (.call ⟨(.value (.func (52 : Nat))), #[(ciZ 0), (ciZ 65280)], #[3, 3]⟩), rZ 7 (.buildSlice 23 1 #[(0, (ciZ 100))]), rZ 8 (.call ⟨(.value (.func (18 : Nat))), #[(tZ 6), (tZ 7)], #[25, 23]⟩), mvZ 5 8, exZ 9 5 0, exZ 10 5 1, asZ 1 9, asZ 2 10]
def K2_devicelinkWorks_r2 : List SO := [rZ 12 (.call ⟨(.value (.func (54 : Nat))), #[], #[]⟩), rZ 13 (.call ⟨(.value (.func (54 : Nat))), #[], #[]⟩), rZ 14 (.build 100 #[(0, (ciZ 2)), (1, (ciZ 255)), (2, (ciZ 255))]), rZ 15 (.call ⟨(.value (.func (53 : Nat))), #[(tZ 12), (tZ 13), (tZ 14)], #[62, 62, 100]⟩), mvZ 11 15, exZ 16 11 0, exZ 17 11 1, rZ 3 (.alloc 25), stZ 25 3 16, asZ 4 17]
def K2_devicelinkWorks_r3 : List SO := [mvZ 18 2, bcZ 19 .eql 33 18 0 33, mvZ 20 19, gZ 20 true (mvZ 21 1), gZ 20 true (rZ 22 (.buildSlice 23 1 #[(0, (ciZ 100))])), gZ 20 true (rZ 23 (.call ⟨(.value (.func (24 : Nat))), #[(tZ 21), (tZ 22)], #[23, 23]⟩)), rZ 24 (.pick (tZ 20) (tZ 23) (.const (.bool false))), mvZ 25 24, gZ 25 true (mvZ 26 4), gZ 25 true (bcZ 27 .eql 33 26 0 33), rZ 28 (.pick (tZ 25) (tZ 27) (.const (.bool false))), mvZ 29 28, gZ 29 true (ldZ 30 25 3), gZ 29 true (rZ 31 (.call ⟨(.value (.func (52 : Nat))), #[(ciZ 0), (ciZ 65280)], #[3, 3]⟩)), gZ 29 true (rZ 32 (.call ⟨(.value (.func (55 : Nat))), #[(tZ 30), (tZ 31)], #[25, 25]⟩)), rZ 33 (.pick (tZ 29) (tZ 32) (.const (.bool false))), asZ 0 33]
def K2_devicelinkWorks_a3 : List (List Nat) := [[], [0], [1], [2], [2], [3, 4, 2, 2], [2, 5], [6, 5], [7], [8, 7], [7, 9], [10, 7], [11], [11, 11], [12, 13, 13, 11], [11, 14], [15, 14, 0, 1, 2, 3, 4, 5, 6, 7, 8, 9, 10, 11, 12, 13, 14, 15]]
def K2_devicelinkWorks_c : SF := ⟨34, (.seq (.reg K2_devicelinkWorks_r0)
  (.seq (.reg K2_devicelinkWorks_r1)
  (.seq (.reg K2_devicelinkWorks_r2)
  (.seq (.regd K2_devicelinkWorks_r3 K2_devicelinkWorks_a3)
  .ret)))), [.tmp 0]⟩
theorem K2_devicelinkWorks_s : slimF Try.prog 20 = some K2_devicelinkWorks_c := by kernel_rfl
/-- printworks/printworkskeep2.profileWorks -/
def K2_profileWorks_r0 : List SO := [rZ 0 (.assign (.const (.bool false)))]
def K2_profileWorks_r1 : List SO := [rZ 8 (.call ⟨(.value (.func (54 : Nat))), #[], #[]⟩), rZ 9 (.buildSlice 23 1 #[(0, (ciZ 128))]), rZ 10 (.call ⟨(.value (.func (26 : Nat))), #[(tZ 8), (tZ 9)], #[62, 23]⟩), mvZ 7 10, exZ 11 7 0, exZ 12 7 1, rZ 1 (.alloc 43), stZ 43 1 11, asZ 2 12]
def K2_profileWorks_r2 : List SO := [rZ 14 (.call ⟨(.value (.func (54 : Nat))), #[], #[]⟩), rZ 15 (.call ⟨(.value (.func (32 : Nat))), #[(tZ 14)], #[62]⟩), mvZ 13 15, exZ 16 13 0, exZ 17 13 1, asZ 3 16, asZ 4 17]
def K2_profileWorks_r3 : List SO := [mvZ 19 3, rZ 20 (.call ⟨(.value (.func (62 : Nat))), #[(tZ 19)], #[71]⟩), mvZ 18 20, exZ 21 18 0, exZ 22 18 1, asZ 5 21, asZ 6 22]
def K2_profileWorks_r4 : List SO := [mvZ 23 2, bcZ 24 .eql 33 23 0 33, mvZ 25 24, gZ 25 true (ldZ 26 43 1), gZ 25 true (rZ 27 (.build 43 #[(0, (ciZ 5984)), (1, (ciZ 50)), (2, (.const (.int .i64 (-50))))])), gZ 25 true (boZ 28 .eql 43 26 27 43), rZ 29 (.pick (tZ 25) (tZ 28) (.const (.bool false))), mvZ 30 29, gZ 30 true (mvZ 31 4), gZ 30 true (bcZ 32 .eql 33 31 0 33), rZ 33 (.pick (tZ 30) (tZ 32) (.const (.bool false))), mvZ 34 33, gZ 34 true (mvZ 35 3), gZ 34 true (rZ 36 (.call ⟨(.builtin .len), #[(tZ 35)], #[71]⟩)), gZ 34 true (bcZ 37 .eql 3 36 104 3), rZ 38 (.pick (tZ 34) (tZ 37) (.const (.bool false))), mvZ 39 38, gZ 39 true (mvZ 40 6), gZ 39 true (bcZ 41 .eql 33 40 0 33), rZ 42 (.pick (tZ 39) (tZ 41) (.const (.bool false))), mvZ 43 42, gZ 43 true (mvZ 44 5), gZ 43 true (rZ 45 (.buildSlice 22 4 #[(0, (.const (.string ⟨([110, 97, 109, 101] : List UInt8).toArray⟩))), (1, (.const (.string ⟨([105, 110, 107, 115] : List UInt8).toArray⟩))), (2, (.const (.string ⟨([99, 117, 114, 118] : List UInt8).toArray⟩))), (3, (.const (.string ⟨([103, 114, 105, 100] : List UInt8).toArray⟩)))])), gZ 43 true (rZ 46 (.call ⟨(.value (.func (63 : Nat))), #[(tZ 44), (tZ 45)], #[22, 22]⟩)), rZ 47 (.pick (tZ 43) (tZ 46) (.const (.bool false))), mvZ 48 47, gZ 48 true (rZ 49 (.buildSlice 71 9 #[(0, (.const (.int .u8 49))), (1, (.const (.int .u8 50))), (2, (.const (.int .u8 51))), (3, (.const (.int .u8 52))), (4, (.const (.int .u8 53))), (5, (.const (.int .u8 54))), (6, (.const (.int .u8 55))), (7, (.const (.int .u8 56))), (8, (.const (.int .u8 57)))])), gZ 48 true (rZ 50 (.convert 71 71 (tZ 49))), gZ 48 true (rZ 51 (.call ⟨(.value (.func (64 : Nat))), #[(tZ 50)], #[71]⟩)), gZ 48 true (bcZ 52 .eql 3 51 3421780262 3), rZ 53 (.pick (tZ 48) (tZ 52) (.const (.bool false))), asZ 0 53]
def K2_profileWorks_c : SF := ⟨54, (.seq (.reg K2_profileWorks_r0)
  (.seq (.reg K2_profileWorks_r1)
  (.seq (.reg K2_profileWorks_r2)
  (.seq (.reg K2_profileWorks_r3)
  (.seq (.reg K2_profileWorks_r4)
  .ret))))), [.tmp 0]⟩
theorem K2_profileWorks_s : slimF Try.prog 28 = some K2_profileWorks_c := by kernel_rfl
/-- printworks/printworkskeep2.single -/
def K2_single_r0 : List SO := [rZ 0 (.alloc 28)]
def K2_single_r1 : List SO := [rZ 2 (.buildSlice 22 1 #[(0, (.const (.string ⟨([98, 108, 97, 99, 107] : List UInt8).toArray⟩)))]), rZ 3 (.buildSlice 23 1 #[(0, (ciZ 0))]), rZ 4 (.call ⟨(.value (.func (52 : Nat))), #[(ciZ 65280), (ciZ 0)], #[3, 3]⟩), rZ 5 (.makeSlice 23 (ciZ 8) (ciZ 8)), rZ 6 (.build 25 #[(0, (ciZ 3)), (1, (ciZ 1)), (2, (ciZ 2)), (3, (tZ 5))]), rZ 7 (.build 28 #[(0, (tZ 2)), (2, (tZ 3)), (3, (tZ 4)), (4, (tZ 6)), (6, (ciZ 200))]), rZ 1 (.alloc 28), stZ 28 1 7]
def K2_single_a1 : List (List Nat) := [[], [], [], [], [3], [0, 1, 2, 4], [], [6, 5, 2, 0, 1, 2, 3, 4, 5, 6]]
def K2_single_r2 : List SO := [faZ 8 28 1 4, faZ 9 25 8 3, ldZ 10 23 9, rZ 11 (.indexAddr 23 (tZ 10) (ciZ 0)), ⟨none, .store 3 (tZ 11) (ciZ 65280), none⟩]
def K2_single_r3 : List SO := [ldZ 12 28 1, stZ 28 0 12]
def K2_single_c : SF := ⟨13, (.seq (.reg K2_single_r0)
  (.seq (.regd K2_single_r1 K2_single_a1)
  (.seq (.reg K2_single_r2)
  (.seq (.reg K2_single_r3)
  .ret)))), [.cell 0 28]⟩
theorem K2_single_s : slimF Try.prog 36 = some K2_single_c := by kernel_rfl
/-- printworks/printworkskeep2.straight -/
def K2_straight_r0 : List SO := [rZ 4 (.alloc 25)]
def K2_straight_r1 : List SO := [mvZ 5 0, mvZ 6 1, rZ 7 (.buildSlice 23 2 #[(0, (tZ 5)), (1, (tZ 6))]), rZ 8 (.build 25 #[(0, (ciZ 1)), (1, (ciZ 1)), (2, (ciZ 2)), (3, (tZ 7))]), stZ 25 4 8]
def K2_straight_c : SF := ⟨9, (.seq (.reg K2_straight_r0)
  (.seq (.reg K2_straight_r1)
  .ret)), [.cell 4 25]⟩
theorem K2_straight_s : slimF Try.prog 52 = some K2_straight_c := by kernel_rfl
/-- printworks/printworkskeep2.one -/
def K2_one_r0 : List SO := [rZ 0 (.alloc 62)]
def K2_one_r1 : List SO := [rZ 1 (.buildSlice 22 1 #[(0, (.const (.string ⟨([98, 108, 97, 99, 107] : List UInt8).toArray⟩)))]), rZ 2 (.call ⟨(.value (.func (86 : Nat))), #[], #[]⟩), rZ 3 (.buildSlice 60 1 #[(0, (tZ 2))]), rZ 4 (.buildSlice 23 6 #[(0, (ciZ 10000)), (1, (ciZ 0)), (2, (ciZ 0)), (3, (ciZ 2000)), (4, (ciZ 100)), (5, (.const (.int .i64 (-100))))]), rZ 5 (.build 25 #[(0, (ciZ 1)), (1, (ciZ 3)), (2, (ciZ 2)), (3, (tZ 4))]), rZ 6 (.build 62 #[(0, (.const (.string ⟨([112, 49] : List UInt8).toArray⟩))), (1, (tZ 1)), (2, (tZ 3)), (3, (tZ 5))]), stZ 62 0 6]
def K2_one_c : SF := ⟨7, (.seq (.reg K2_one_r0)
  (.seq (.reg K2_one_r1)
  .ret)), [.cell 0 62]⟩
theorem K2_one_s : slimF Try.prog 54 = some K2_one_c := by kernel_rfl
/-- printworks/printworkskeep2.line -/
def K2_line_r0 : List SO := [rZ 0 (.alloc 46)]
def K2_line_r1 : List SO := [rZ 1 (.build 116 #[]), rZ 2 (.build 116 #[(0, (ciZ 65280)), (1, (ciZ 65280))]), rZ 3 (.buildSlice 44 2 #[(0, (tZ 1)), (1, (tZ 2))]), rZ 4 (.build 46 #[(0, (tZ 3))]), stZ 46 0 4]
def K2_line_c : SF := ⟨5, (.seq (.reg K2_line_r0)
  (.seq (.reg K2_line_r1)
  .ret)), [.cell 0 46]⟩
theorem K2_line_s : slimF Try.prog 86 = some K2_line_c := by kernel_rfl
def tbl_K2 : List (Nat × SF) := [(10, K2_conditionWorks_c), (20, K2_devicelinkWorks_c), (28, K2_profileWorks_c), (36, K2_single_c), (52, K2_straight_c), (54, K2_one_c), (86, K2_line_c)]
theorem tbl_K2_ok : okT Try.prog tbl_K2 := ⟨K2_conditionWorks_s, K2_devicelinkWorks_s, K2_profileWorks_s, K2_single_s, K2_straight_s, K2_one_s, K2_line_s, trivial⟩

end Go.Proofs.Ytogbkhopanaoiaa
namespace Go.Proofs.Ytogbkhopanaoiaa
open Go Go.Lite
set_option linter.unusedVariables false

/-- printworks/printworksref2.Mod -/
def R2_Mod_r0 : List SO := [rZ 4 (.assign (ciZ 0))]
def R2_Mod_r1 : List SO := [mvZ 5 0, mvZ 6 1, mvZ 7 0, mvZ 8 1, rZ 9 (.call ⟨(.value (.func (45 : Nat))), #[(tZ 7), (tZ 8)], #[3, 3]⟩), boZ 10 .mul 3 6 9 3, boZ 11 .sub 3 5 10 3, asZ 4 11]
def R2_Mod_c : SF := ⟨12, (.seq (.reg R2_Mod_r0)
  (.seq (.reg R2_Mod_r1)
  .ret)), [.tmp 4]⟩
theorem R2_Mod_s : slimF Try.prog 16 = some R2_Mod_c := by kernel_rfl
/-- printworks/printworksref2.Round -/
def R2_Round_r0 : List SO := [rZ 4 (.assign (ciZ 0))]
def R2_Round_r1 : List SO := [mvZ 6 0, mvZ 7 1, rZ 8 (.call ⟨(.value (.func (45 : Nat))), #[(tZ 6), (tZ 7)], #[3, 3]⟩), asZ 5 8]
def R2_Round_r2 : List SO := [mvZ 9 0, mvZ 10 5, mvZ 11 1, boZ 12 .mul 3 10 11 3, boZ 13 .sub 3 9 12 3, rZ 14 (.binOp .mul 3 (ciZ 2) (tZ 13) 3), mvZ 15 1, boZ 16 .geq 3 14 15 3]
def R2_Round_r3 : List SO := [mvZ 17 5, bcZ 18 .add 3 17 1 3, asZ 5 18]
def R2_Round_r4 : List SO := [mvZ 19 5, asZ 4 19]
def R2_Round_c : SF := ⟨20, (.seq (.reg R2_Round_r0)
  (.seq (.reg R2_Round_r1)
  (.seq (.seq (.reg R2_Round_r2)
  (.cond (tZ 16) (.reg R2_Round_r3) .skip))
  (.seq (.reg R2_Round_r4)
  .ret)))), [.tmp 4]⟩
theorem R2_Round_s : slimF Try.prog 23 = some R2_Round_c := by kernel_rfl
/-- printworks/printworksref2.SameInts -/
def R2_SameInts_r0 : List SO := [rZ 4 (.assign (.const (.bool false)))]
def R2_SameInts_r1 : List SO := [mvZ 6 0, rZ 7 (.call ⟨(.builtin .len), #[(tZ 6)], #[23]⟩), mvZ 8 1, rZ 9 (.call ⟨(.builtin .len), #[(tZ 8)], #[23]⟩), boZ 10 .neq 3 7 9 3]
def R2_SameInts_r2 : List SO := [rZ 4 (.assign (.const (.bool false)))]
def R2_SameInts_r3 : List SO := [mvZ 11 0, rZ 12 (.call ⟨(.builtin .len), #[(tZ 11)], #[23]⟩), rZ 13 (.move (ciZ 0))]
def R2_SameInts_r4 : List SO := [boZ 14 .lss 3 13 12 3]
def R2_SameInts_r5 : List SO := [mvZ 15 13, asZ 5 15]
def R2_SameInts_r6 : List SO := [mvZ 16 0, mvZ 17 5, iaZ 18 23 16 17, ldZ 19 3 18, mvZ 20 1, mvZ 21 5, iaZ 22 23 20 21, ldZ 23 3 22, boZ 24 .neq 3 19 23 3]
def R2_SameInts_a6 : List (List Nat) := [[], [], [0, 1], [2], [], [], [4, 5], [6], [3, 7]]
def R2_SameInts_r7 : List SO := [rZ 4 (.assign (.const (.bool false)))]
def R2_SameInts_r8 : List SO := [bcZ 25 .add 3 13 1 3, mvZ 13 25]
def R2_SameInts_r9 : List SO := [rZ 4 (.assign (.const (.bool true)))]
def R2_SameInts_c : SF := ⟨26, (.seq (.reg R2_SameInts_r0)
  (.seq (.seq (.reg R2_SameInts_r1)
  (.cond (tZ 10) (.seq (.reg R2_SameInts_r2)
  .ret) .skip))
  (.seq (.seq (.reg R2_SameInts_r3)
  (.block 0 (.loop (.seq (.reg R2_SameInts_r4)
  (.seq (.cond (tZ 14) .skip (.exit 0))
  (.seq (.block 1 (.seq (.reg R2_SameInts_r5)
  (.seq (.regd R2_SameInts_r6 R2_SameInts_a6)
  (.cond (tZ 24) (.seq (.reg R2_SameInts_r7)
  .ret) .skip))))
  (.reg R2_SameInts_r8)))))))
  (.seq (.reg R2_SameInts_r9)
  .ret)))), [.tmp 4]⟩
theorem R2_SameInts_s : slimF Try.prog 24 = some R2_SameInts_c := by kernel_rfl
/-- printworks/printworksref2.SameProfiles -/
def R2_SameProfiles_r0 : List SO := [rZ 2 (.box 62 (tZ 0)), rZ 3 (.box 62 (tZ 1)), rZ 4 (.assign (.const (.bool false)))]
def R2_SameProfiles_r1 : List SO := [faZ 6 62 2 0, ldZ 7 9 6, faZ 8 62 3 0, ldZ 9 9 8, boZ 10 .neq 9 7 9 9, mvZ 11 10, gZ 11 false (faZ 12 62 2 1), gZ 11 false (ldZ 13 22 12), gZ 11 false (faZ 14 62 3 1), gZ 11 false (ldZ 15 22 14), gZ 11 false (rZ 16 (.call ⟨(.value (.func (63 : Nat))), #[(tZ 13), (tZ 15)], #[22, 22]⟩)), gZ 11 false (rZ 17 (.unOp .not 4 (tZ 16))), rZ 18 (.pick (tZ 11) (.const (.bool true)) (tZ 17)), mvZ 19 18, gZ 19 false (faZ 20 62 2 2), gZ 19 false (ldZ 21 60 20), gZ 19 false (rZ 22 (.call ⟨(.builtin .len), #[(tZ 21)], #[60]⟩)), gZ 19 false (faZ 23 62 3 2), gZ 19 false (ldZ 24 60 23), gZ 19 false (rZ 25 (.call ⟨(.builtin .len), #[(tZ 24)], #[60]⟩)), gZ 19 false (boZ 26 .neq 3 22 25 3), rZ 27 (.pick (tZ 19) (.const (.bool true)) (tZ 26)), mvZ 28 27, gZ 28 false (faZ 29 62 2 3), gZ 28 false (ldZ 30 25 29), gZ 28 false (faZ 31 62 3 3), gZ 28 false (ldZ 32 25 31), gZ 28 false (rZ 33 (.call ⟨(.value (.func (55 : Nat))), #[(tZ 30), (tZ 32)], #[25, 25]⟩)), gZ 28 false (rZ 34 (.unOp .not 4 (tZ 33))), rZ 35 (.pick (tZ 28) (.const (.bool true)) (tZ 34))]
def R2_SameProfiles_r2 : List SO := [rZ 4 (.assign (.const (.bool false)))]
def R2_SameProfiles_r3 : List SO := [faZ 36 62 2 2, ldZ 37 60 36, rZ 38 (.call ⟨(.builtin .len), #[(tZ 37)], #[60]⟩), rZ 39 (.move (ciZ 0))]
def R2_SameProfiles_r4 : List SO := [boZ 40 .lss 3 39 38 3]
def R2_SameProfiles_r5 : List SO := [mvZ 41 39, asZ 5 41]
def R2_SameProfiles_r6 : List SO := [faZ 42 62 2 2, ldZ 43 60 42, mvZ 44 5, iaZ 45 60 43 44, ldZ 46 46 45, faZ 47 62 3 2, ldZ 48 60 47, mvZ 49 5, iaZ 50 60 48 49, ldZ 51 46 50, rZ 52 (.call ⟨(.value (.func (77 : Nat))), #[(tZ 46), (tZ 51)], #[46, 46]⟩), rZ 53 (.unOp .not 4 (tZ 52))]
def R2_SameProfiles_a6 : List (List Nat) := [[], [0], [], [1, 2], [3], [], [5], [], [6, 7], [8], [4, 9], [10]]
def R2_SameProfiles_r7 : List SO := [rZ 4 (.assign (.const (.bool false)))]
def R2_SameProfiles_r8 : List SO := [bcZ 54 .add 3 39 1 3, mvZ 39 54]
def R2_SameProfiles_r9 : List SO := [rZ 4 (.assign (.const (.bool true)))]
def R2_SameProfiles_c : SF := ⟨55, (.seq (.reg R2_SameProfiles_r0)
  (.seq (.seq (.reg R2_SameProfiles_r1)
  (.cond (tZ 35) (.seq (.reg R2_SameProfiles_r2)
  .ret) .skip))
  (.seq (.seq (.reg R2_SameProfiles_r3)
  (.block 0 (.loop (.seq (.reg R2_SameProfiles_r4)
  (.seq (.cond (tZ 40) .skip (.exit 0))
  (.seq (.block 1 (.seq (.reg R2_SameProfiles_r5)
  (.seq (.regd R2_SameProfiles_r6 R2_SameProfiles_a6)
  (.cond (tZ 53) (.seq (.reg R2_SameProfiles_r7)
  .ret) .skip))))
  (.reg R2_SameProfiles_r8)))))))
  (.seq (.reg R2_SameProfiles_r9)
  .ret)))), [.tmp 4]⟩
theorem R2_SameProfiles_s : slimF Try.prog 35 = some R2_SameProfiles_c := by kernel_rfl
/-- printworks/printworksref2.Floor -/
def R2_Floor_r0 : List SO := [rZ 4 (.assign (ciZ 0))]
def R2_Floor_r1 : List SO := [mvZ 6 0, mvZ 7 1, boZ 8 .quo 3 6 7 3, asZ 5 8]
def R2_Floor_r2 : List SO := [mvZ 9 5, mvZ 10 1, boZ 11 .mul 3 9 10 3, mvZ 12 0, boZ 13 .gtr 3 11 12 3]
def R2_Floor_r3 : List SO := [mvZ 14 5, bcZ 15 .sub 3 14 1 3, asZ 5 15]
def R2_Floor_r4 : List SO := [mvZ 16 5, asZ 4 16]
def R2_Floor_c : SF := ⟨17, (.seq (.reg R2_Floor_r0)
  (.seq (.reg R2_Floor_r1)
  (.seq (.seq (.reg R2_Floor_r2)
  (.cond (tZ 13) (.reg R2_Floor_r3) .skip))
  (.seq (.reg R2_Floor_r4)
  .ret)))), [.tmp 4]⟩
theorem R2_Floor_s : slimF Try.prog 45 = some R2_Floor_c := by kernel_rfl
/-- printworks/printworksref2.SameGrids -/
def R2_SameGrids_r0 : List SO := [rZ 2 (.box 25 (tZ 0)), rZ 3 (.box 25 (tZ 1)), rZ 4 (.assign (.const (.bool false)))]
def R2_SameGrids_r1 : List SO := [faZ 5 25 2 0, ldZ 6 3 5, faZ 7 25 3 0, ldZ 8 3 7, boZ 9 .eql 3 6 8 3, mvZ 10 9, gZ 10 true (faZ 11 25 2 1), gZ 10 true (ldZ 12 3 11), gZ 10 true (faZ 13 25 3 1), gZ 10 true (ldZ 14 3 13), gZ 10 true (boZ 15 .eql 3 12 14 3), rZ 16 (.pick (tZ 10) (tZ 15) (.const (.bool false))), mvZ 17 16, gZ 17 true (faZ 18 25 2 2), gZ 17 true (ldZ 19 3 18), gZ 17 true (faZ 20 25 3 2), gZ 17 true (ldZ 21 3 20), gZ 17 true (boZ 22 .eql 3 19 21 3), rZ 23 (.pick (tZ 17) (tZ 22) (.const (.bool false))), mvZ 24 23, gZ 24 true (faZ 25 25 2 3), gZ 24 true (ldZ 26 23 25), gZ 24 true (faZ 27 25 3 3), gZ 24 true (ldZ 28 23 27), gZ 24 true (rZ 29 (.call ⟨(.value (.func (24 : Nat))), #[(tZ 26), (tZ 28)], #[23, 23]⟩)), rZ 30 (.pick (tZ 24) (tZ 29) (.const (.bool false))), asZ 4 30]
def R2_SameGrids_c : SF := ⟨31, (.seq (.reg R2_SameGrids_r0)
  (.seq (.reg R2_SameGrids_r1)
  .ret)), [.tmp 4]⟩
theorem R2_SameGrids_s : slimF Try.prog 55 = some R2_SameGrids_c := by kernel_rfl
/-- printworks/printworksref2.SameTexts -/
def R2_SameTexts_r0 : List SO := [rZ 4 (.assign (.const (.bool false)))]
def R2_SameTexts_r1 : List SO := [mvZ 6 0, rZ 7 (.call ⟨(.builtin .len), #[(tZ 6)], #[22]⟩), mvZ 8 1, rZ 9 (.call ⟨(.builtin .len), #[(tZ 8)], #[22]⟩), boZ 10 .neq 3 7 9 3]
def R2_SameTexts_r2 : List SO := [rZ 4 (.assign (.const (.bool false)))]
def R2_SameTexts_r3 : List SO := [mvZ 11 0, rZ 12 (.call ⟨(.builtin .len), #[(tZ 11)], #[22]⟩), rZ 13 (.move (ciZ 0))]
def R2_SameTexts_r4 : List SO := [boZ 14 .lss 3 13 12 3]
def R2_SameTexts_r5 : List SO := [mvZ 15 13, asZ 5 15]
def R2_SameTexts_r6 : List SO := [mvZ 16 0, mvZ 17 5, iaZ 18 22 16 17, ldZ 19 9 18, mvZ 20 1, mvZ 21 5, iaZ 22 22 20 21, ldZ 23 9 22, boZ 24 .neq 9 19 23 9]
def R2_SameTexts_a6 : List (List Nat) := [[], [], [0, 1], [2], [], [], [4, 5], [6], [3, 7]]
def R2_SameTexts_r7 : List SO := [rZ 4 (.assign (.const (.bool false)))]
def R2_SameTexts_r8 : List SO := [bcZ 25 .add 3 13 1 3, mvZ 13 25]
def R2_SameTexts_r9 : List SO := [rZ 4 (.assign (.const (.bool true)))]
def R2_SameTexts_c : SF := ⟨26, (.seq (.reg R2_SameTexts_r0)
  (.seq (.seq (.reg R2_SameTexts_r1)
  (.cond (tZ 10) (.seq (.reg R2_SameTexts_r2)
  .ret) .skip))
  (.seq (.seq (.reg R2_SameTexts_r3)
  (.block 0 (.loop (.seq (.reg R2_SameTexts_r4)
  (.seq (.cond (tZ 14) .skip (.exit 0))
  (.seq (.block 1 (.seq (.reg R2_SameTexts_r5)
  (.seq (.regd R2_SameTexts_r6 R2_SameTexts_a6)
  (.cond (tZ 24) (.seq (.reg R2_SameTexts_r7)
  .ret) .skip))))
  (.reg R2_SameTexts_r8)))))))
  (.seq (.reg R2_SameTexts_r9)
  .ret)))), [.tmp 4]⟩
theorem R2_SameTexts_s : slimF Try.prog 63 = some R2_SameTexts_c := by kernel_rfl
/-- printworks/printworksref2.SameCurves -/
def R2_SameCurves_r0 : List SO := [rZ 2 (.box 46 (tZ 0)), rZ 3 (.box 46 (tZ 1)), rZ 4 (.assign (.const (.bool false)))]
def R2_SameCurves_r1 : List SO := [faZ 6 46 2 0, ldZ 7 44 6, rZ 8 (.call ⟨(.builtin .len), #[(tZ 7)], #[44]⟩), faZ 9 46 3 0, ldZ 10 44 9, rZ 11 (.call ⟨(.builtin .len), #[(tZ 10)], #[44]⟩), boZ 12 .neq 3 8 11 3]
def R2_SameCurves_r2 : List SO := [rZ 4 (.assign (.const (.bool false)))]
def R2_SameCurves_r3 : List SO := [faZ 13 46 2 0, ldZ 14 44 13, rZ 15 (.call ⟨(.builtin .len), #[(tZ 14)], #[44]⟩), rZ 16 (.move (ciZ 0))]
def R2_SameCurves_r4 : List SO := [boZ 17 .lss 3 16 15 3]
def R2_SameCurves_r5 : List SO := [mvZ 18 16, asZ 5 18]
def R2_SameCurves_r6 : List SO := [faZ 19 46 2 0, ldZ 20 44 19, mvZ 21 5, iaZ 22 44 20 21, ldZ 23 116 22, faZ 24 46 3 0, ldZ 25 44 24, mvZ 26 5, iaZ 27 44 25 26, ldZ 28 116 27, boZ 29 .neq 116 23 28 116]
def R2_SameCurves_a6 : List (List Nat) := [[], [0], [], [1, 2], [3], [], [5], [], [6, 7], [8], [4, 9]]
def R2_SameCurves_r7 : List SO := [rZ 4 (.assign (.const (.bool false)))]
def R2_SameCurves_r8 : List SO := [bcZ 30 .add 3 16 1 3, mvZ 16 30]
def R2_SameCurves_r9 : List SO := [rZ 4 (.assign (.const (.bool true)))]
def R2_SameCurves_c : SF := ⟨31, (.seq (.reg R2_SameCurves_r0)
  (.seq (.seq (.reg R2_SameCurves_r1)
  (.cond (tZ 12) (.seq (.reg R2_SameCurves_r2)
  .ret) .skip))
  (.seq (.seq (.reg R2_SameCurves_r3)
  (.block 0 (.loop (.seq (.reg R2_SameCurves_r4)
  (.seq (.cond (tZ 17) .skip (.exit 0))
  (.seq (.block 1 (.seq (.reg R2_SameCurves_r5)
  (.seq (.regd R2_SameCurves_r6 R2_SameCurves_a6)
  (.cond (tZ 29) (.seq (.reg R2_SameCurves_r7)
  .ret) .skip))))
  (.reg R2_SameCurves_r8)))))))
  (.seq (.reg R2_SameCurves_r9)
  .ret)))), [.tmp 4]⟩
theorem R2_SameCurves_s : slimF Try.prog 77 = some R2_SameCurves_c := by kernel_rfl
def tbl_R2 : List (Nat × SF) := [(16, R2_Mod_c), (23, R2_Round_c), (24, R2_SameInts_c), (35, R2_SameProfiles_c), (45, R2_Floor_c), (55, R2_SameGrids_c), (63, R2_SameTexts_c), (77, R2_SameCurves_c)]
theorem tbl_R2_ok : okT Try.prog tbl_R2 := ⟨R2_Mod_s, R2_Round_s, R2_SameInts_s, R2_SameProfiles_s, R2_Floor_s, R2_SameGrids_s, R2_SameTexts_s, R2_SameCurves_s, trivial⟩

end Go.Proofs.Ytogbkhopanaoiaa
namespace Go.Proofs.Ytogbkhopanaoiaa
open Go Go.Lite
set_option linter.unusedVariables false

/-- printworks/printworkskeep2.ConditionTotals -/
def K2_ConditionTotals_r0 : List SO := [rZ 3 (.box 28 (tZ 0)), rZ 4 (.box 29 (tZ 1)), rZ 6 (.assign (.const (.bool false)))]
def K2_ConditionTotals_r1 : List SO := [rZ 20 (.call ⟨(.value (.func (10 : Nat))), #[], #[]⟩), rZ 21 (.unOp .not 4 (tZ 20))]
def K2_ConditionTotals_r2 : List SO := [rZ 6 (.assign (.const (.bool false)))]
def K2_ConditionTotals_r3 : List SO := [ldZ 23 28 3, rZ 24 (.indexAddr 29 (tZ 4) (ciZ 0)), ldZ 25 5 24, rZ 26 (.call ⟨(.value (.func (11 : Nat))), #[(tZ 23), (tZ 25)], #[28, 5]⟩), mvZ 22 26, exZ 27 22 0, exZ 28 22 1, rZ 7 (.alloc 32), stZ 32 7 27, asZ 8 28]
def K2_ConditionTotals_r4 : List SO := [ldZ 30 28 3, rZ 31 (.indexAddr 29 (tZ 4) (ciZ 0)), ldZ 32 5 31, rZ 33 (.indexAddr 29 (tZ 4) (ciZ 1)), ldZ 34 5 33, rZ 35 (.indexAddr 29 (tZ 4) (ciZ 2)), ldZ 36 5 35, rZ 37 (.call ⟨(.value (.func (12 : Nat))), #[(tZ 30), (tZ 32), (tZ 34), (tZ 36)], #[28, 5, 5, 5]⟩), mvZ 29 37, exZ 38 29 0, exZ 39 29 1, rZ 9 (.alloc 32), stZ 32 9 38, asZ 10 39]
def K2_ConditionTotals_r5 : List SO := [ldZ 41 28 3, ldZ 42 29 4, rZ 43 (.call ⟨(.value (.func (13 : Nat))), #[(tZ 41), (tZ 42)], #[28, 29]⟩), mvZ 40 43, exZ 44 40 0, exZ 45 40 1, rZ 11 (.alloc 32), stZ 32 11 44, asZ 12 45]
def K2_ConditionTotals_r6 : List SO := [ldZ 47 28 3, mvZ 48 2, rZ 49 (.indexAddr 29 (tZ 4) (ciZ 3)), ldZ 50 5 49, rZ 51 (.call ⟨(.value (.func (14 : Nat))), #[(tZ 47), (tZ 48), (tZ 50)], #[28, 9, 5]⟩), mvZ 46 51, exZ 52 46 0, exZ 53 46 1, rZ 13 (.alloc 32), stZ 32 13 52, asZ 14 53]
def K2_ConditionTotals_r7 : List SO := [ldZ 54 28 3, rZ 55 (.call ⟨(.value (.func (15 : Nat))), #[(tZ 54)], #[28]⟩), bcZ 56 .neq 33 55 0 33]
def K2_ConditionTotals_r8 : List SO := [mvZ 57 8, bcZ 58 .neq 33 57 0 33, mvZ 59 58, gZ 59 true (mvZ 60 10), gZ 59 true (bcZ 61 .neq 33 60 0 33), rZ 62 (.pick (tZ 59) (tZ 61) (.const (.bool false))), mvZ 63 62, gZ 63 true (mvZ 64 12), gZ 63 true (bcZ 65 .neq 33 64 0 33), rZ 66 (.pick (tZ 63) (tZ 65) (.const (.bool false))), mvZ 67 66, gZ 67 true (mvZ 68 14), gZ 67 true (bcZ 69 .neq 33 68 0 33), rZ 70 (.pick (tZ 67) (tZ 69) (.const (.bool false))), asZ 6 70]
def K2_ConditionTotals_r9 : List SO := [mvZ 71 8, bcZ 72 .neq 33 71 0 33, mvZ 73 72, gZ 73 false (mvZ 74 10), gZ 73 false (bcZ 75 .neq 33 74 0 33), rZ 76 (.pick (tZ 73) (.const (.bool true)) (tZ 75)), mvZ 77 76, gZ 77 false (mvZ 78 12), gZ 77 false (bcZ 79 .neq 33 78 0 33), gZ 77 false (mvZ 80 79), gZ 80 true (faZ 81 28 3 1), gZ 80 true (ldZ 82 23 81), gZ 80 true (rZ 83 (.call ⟨(.builtin .len), #[(tZ 82)], #[23]⟩)), gZ 80 true (bcZ 84 .gtr 3 83 0 3), gZ 77 false (rZ 85 (.pick (tZ 80) (tZ 84) (.const (.bool false)))), rZ 86 (.pick (tZ 77) (.const (.bool true)) (tZ 85)), mvZ 87 86, gZ 87 false (mvZ 88 14), gZ 87 false (bcZ 89 .neq 33 88 0 33), gZ 87 false (mvZ 90 89), gZ 90 true (mvZ 91 14), gZ 90 true (bcZ 92 .neq 33 91 6 33), gZ 87 false (rZ 93 (.pick (tZ 90) (tZ 92) (.const (.bool false)))), rZ 94 (.pick (tZ 87) (.const (.bool true)) (tZ 93))]
def K2_ConditionTotals_r10 : List SO := [rZ 6 (.assign (.const (.bool false)))]
def K2_ConditionTotals_r11 : List SO := [ldZ 95 32 7, ldZ 96 32 9, ldZ 97 32 11, ldZ 98 32 13, rZ 99 (.build 40 #[(0, (tZ 95)), (1, (tZ 96)), (2, (tZ 97)), (3, (tZ 98))]), rZ 100 (.move (ciZ 0))]
def K2_ConditionTotals_r12 : List SO := [bcZ 101 .lss 3 100 4 3]
def K2_ConditionTotals_r13 : List SO := [rZ 102 (.index 40 (tZ 99) (tZ 100)), rZ 16 (.alloc 32), stZ 32 16 102]
def K2_ConditionTotals_r14 : List SO := [rZ 17 (.assign (ciZ 0))]
def K2_ConditionTotals_r15 : List SO := [ldZ 103 32 16, rZ 104 (.move (ciZ 0))]
def K2_ConditionTotals_r16 : List SO := [bcZ 105 .lss 3 104 8 3]
def K2_ConditionTotals_r17 : List SO := [mvZ 106 104, rZ 107 (.index 32 (tZ 103) (tZ 104)), asZ 18 106, asZ 19 107]
def K2_ConditionTotals_r18 : List SO := [mvZ 108 17, mvZ 109 19, rZ 110 (.convert 5 3 (tZ 109)), boZ 111 .add 3 108 110 3, asZ 17 111]
def K2_ConditionTotals_r19 : List SO := [mvZ 112 18, faZ 113 28 3 0, ldZ 114 22 113, rZ 115 (.call ⟨(.builtin .len), #[(tZ 114)], #[22]⟩), boZ 116 .geq 3 112 115 3, mvZ 117 116, gZ 117 true (mvZ 118 19), gZ 117 true (rZ 119 (.binOp .gtr 5 (tZ 118) (.const (.int .u8 0)) 5)), rZ 120 (.pick (tZ 117) (tZ 119) (.const (.bool false)))]
def K2_ConditionTotals_r20 : List SO := [rZ 6 (.assign (.const (.bool false)))]
def K2_ConditionTotals_r21 : List SO := [bcZ 121 .add 3 104 1 3, mvZ 104 121]
def K2_ConditionTotals_r22 : List SO := [mvZ 122 17, faZ 123 28 3 6, ldZ 124 3 123, boZ 125 .gtr 3 122 124 3]
def K2_ConditionTotals_r23 : List SO := [rZ 6 (.assign (.const (.bool false)))]
def K2_ConditionTotals_r24 : List SO := [bcZ 126 .add 3 100 1 3, mvZ 100 126]
def K2_ConditionTotals_r25 : List SO := [rZ 6 (.assign (.const (.bool true)))]
def K2_ConditionTotals_c : SF := ⟨127, (.seq (.reg K2_ConditionTotals_r0)
  (.seq (.seq (.reg K2_ConditionTotals_r1)
  (.cond (tZ 21) (.seq (.reg K2_ConditionTotals_r2)
  .ret) .skip))
  (.seq (.reg K2_ConditionTotals_r3)
  (.seq (.reg K2_ConditionTotals_r4)
  (.seq (.reg K2_ConditionTotals_r5)
  (.seq (.reg K2_ConditionTotals_r6)
  (.seq (.seq (.reg K2_ConditionTotals_r7)
  (.cond (tZ 56) (.seq (.reg K2_ConditionTotals_r8)
  .ret) .skip))
  (.seq (.seq (.reg K2_ConditionTotals_r9)
  (.cond (tZ 94) (.seq (.reg K2_ConditionTotals_r10)
  .ret) .skip))
  (.seq (.seq (.reg K2_ConditionTotals_r11)
  (.block 0 (.loop (.seq (.reg K2_ConditionTotals_r12)
  (.seq (.cond (tZ 101) .skip (.exit 0))
  (.seq (.block 1 (.seq (.reg K2_ConditionTotals_r13)
  (.seq (.reg K2_ConditionTotals_r14)
  (.seq (.seq (.reg K2_ConditionTotals_r15)
  (.block 2 (.loop (.seq (.reg K2_ConditionTotals_r16)
  (.seq (.cond (tZ 105) .skip (.exit 2))
  (.seq (.block 3 (.seq (.reg K2_ConditionTotals_r17)
  (.seq (.reg K2_ConditionTotals_r18)
  (.seq (.reg K2_ConditionTotals_r19)
  (.cond (tZ 120) (.seq (.reg K2_ConditionTotals_r20)
  .ret) .skip)))))
  (.reg K2_ConditionTotals_r21)))))))
  (.seq (.reg K2_ConditionTotals_r22)
  (.cond (tZ 125) (.seq (.reg K2_ConditionTotals_r23)
  .ret) .skip))))))
  (.reg K2_ConditionTotals_r24)))))))
  (.seq (.reg K2_ConditionTotals_r25)
  .ret)))))))))), [.tmp 6]⟩
theorem K2_ConditionTotals_s : slimF Try.prog 3 = some K2_ConditionTotals_c := by kernel_rfl
abbrev K2_ConditionTotals_f : Nat := 3

end Go.Proofs.Ytogbkhopanaoiaa
