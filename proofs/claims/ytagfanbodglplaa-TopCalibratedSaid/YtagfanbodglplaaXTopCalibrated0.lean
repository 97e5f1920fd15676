/- Printed by program: the functions' code in few words; the kernel checks it against the translation. -/
import Derived.Test.YtagfanbodglplaaRows
import Derived.Test.YtagfanbodglplaaLiteTP
namespace Go.Proofs.Ytagfanbodglplaa
open Go Go.Lite
set_option linter.unusedVariables false

/-- Int -/
abbrev Ey : Nat := 0
/-- Int × Int × List (Int) -/
abbrev E2iLyJ : Nat := 1
/-- Int -/
abbrev Ei : Nat := 2
/-- Int × Int -/
abbrev E2i : Nat := 3
@[reducible] def A (e : Nat) : Type := match e with
  | 0 => Int
  | 1 => Int × Int × List (Int)
  | 2 => Int
  | 3 => Int × Int
  | 4 => List (Int × Int)
  | 5 => ByteArray
  | 6 => ByteArray × List (Int)
  | _ => Unit
def eSz (e : Nat) : Nat := match e with
  | 0 => 1
  | 1 => 3
  | 2 => 1
  | 3 => 2
  | 4 => 1
  | 5 => 1
  | 6 => 2
  | _ => 1
def eD (e : Nat) : A e := match e with
  | 0 => (0 : Int)
  | 1 => ((0 : Int), (0 : Int), ([] : List (Int)))
  | 2 => (0 : Int)
  | 3 => ((0 : Int), (0 : Int))
  | 4 => ([] : List (Int × Int))
  | 5 => (⟨#[]⟩ : ByteArray)
  | 6 => ((⟨#[]⟩ : ByteArray), ([] : List (Int)))
  | _ + 7 => ()
def encL0 (x : Int) : List LV := [.int .u8 (x)]
def enc0 (x : Int) : List (TV A) := [.int .u8 (x)]
def dec0 (cs : List (TV A)) : Option (Int) := match cs with
  | [.int .u8 x0] => some x0
  | _ => none
def encL1 (x : Int × Int × List (Int)) : List LV := [.int .i64 (x.1), .int .i64 (x.2.1), .ps 1 (List.length (x.2.2)) (List.flatMap encL0 (x.2.2))]
def enc1 (x : Int × Int × List (Int)) : List (TV A) := [.int .i64 (x.1), .int .i64 (x.2.1), .lst 0 (x.2.2)]
def dec1 (cs : List (TV A)) : Option (Int × Int × List (Int)) := match cs with
  | [.int .i64 x0, .int .i64 x1, .lst 0 x2] => some (x0, x1, x2)
  | _ => none
def encL2 (x : Int) : List LV := [.int .i64 (x)]
def enc2 (x : Int) : List (TV A) := [.int .i64 (x)]
def dec2 (cs : List (TV A)) : Option (Int) := match cs with
  | [.int .i64 x0] => some x0
  | _ => none
def encL3 (x : Int × Int) : List LV := [.int .i64 (x.1), .int .i64 (x.2)]
def enc3 (x : Int × Int) : List (TV A) := [.int .i64 (x.1), .int .i64 (x.2)]
def dec3 (cs : List (TV A)) : Option (Int × Int) := match cs with
  | [.int .i64 x0, .int .i64 x1] => some (x0, x1)
  | _ => none
def encL4 (x : List (Int × Int)) : List LV := [.ps 2 (List.length (x)) (List.flatMap encL3 (x))]
def enc4 (x : List (Int × Int)) : List (TV A) := [.lst 3 (x)]
def dec4 (cs : List (TV A)) : Option (List (Int × Int)) := match cs with
  | [.lst 3 x0] => some x0
  | _ => none
def encL5 (x : ByteArray) : List LV := [.str (x)]
def enc5 (x : ByteArray) : List (TV A) := [.str (x)]
def dec5 (cs : List (TV A)) : Option (ByteArray) := match cs with
  | [.str x0] => some x0
  | _ => none
def encL6 (x : ByteArray × List (Int)) : List LV := [.str (x.1), .ps 1 (List.length (x.2)) (List.flatMap encL0 (x.2))]
def enc6 (x : ByteArray × List (Int)) : List (TV A) := [.str (x.1), .lst 0 (x.2)]
def dec6 (cs : List (TV A)) : Option (ByteArray × List (Int)) := match cs with
  | [.str x0, .lst 0 x1] => some (x0, x1)
  | _ => none
def eEncL (e : Nat) (a : A e) : List LV := match e, a with
  | 0, a => encL0 a
  | 1, a => encL1 a
  | 2, a => encL2 a
  | 3, a => encL3 a
  | 4, a => encL4 a
  | 5, a => encL5 a
  | 6, a => encL6 a
  | _ + 7, _ => [.nilp]
def eEnc (e : Nat) (a : A e) : List (TV A) := match e, a with
  | 0, a => enc0 a
  | 1, a => enc1 a
  | 2, a => enc2 a
  | 3, a => enc3 a
  | 4, a => enc4 a
  | 5, a => enc5 a
  | 6, a => enc6 a
  | _ + 7, _ => [.nilp]
def eDec (e : Nat) (cs : List (TV A)) : Option (A e) := match e with
  | 0 => dec0 cs
  | 1 => dec1 cs
  | 2 => dec2 cs
  | 3 => dec3 cs
  | 4 => dec4 cs
  | 5 => dec5 cs
  | 6 => dec6 cs
  | _ + 7 => none
def eEl (t : Nat) : Option Nat := match t with
  | 55 => some 1
  | 24 => some 2
  | 58 => some 3
  | 41 => some 3
  | 23 => some 4
  | 43 => some 0
  | 102 => some 3
  | 22 => some 5
  | 123 => some 6
  | 42 => some 2
  | 119 => some 5
  | 158 => some 2
  | 142 => some 2
  | 140 => some 2
  | _ => none
def fl (e : Nat) : Bool := match e with
  | 0 => true
  | 1 => false
  | 2 => true
  | 3 => true
  | 4 => false
  | 5 => true
  | 6 => false
  | _ => false
def eByt (e : Nat) : Option (List (A e) → List Int) := match e with
  | 0 => some fun xs => xs
  | _ => none
theorem flat1 : ∀ xs : List Int, xs.flatMap (fun x => [LV.int .u8 x]) = xs.map (LV.int .u8)
  | [] => rfl
  | x :: r => congrArg (LV.int .u8 x :: ·) (flat1 r)
def R : Reg A := ⟨eSz, eD, eEncL, eEnc, eDec, eEl, eByt⟩
theorem R_ok : R.Ok where
  pos e := by show 0 < eSz e; unfold eSz; split <;> decide
  len e a := match e, a with
    | 0, a => rfl
    | 1, a => rfl
    | 2, a => rfl
    | 3, a => rfl
    | 4, a => rfl
    | 5, a => rfl
    | 6, a => rfl
    | e + 7, a => rfl
  ok e a := match e, a with
    | 0, a => rfl
    | 1, a => rfl
    | 2, a => rfl
    | 3, a => rfl
    | 4, a => rfl
    | 5, a => rfl
    | 6, a => rfl
    | e + 7, a => rfl
  dec e cs a h := match e, a, h with
    | 0, a, h => by
      replace h : dec0 cs = some a := h
      unfold dec0 at h
      split at h
      · cases h; rfl
      · cases h
    | 1, a, h => by
      replace h : dec1 cs = some a := h
      unfold dec1 at h
      split at h
      · cases h; rfl
      · cases h
    | 2, a, h => by
      replace h : dec2 cs = some a := h
      unfold dec2 at h
      split at h
      · cases h; rfl
      · cases h
    | 3, a, h => by
      replace h : dec3 cs = some a := h
      unfold dec3 at h
      split at h
      · cases h; rfl
      · cases h
    | 4, a, h => by
      replace h : dec4 cs = some a := h
      unfold dec4 at h
      split at h
      · cases h; rfl
      · cases h
    | 5, a, h => by
      replace h : dec5 cs = some a := h
      unfold dec5 at h
      split at h
      · cases h; rfl
      · cases h
    | 6, a, h => by
      replace h : dec6 cs = some a := h
      unfold dec6 at h
      split at h
      · cases h; rfl
      · cases h
    | e + 7, a, h => by cases h
  free e a := match e, a with
    | 0, a => rfl
    | 1, a => rfl
    | 2, a => rfl
    | 3, a => rfl
    | 4, a => rfl
    | 5, a => rfl
    | 6, a => rfl
    | e + 7, a => rfl
  sol e a := match e, a with
    | 0, a => rfl
    | 1, a => rfl
    | 2, a => rfl
    | 3, a => rfl
    | 4, a => rfl
    | 5, a => rfl
    | 6, a => rfl
    | e + 7, a => rfl
  byt e f h xs := match e, f, h with
    | 0, f, h => by cases h; exact flat1 xs
    | 1, f, h => by cases h
    | 2, f, h => by cases h
    | 3, f, h => by cases h
    | 4, f, h => by cases h
    | 5, f, h => by cases h
    | 6, f, h => by cases h
    | e + 7, f, h => by cases h
theorem fl_ok : ∀ e, fl e = true → ∀ a, psfreeL (R.encL e a) = true := fun e h a => match e, h, a with
  | 0, h, a => rfl
  | 1, h, a => by cases h
  | 2, h, a => rfl
  | 3, h, a => rfl
  | 4, h, a => by cases h
  | 5, h, a => rfl
  | 6, h, a => by cases h
  | e + 7, h, a => rfl

def tyL : List (Nat × TI) := [(0, ⟨.other, 1, false, [.dead]⟩),
  (28, ⟨.struct [(0, 1, false), (1, 1, false), (2, 1, false), (3, 4, true)], 7, true, [.str ⟨([] : List UInt8).toArray⟩, .nils, .nils, .int .i64 0, .int .i64 0, .int .i64 0, .nils]⟩),
  (30, ⟨.struct [(0, 1, false), (1, 1, false), (2, 1, false)], 3, true, [.int .i64 0, .int .i64 0, .int .i64 0]⟩),
  (3, ⟨.int .i64, 1, false, [.int .i64 0]⟩),
  (33, ⟨.int .i64, 1, false, [.int .i64 0]⟩),
  (4, ⟨.bool, 1, false, [.bool false]⟩),
  (40, ⟨.struct [(0, 1, false), (1, 1, false), (2, 1, false)], 3, true, [.int .i64 0, .int .i64 0, .int .i64 0]⟩),
  (42, ⟨.arr 18 1 false, 18, true, [.int .i64 0, .int .i64 0, .int .i64 0, .int .i64 0, .int .i64 0, .int .i64 0, .int .i64 0, .int .i64 0, .int .i64 0, .int .i64 0, .int .i64 0, .int .i64 0, .int .i64 0, .int .i64 0, .int .i64 0, .int .i64 0, .int .i64 0, .int .i64 0]⟩),
  (5, ⟨.int .u8, 1, false, [.int .u8 0]⟩),
  (49, ⟨.struct [(0, 1, false), (1, 1, false), (2, 1, false)], 3, true, [.int .i64 0, .int .i64 0, .nils]⟩),
  (45, ⟨.struct [(0, 1, false), (1, 1, false), (2, 1, false)], 3, true, [.int .i64 0, .int .i64 0, .nils]⟩),
  (55, ⟨.slice 3 40 [.int .i64 0, .int .i64 0, .nils], 1, false, [.nils]⟩),
  (24, ⟨.slice 1 8 [.int .i64 0], 1, false, [.nils]⟩),
  (57, ⟨.struct [(0, 1, false), (1, 1, false)], 2, true, [.int .i64 0, .int .i64 0]⟩),
  (58, ⟨.slice 2 16 [.int .i64 0, .int .i64 0], 1, false, [.nils]⟩),
  (52, ⟨.struct [(0, 1, false), (1, 1, false), (2, 1, false)], 3, true, [.int .i64 0, .int .i64 0, .nils]⟩),
  (61, ⟨.struct [(0, 1, false), (1, 1, false)], 2, true, [.int .i64 0, .int .i64 0]⟩),
  (41, ⟨.slice 2 16 [.int .i64 0, .int .i64 0], 1, false, [.nils]⟩),
  (63, ⟨.struct [(0, 1, false)], 1, true, [.nils]⟩),
  (23, ⟨.slice 1 24 [.nils], 1, false, [.nils]⟩),
  (26, ⟨.struct [(0, 1, false), (1, 1, false), (2, 1, false), (3, 1, false)], 4, true, [.int .i64 0, .int .i64 0, .int .i64 0, .nils]⟩),
  (43, ⟨.slice 1 1 [.int .u8 0], 1, false, [.nils]⟩),
  (87, ⟨.other, 1, false, [.nilp]⟩),
  (90, ⟨.other, 1, false, [.nilp]⟩),
  (93, ⟨.other, 1, false, [.nilp]⟩),
  (99, ⟨.other, 1, false, [.nilp]⟩),
  (104, ⟨.struct [(0, 1, false), (1, 1, false)], 2, true, [.int .i64 0, .int .i64 0]⟩),
  (102, ⟨.slice 2 16 [.int .i64 0, .int .i64 0], 1, false, [.nils]⟩),
  (22, ⟨.slice 1 16 [.str ⟨([] : List UInt8).toArray⟩], 1, false, [.nils]⟩),
  (117, ⟨.arr 4 1 false, 4, true, [.nils, .nils, .nils, .nils]⟩),
  (9, ⟨.str, 1, false, [.str ⟨([] : List UInt8).toArray⟩]⟩),
  (119, ⟨.arr 4 1 false, 4, true, [.str ⟨([] : List UInt8).toArray⟩, .str ⟨([] : List UInt8).toArray⟩, .str ⟨([] : List UInt8).toArray⟩, .str ⟨([] : List UInt8).toArray⟩]⟩),
  (123, ⟨.slice 2 40 [.str ⟨([] : List UInt8).toArray⟩, .nils], 1, false, [.nils]⟩),
  (127, ⟨.struct [(0, 1, false), (1, 1, false)], 2, true, [.str ⟨([] : List UInt8).toArray⟩, .nils]⟩),
  (132, ⟨.struct [(0, 1, false)], 1, true, [.nils]⟩),
  (135, ⟨.int .i16, 1, false, [.int .i16 0]⟩),
  (148, ⟨.other, 1, false, [.nilf]⟩),
  (155, ⟨.struct [(0, 1, false), (1, 1, false), (2, 1, false)], 3, true, [.int .i64 0, .int .i64 0, .int .i64 0]⟩),
  (158, ⟨.arr 256 1 false, 256, true, [.int .i64 0, .int .i64 0, .int .i64 0, .int .i64 0, .int .i64 0, .int .i64 0, .int .i64 0, .int .i64 0, .int .i64 0, .int .i64 0, .int .i64 0, .int .i64 0, .int .i64 0, .int .i64 0, .int .i64 0, .int .i64 0, .int .i64 0, .int .i64 0, .int .i64 0, .int .i64 0, .int .i64 0, .int .i64 0, .int .i64 0, .int .i64 0, .int .i64 0, .int .i64 0, .int .i64 0, .int .i64 0, .int .i64 0, .int .i64 0, .int .i64 0, .int .i64 0, .int .i64 0, .int .i64 0, .int .i64 0, .int .i64 0, .int .i64 0, .int .i64 0, .int .i64 0, .int .i64 0, .int .i64 0, .int .i64 0, .int .i64 0, .int .i64 0, .int .i64 0, .int .i64 0, .int .i64 0, .int .i64 0, .int .i64 0, .int .i64 0, .int .i64 0, .int .i64 0, .int .i64 0, .int .i64 0, .int .i64 0, .int .i64 0, .int .i64 0, .int .i64 0, .int .i64 0, .int .i64 0, .int .i64 0, .int .i64 0, .int .i64 0, .int .i64 0, .int .i64 0, .int .i64 0, .int .i64 0, .int .i64 0, .int .i64 0, .int .i64 0, .int .i64 0, .int .i64 0, .int .i64 0, .int .i64 0, .int .i64 0, .int .i64 0, .int .i64 0, .int .i64 0, .int .i64 0, .int .i64 0, .int .i64 0, .int .i64 0, .int .i64 0, .int .i64 0, .int .i64 0, .int .i64 0, .int .i64 0, .int .i64 0, .int .i64 0, .int .i64 0, .int .i64 0, .int .i64 0, .int .i64 0, .int .i64 0, .int .i64 0, .int .i64 0, .int .i64 0, .int .i64 0, .int .i64 0, .int .i64 0, .int .i64 0, .int .i64 0, .int .i64 0, .int .i64 0, .int .i64 0, .int .i64 0, .int .i64 0, .int .i64 0, .int .i64 0, .int .i64 0, .int .i64 0, .int .i64 0, .int .i64 0, .int .i64 0, .int .i64 0, .int .i64 0, .int .i64 0, .int .i64 0, .int .i64 0, .int .i64 0, .int .i64 0, .int .i64 0, .int .i64 0, .int .i64 0, .int .i64 0, .int .i64 0, .int .i64 0, .int .i64 0, .int .i64 0, .int .i64 0, .int .i64 0, .int .i64 0, .int .i64 0, .int .i64 0, .int .i64 0, .int .i64 0, .int .i64 0, .int .i64 0, .int .i64 0, .int .i64 0, .int .i64 0, .int .i64 0, .int .i64 0, .int .i64 0, .int .i64 0, .int .i64 0, .int .i64 0, .int .i64 0, .int .i64 0, .int .i64 0, .int .i64 0, .int .i64 0, .int .i64 0, .int .i64 0, .int .i64 0, .int .i64 0, .int .i64 0, .int .i64 0, .int .i64 0, .int .i64 0, .int .i64 0, .int .i64 0, .int .i64 0, .int .i64 0, .int .i64 0, .int .i64 0, .int .i64 0, .int .i64 0, .int .i64 0, .int .i64 0, .int .i64 0, .int .i64 0, .int .i64 0, .int .i64 0, .int .i64 0, .int .i64 0, .int .i64 0, .int .i64 0, .int .i64 0, .int .i64 0, .int .i64 0, .int .i64 0, .int .i64 0, .int .i64 0, .int .i64 0, .int .i64 0, .int .i64 0, .int .i64 0, .int .i64 0, .int .i64 0, .int .i64 0, .int .i64 0, .int .i64 0, .int .i64 0, .int .i64 0, .int .i64 0, .int .i64 0, .int .i64 0, .int .i64 0, .int .i64 0, .int .i64 0, .int .i64 0, .int .i64 0, .int .i64 0, .int .i64 0, .int .i64 0, .int .i64 0, .int .i64 0, .int .i64 0, .int .i64 0, .int .i64 0, .int .i64 0, .int .i64 0, .int .i64 0, .int .i64 0, .int .i64 0, .int .i64 0, .int .i64 0, .int .i64 0, .int .i64 0, .int .i64 0, .int .i64 0, .int .i64 0, .int .i64 0, .int .i64 0, .int .i64 0, .int .i64 0, .int .i64 0, .int .i64 0, .int .i64 0, .int .i64 0, .int .i64 0, .int .i64 0, .int .i64 0, .int .i64 0, .int .i64 0, .int .i64 0, .int .i64 0, .int .i64 0, .int .i64 0, .int .i64 0, .int .i64 0, .int .i64 0, .int .i64 0, .int .i64 0, .int .i64 0, .int .i64 0, .int .i64 0, .int .i64 0, .int .i64 0, .int .i64 0, .int .i64 0, .int .i64 0, .int .i64 0, .int .i64 0, .int .i64 0]⟩),
  (160, ⟨.other, 1, false, [.nilf]⟩),
  (161, ⟨.int .u32, 1, false, [.int .u32 0]⟩),
  (142, ⟨.arr 4 1 false, 4, true, [.int .i64 0, .int .i64 0, .int .i64 0, .int .i64 0]⟩),
  (20, ⟨.other, 1, false, [.dead]⟩),
  (129, ⟨.struct [], 0, true, []⟩),
  (166, ⟨.other, 1, false, [.nilp]⟩),
  (141, ⟨.arr 4 3 true, 12, true, [.int .i64 0, .int .i64 0, .int .i64 0, .int .i64 0, .int .i64 0, .int .i64 0, .int .i64 0, .int .i64 0, .int .i64 0, .int .i64 0, .int .i64 0, .int .i64 0]⟩),
  (140, ⟨.arr 3 1 false, 3, true, [.int .i64 0, .int .i64 0, .int .i64 0]⟩),
  (170, ⟨.other, 1, false, [.nilf]⟩),
  (174, ⟨.other, 1, false, [.nilf]⟩),
  (32, ⟨.other, 1, false, [.nilf]⟩),
  (162, ⟨.int .u64, 1, false, [.int .u64 0]⟩),
  (190, ⟨.int .u64, 1, false, [.int .u64 0]⟩),
  (181, ⟨.int .i64, 1, false, [.int .i64 0]⟩),
  (191, ⟨.int .u64, 1, false, [.int .u64 0]⟩),
  (195, ⟨.other, 1, false, [.nilp]⟩),
  (197, ⟨.other, 1, false, [.nilp]⟩)]
theorem tyL_ok : okL (tiOf Try.prog) tyL := ⟨by kernel_rfl, by kernel_rfl, by kernel_rfl, by kernel_rfl, by kernel_rfl, by kernel_rfl, by kernel_rfl, by kernel_rfl, by kernel_rfl, by kernel_rfl, by kernel_rfl, by kernel_rfl, by kernel_rfl, by kernel_rfl, by kernel_rfl, by kernel_rfl, by kernel_rfl, by kernel_rfl, by kernel_rfl, by kernel_rfl, by kernel_rfl, by kernel_rfl, by kernel_rfl, by kernel_rfl, by kernel_rfl, by kernel_rfl, by kernel_rfl, by kernel_rfl, by kernel_rfl, by kernel_rfl, by kernel_rfl, by kernel_rfl, by kernel_rfl, by kernel_rfl, by kernel_rfl, by kernel_rfl, by kernel_rfl, by kernel_rfl, by kernel_rfl, by kernel_rfl, by kernel_rfl, by kernel_rfl, by kernel_rfl, by kernel_rfl, by kernel_rfl, by kernel_rfl, by kernel_rfl, by kernel_rfl, by kernel_rfl, by kernel_rfl, by kernel_rfl, by kernel_rfl, by kernel_rfl, by kernel_rfl, by kernel_rfl, by kernel_rfl, trivial⟩
def eqL : List (Nat × List Nat) := [(30, [0, 0, 0]), (61, [0, 0])]
theorem eqL_ok : okL (eqOf Try.prog) eqL := ⟨by kernel_rfl, by kernel_rfl, trivial⟩
def nlL : List (Nat × Nat) := [(33, 0), (30, 0), (3, 0), (4, 0), (5, 0), (9, 0), (20, 0), (61, 0), (181, 0), (43, 3), (135, 0), (161, 0), (162, 0), (190, 0)]
theorem nlL_ok : okN (nilOf Try.prog) nlL := ⟨by kernel_rfl, by kernel_rfl, by kernel_rfl, by kernel_rfl, by kernel_rfl, by kernel_rfl, by kernel_rfl, by kernel_rfl, by kernel_rfl, by kernel_rfl, by kernel_rfl, by kernel_rfl, by kernel_rfl, by kernel_rfl, trivial⟩
noncomputable def ty : TT := ⟨lookT tyL (tiOf Try.prog), lookT eqL (eqOf Try.prog), lookN nlL (nilOf Try.prog)⟩
theorem ty_ok : ty = ttOf Try.prog := by
  unfold ty ttOf
  rw [lookT_eq tyL_ok, lookT_eq eqL_ok, lookN_eq nlL_ok]
theorem rdy : R.d Ey = (0 : Int) := rfl
theorem rd2iLyJ : R.d E2iLyJ = ((0 : Int), (0 : Int), ([] : List (Int))) := rfl
theorem rdi : R.d Ei = (0 : Int) := rfl
theorem rd2i : R.d E2i = ((0 : Int), (0 : Int)) := rfl
theorem env : Env A R Try.prog ty fl := ⟨R_ok, ty_ok, fl_ok, by kernel_rfl⟩

abbrev tZ (a : Nat) : Operand := .tmp a
abbrev ciZ (k : Int) : Operand := .const (.int .i64 k)
abbrev mvZ (d a : Nat) : SO := ⟨some d, .move (.tmp a), none⟩
abbrev ldZ (d t a : Nat) : SO := ⟨some d, .load t (.tmp a), none⟩
abbrev faZ (d t a i : Nat) : SO := ⟨some d, .fieldAddr t (.tmp a) i, none⟩
abbrev iaZ (d t a b : Nat) : SO := ⟨some d, .indexAddr t (.tmp a) (.tmp b), none⟩
abbrev asZ (d a : Nat) : SO := ⟨some d, .assign (.tmp a), none⟩
abbrev exZ (d a i : Nat) : SO := ⟨some d, .extract (.tmp a) i, none⟩
abbrev boZ (d : Nat) (o : BinOp) (t a b r : Nat) : SO := ⟨some d, .binOp o t (.tmp a) (.tmp b) r, none⟩
abbrev bcZ (d : Nat) (o : BinOp) (t a : Nat) (k : Int) (r : Nat) : SO := ⟨some d, .binOp o t (.tmp a) (.const (.int .i64 k)) r, none⟩
abbrev stZ (t a b : Nat) : SO := ⟨none, .store t (.tmp a) (.tmp b), none⟩
abbrev gZ (g : Nat) (b : Bool) (s : SO) : SO := ⟨s.dst, s.op, some (g, b)⟩
abbrev rZ (d : Nat) (o : Op) : SO := ⟨some d, o, none⟩

end Go.Proofs.Ytagfanbodglplaa
namespace Go.Proofs.Ytagfanbodglplaa
open Go Go.Lite
set_option linter.unusedVariables false

/-- printworks/sheet.Print -/
def sheet_Print_r0 : List SO := [rZ 6 (.alloc 52), rZ 7 (.assign (ciZ 0))]
def sheet_Print_r1 : List SO := [mvZ 14 0, mvZ 15 1, mvZ 16 2, rZ 17 (.call ⟨(.value (.func (42 : Nat))), #[(tZ 14), (tZ 15), (tZ 16)], #[55, 24, 58]⟩), asZ 8 17]
def sheet_Print_r2 : List SO := [mvZ 18 8, bcZ 19 .neq 33 18 0 33]
def sheet_Print_r3 : List SO := [rZ 20 (.build 52 #[]), mvZ 21 8, stZ 52 6 20, asZ 7 21]
def sheet_Print_r4 : List SO := [mvZ 22 0, rZ 23 (.indexAddr 55 (tZ 22) (ciZ 0)), faZ 24 45 23 0, ldZ 25 3 24, mvZ 26 0, rZ 27 (.indexAddr 55 (tZ 26) (ciZ 0)), faZ 28 45 27 1, ldZ 29 3 28, mvZ 30 0, rZ 31 (.indexAddr 55 (tZ 30) (ciZ 0)), faZ 32 45 31 0, ldZ 33 3 32, mvZ 34 0, rZ 35 (.indexAddr 55 (tZ 34) (ciZ 0)), faZ 36 45 35 1, ldZ 37 3 36, boZ 38 .mul 3 33 37 3, rZ 39 (.makeSlice 43 (tZ 38) (tZ 38)), rZ 40 (.build 52 #[(0, (tZ 25)), (1, (tZ 29)), (2, (tZ 39))]), rZ 9 (.alloc 52), stZ 52 9 40]
def sheet_Print_a4 : List (List Nat) := [[], [0], [1], [2], [], [4], [5], [6], [], [8], [9], [10], [], [12], [13], [14], [11, 15], [16, 16], [3, 7, 17], [], [19, 18, 0, 1, 2, 3, 4, 5, 6, 7, 8, 9, 10, 11, 12, 13, 14, 15, 16, 17, 18, 19]]
def sheet_Print_r5 : List SO := [mvZ 41 0, rZ 42 (.call ⟨(.builtin .len), #[(tZ 41)], #[55]⟩), rZ 43 (.move (ciZ 0))]
def sheet_Print_r6 : List SO := [boZ 44 .lss 3 43 42 3]
def sheet_Print_r7 : List SO := [mvZ 45 43, asZ 10 45]
def sheet_Print_r8 : List SO := [mvZ 46 0, mvZ 47 10, iaZ 48 55 46 47, mvZ 49 1, mvZ 50 10, iaZ 51 24 49 50, ldZ 52 3 51, rZ 53 (.call ⟨(.value (.func (43 : Nat))), #[(tZ 48), (tZ 52)], #[99, 3]⟩), rZ 11 (.alloc 45), stZ 45 11 53]
def sheet_Print_a8 : List (List Nat) := [[], [], [0, 1], [], [], [3, 4], [5], [2, 6], [], [8, 7, 7, 0, 1, 2, 3, 4, 5, 6, 7, 8]]
def sheet_Print_r9 : List SO := [faZ 54 52 9 1, ldZ 55 3 54, rZ 56 (.move (ciZ 0))]
def sheet_Print_r10 : List SO := [boZ 57 .lss 3 56 55 3]
def sheet_Print_r11 : List SO := [mvZ 58 56, asZ 12 58]
def sheet_Print_r12 : List SO := [faZ 59 52 9 0, ldZ 60 3 59, rZ 61 (.move (ciZ 0))]
def sheet_Print_r13 : List SO := [boZ 62 .lss 3 61 60 3]
def sheet_Print_r14 : List SO := [mvZ 63 61, asZ 13 63]
def sheet_Print_r15 : List SO := [mvZ 64 13, mvZ 65 2, mvZ 66 10, iaZ 67 58 65 66, faZ 68 57 67 0, ldZ 69 3 68, boZ 70 .sub 3 64 69 3, mvZ 71 12, mvZ 72 2, mvZ 73 10, iaZ 74 58 72 73, faZ 75 57 74 1, ldZ 76 3 75, boZ 77 .sub 3 71 76 3, rZ 78 (.call ⟨(.value (.func (44 : Nat))), #[(tZ 11), (tZ 70), (tZ 77)], #[99, 3, 3]⟩)]
def sheet_Print_a15 : List (List Nat) := [[], [], [], [1, 2], [3], [4], [0, 5], [], [], [], [8, 9], [10], [11], [7, 12], [6, 13]]
def sheet_Print_r16 : List SO := [faZ 79 52 9 2, ldZ 80 43 79, mvZ 81 12, faZ 82 52 9 0, ldZ 83 3 82, boZ 84 .mul 3 81 83 3, mvZ 85 13, boZ 86 .add 3 84 85 3, iaZ 87 43 80 86, ldZ 88 5 87, mvZ 89 10, rZ 90 (.binOp .shl 5 (.const (.int .u8 1)) (tZ 89) 3), boZ 91 .or 5 88 90 5, iaZ 92 43 80 86, stZ 5 92 91]
def sheet_Print_a16 : List (List Nat) := [[], [0], [], [], [3], [2, 4], [], [5, 6], [1, 7], [8], [], [10], [9, 11], [1, 7, 0, 1, 2, 3, 4, 5, 6, 7, 8, 9, 10, 11, 12], [13, 12, 0, 1, 2, 3, 4, 5, 6, 7, 8, 9, 10, 11, 12]]
def sheet_Print_r17 : List SO := [bcZ 93 .add 3 61 1 3, mvZ 61 93]
def sheet_Print_r18 : List SO := [bcZ 94 .add 3 56 1 3, mvZ 56 94]
def sheet_Print_r19 : List SO := [bcZ 95 .add 3 43 1 3, mvZ 43 95]
def sheet_Print_r20 : List SO := [ldZ 96 52 9, stZ 52 6 96, rZ 7 (.assign (ciZ 0))]
def sheet_Print_c : SF := ⟨97, (.seq (.reg sheet_Print_r0)
  (.seq (.seq (.reg sheet_Print_r1)
  (.seq (.reg sheet_Print_r2)
  (.cond (tZ 19) (.seq (.reg sheet_Print_r3)
  .ret) .skip)))
  (.seq (.regd sheet_Print_r4 sheet_Print_a4)
  (.seq (.seq (.reg sheet_Print_r5)
  (.block 0 (.loop (.seq (.reg sheet_Print_r6)
  (.seq (.cond (tZ 44) .skip (.exit 0))
  (.seq (.block 1 (.seq (.reg sheet_Print_r7)
  (.seq (.regd sheet_Print_r8 sheet_Print_a8)
  (.seq (.reg sheet_Print_r9)
  (.block 2 (.loop (.seq (.reg sheet_Print_r10)
  (.seq (.cond (tZ 57) .skip (.exit 2))
  (.seq (.block 3 (.seq (.reg sheet_Print_r11)
  (.seq (.reg sheet_Print_r12)
  (.block 4 (.loop (.seq (.reg sheet_Print_r13)
  (.seq (.cond (tZ 62) .skip (.exit 4))
  (.seq (.block 5 (.seq (.reg sheet_Print_r14)
  (.seq (.regd sheet_Print_r15 sheet_Print_a15)
  (.cond (tZ 78) (.regd sheet_Print_r16 sheet_Print_a16) .skip))))
  (.reg sheet_Print_r17)))))))))
  (.reg sheet_Print_r18))))))))))
  (.reg sheet_Print_r19)))))))
  (.seq (.reg sheet_Print_r20)
  .ret))))), [.cell 6 52, .tmp 7]⟩
theorem sheet_Print_s : slimF Try.prog 16 = some sheet_Print_c := by kernel_rfl
abbrev sheet_Print_f : Nat := 16
/-- printworks/sheet.Counts -/
def sheet_Counts_r0 : List SO := [rZ 2 (.box 52 (tZ 0)), rZ 4 (.assign (.const (.slice none 0 0))), rZ 5 (.assign (ciZ 0))]
def sheet_Counts_r1 : List SO := [ldZ 10 52 2, rZ 11 (.call ⟨(.value (.func (45 : Nat))), #[(tZ 10)], #[52]⟩), asZ 6 11]
def sheet_Counts_r2 : List SO := [mvZ 12 6, bcZ 13 .neq 33 12 0 33]
def sheet_Counts_r3 : List SO := [mvZ 14 6, rZ 4 (.assign (.const (.slice none 0 0))), asZ 5 14]
def sheet_Counts_r4 : List SO := [mvZ 15 1, bcZ 16 .lss 3 15 1 3, mvZ 17 16, gZ 17 false (mvZ 18 1), gZ 17 false (bcZ 19 .gtr 3 18 8 3), rZ 20 (.pick (tZ 17) (.const (.bool true)) (tZ 19))]
def sheet_Counts_r5 : List SO := [rZ 4 (.assign (.const (.slice none 0 0))), rZ 5 (.assign (ciZ 3))]
def sheet_Counts_r6 : List SO := [mvZ 21 1, rZ 22 (.binOp .shl 3 (ciZ 1) (tZ 21) 3), rZ 23 (.makeSlice 24 (tZ 22) (tZ 22)), asZ 7 23]
def sheet_Counts_r7 : List SO := [faZ 24 52 2 2, ldZ 25 43 24, rZ 26 (.call ⟨(.builtin .len), #[(tZ 25)], #[43]⟩), rZ 27 (.move (ciZ 0))]
def sheet_Counts_r8 : List SO := [boZ 28 .lss 3 27 26 3]
def sheet_Counts_r9 : List SO := [iaZ 29 43 25 27, ldZ 30 5 29, asZ 9 30]
def sheet_Counts_r10 : List SO := [mvZ 31 9, rZ 32 (.convert 5 3 (tZ 31)), mvZ 33 7, rZ 34 (.call ⟨(.builtin .len), #[(tZ 33)], #[24]⟩), boZ 35 .geq 3 32 34 3]
def sheet_Counts_r11 : List SO := [rZ 4 (.assign (.const (.slice none 0 0))), rZ 5 (.assign (ciZ 4))]
def sheet_Counts_r12 : List SO := [mvZ 36 7, mvZ 37 9, iaZ 38 24 36 37, ldZ 39 3 38, bcZ 40 .add 3 39 1 3, iaZ 41 24 36 37, stZ 3 41 40]
def sheet_Counts_r13 : List SO := [bcZ 42 .add 3 27 1 3, mvZ 27 42]
def sheet_Counts_r14 : List SO := [mvZ 43 7, asZ 4 43, rZ 5 (.assign (ciZ 0))]
def sheet_Counts_c : SF := ⟨44, (.seq (.reg sheet_Counts_r0)
  (.seq (.seq (.reg sheet_Counts_r1)
  (.seq (.reg sheet_Counts_r2)
  (.cond (tZ 13) (.seq (.reg sheet_Counts_r3)
  .ret) .skip)))
  (.seq (.seq (.reg sheet_Counts_r4)
  (.cond (tZ 20) (.seq (.reg sheet_Counts_r5)
  .ret) .skip))
  (.seq (.reg sheet_Counts_r6)
  (.seq (.seq (.reg sheet_Counts_r7)
  (.block 0 (.loop (.seq (.reg sheet_Counts_r8)
  (.seq (.cond (tZ 28) .skip (.exit 0))
  (.seq (.block 1 (.seq (.reg sheet_Counts_r9)
  (.seq (.seq (.reg sheet_Counts_r10)
  (.cond (tZ 35) (.seq (.reg sheet_Counts_r11)
  .ret) .skip))
  (.reg sheet_Counts_r12))))
  (.reg sheet_Counts_r13)))))))
  (.seq (.reg sheet_Counts_r14)
  .ret)))))), [.tmp 4, .tmp 5]⟩
theorem sheet_Counts_s : slimF Try.prog 17 = some sheet_Counts_c := by kernel_rfl
abbrev sheet_Counts_f : Nat := 17
/-- printworks/sheet.check -/
def sheet_check_r0 : List SO := [rZ 6 (.assign (ciZ 0))]
def sheet_check_r1 : List SO := [mvZ 12 0, rZ 13 (.call ⟨(.builtin .len), #[(tZ 12)], #[55]⟩), bcZ 14 .gtr 3 13 8 3, asZ 11 14]
def sheet_check_r2 : List SO := [rZ 6 (.assign (ciZ 2))]
def sheet_check_r3 : List SO := [mvZ 16 0, rZ 17 (.call ⟨(.builtin .len), #[(tZ 16)], #[55]⟩), bcZ 18 .eql 3 17 0 3, asZ 15 18]
def sheet_check_r4 : List SO := [rZ 6 (.assign (ciZ 1))]
def sheet_check_r5 : List SO := [mvZ 20 1, rZ 21 (.call ⟨(.builtin .len), #[(tZ 20)], #[24]⟩), mvZ 22 0, rZ 23 (.call ⟨(.builtin .len), #[(tZ 22)], #[55]⟩), boZ 24 .neq 3 21 23 3, mvZ 25 24, gZ 25 false (mvZ 26 2), gZ 25 false (rZ 27 (.call ⟨(.builtin .len), #[(tZ 26)], #[58]⟩)), gZ 25 false (mvZ 28 0), gZ 25 false (rZ 29 (.call ⟨(.builtin .len), #[(tZ 28)], #[55]⟩)), gZ 25 false (boZ 30 .neq 3 27 29 3), rZ 31 (.pick (tZ 25) (.const (.bool true)) (tZ 30)), asZ 19 31]
def sheet_check_r6 : List SO := [rZ 6 (.assign (ciZ 4))]
def sheet_check_r7 : List SO := [mvZ 32 0, rZ 33 (.call ⟨(.builtin .len), #[(tZ 32)], #[55]⟩), rZ 34 (.move (ciZ 0))]
def sheet_check_r8 : List SO := [boZ 35 .lss 3 34 33 3]
def sheet_check_r9 : List SO := [mvZ 36 34, iaZ 37 55 32 34, ldZ 38 45 37, rZ 8 (.alloc 45), asZ 7 36, stZ 45 8 38]
def sheet_check_r10 : List SO := [ldZ 39 45 8, rZ 40 (.call ⟨(.value (.func (80 : Nat))), #[(tZ 39)], #[45]⟩), asZ 9 40]
def sheet_check_r11 : List SO := [mvZ 41 9, bcZ 42 .neq 33 41 0 33]
def sheet_check_r12 : List SO := [mvZ 43 9, asZ 6 43]
def sheet_check_r13 : List SO := [faZ 44 45 8 0, ldZ 45 3 44, mvZ 46 0, rZ 47 (.indexAddr 55 (tZ 46) (ciZ 0)), faZ 48 45 47 0, ldZ 49 3 48, boZ 50 .neq 3 45 49 3, mvZ 51 50, gZ 51 false (faZ 52 45 8 1), gZ 51 false (ldZ 53 3 52), gZ 51 false (mvZ 54 0), gZ 51 false (rZ 55 (.indexAddr 55 (tZ 54) (ciZ 0))), gZ 51 false (faZ 56 45 55 1), gZ 51 false (ldZ 57 3 56), gZ 51 false (boZ 58 .neq 3 53 57 3), rZ 59 (.pick (tZ 51) (.const (.bool true)) (tZ 58))]
def sheet_check_a13 : List (List Nat) := [[], [0], [], [2], [3], [4], [1, 5], [6], [7], [8, 7], [7], [10, 7], [11, 7], [12, 7], [9, 13, 7], [7, 14]]
def sheet_check_r14 : List SO := [rZ 6 (.assign (ciZ 4))]
def sheet_check_r15 : List SO := [mvZ 60 1, mvZ 61 7, iaZ 62 24 60 61, ldZ 63 3 62, bcZ 64 .lss 3 63 0 3, mvZ 65 64, gZ 65 false (mvZ 66 1), gZ 65 false (mvZ 67 7), gZ 65 false (iaZ 68 24 66 67), gZ 65 false (ldZ 69 3 68), gZ 65 false (bcZ 70 .gtr 3 69 16 3), rZ 71 (.pick (tZ 65) (.const (.bool true)) (tZ 70))]
def sheet_check_r16 : List SO := [rZ 6 (.assign (ciZ 3))]
def sheet_check_r17 : List SO := [mvZ 72 2, mvZ 73 7, iaZ 74 58 72 73, ldZ 75 57 74, rZ 10 (.alloc 57), stZ 57 10 75]
def sheet_check_r18 : List SO := [faZ 76 57 10 0, ldZ 77 3 76, rZ 78 (.binOp .lss 3 (tZ 77) (.const (.int .i64 (-1024))) 3), mvZ 79 78, gZ 79 false (faZ 80 57 10 0), gZ 79 false (ldZ 81 3 80), gZ 79 false (bcZ 82 .gtr 3 81 1024 3), rZ 83 (.pick (tZ 79) (.const (.bool true)) (tZ 82)), mvZ 84 83, gZ 84 false (faZ 85 57 10 1), gZ 84 false (ldZ 86 3 85), gZ 84 false (rZ 87 (.binOp .lss 3 (tZ 86) (.const (.int .i64 (-1024))) 3)), rZ 88 (.pick (tZ 84) (.const (.bool true)) (tZ 87)), mvZ 89 88, gZ 89 false (faZ 90 57 10 1), gZ 89 false (ldZ 91 3 90), gZ 89 false (bcZ 92 .gtr 3 91 1024 3), rZ 93 (.pick (tZ 89) (.const (.bool true)) (tZ 92))]
def sheet_check_r19 : List SO := [rZ 6 (.assign (ciZ 3))]
def sheet_check_r20 : List SO := [bcZ 94 .add 3 34 1 3, mvZ 34 94]
def sheet_check_r21 : List SO := [rZ 6 (.assign (ciZ 0))]
def sheet_check_c : SF := ⟨95, (.seq (.reg sheet_check_r0)
  (.seq (.block 0 (.seq (.reg sheet_check_r1)
  (.cond (tZ 11) (.seq (.reg sheet_check_r2)
  .ret) (.seq (.reg sheet_check_r3)
  (.cond (tZ 15) (.seq (.reg sheet_check_r4)
  .ret) (.seq (.reg sheet_check_r5)
  (.cond (tZ 19) (.seq (.reg sheet_check_r6)
  .ret) .skip)))))))
  (.seq (.seq (.reg sheet_check_r7)
  (.block 1 (.loop (.seq (.reg sheet_check_r8)
  (.seq (.cond (tZ 35) .skip (.exit 1))
  (.seq (.block 2 (.seq (.reg sheet_check_r9)
  (.seq (.seq (.reg sheet_check_r10)
  (.seq (.reg sheet_check_r11)
  (.cond (tZ 42) (.seq (.reg sheet_check_r12)
  .ret) .skip)))
  (.seq (.seq (.regd sheet_check_r13 sheet_check_a13)
  (.cond (tZ 59) (.seq (.reg sheet_check_r14)
  .ret) .skip))
  (.seq (.seq (.reg sheet_check_r15)
  (.cond (tZ 71) (.seq (.reg sheet_check_r16)
  .ret) .skip))
  (.seq (.reg sheet_check_r17)
  (.seq (.reg sheet_check_r18)
  (.cond (tZ 93) (.seq (.reg sheet_check_r19)
  .ret) .skip))))))))
  (.reg sheet_check_r20)))))))
  (.seq (.reg sheet_check_r21)
  .ret)))), [.tmp 6]⟩
theorem sheet_check_s : slimF Try.prog 42 = some sheet_check_c := by kernel_rfl
abbrev sheet_check_f : Nat := 42
/-- printworks/sheet.Check -/
def sheet_Check_r0 : List SO := [rZ 1 (.box 52 (tZ 0)), rZ 2 (.assign (ciZ 0))]
def sheet_Check_r1 : List SO := [faZ 3 52 1 0, ldZ 4 3 3, bcZ 5 .lss 3 4 1 3, mvZ 6 5, gZ 6 false (faZ 7 52 1 0), gZ 6 false (ldZ 8 3 7), gZ 6 false (bcZ 9 .gtr 3 8 1024 3), rZ 10 (.pick (tZ 6) (.const (.bool true)) (tZ 9)), mvZ 11 10, gZ 11 false (faZ 12 52 1 1), gZ 11 false (ldZ 13 3 12), gZ 11 false (bcZ 14 .lss 3 13 1 3), rZ 15 (.pick (tZ 11) (.const (.bool true)) (tZ 14)), mvZ 16 15, gZ 16 false (faZ 17 52 1 1), gZ 16 false (ldZ 18 3 17), gZ 16 false (bcZ 19 .gtr 3 18 1024 3), rZ 20 (.pick (tZ 16) (.const (.bool true)) (tZ 19))]
def sheet_Check_r2 : List SO := [rZ 2 (.assign (ciZ 3))]
def sheet_Check_r3 : List SO := [faZ 21 52 1 2, ldZ 22 43 21, rZ 23 (.call ⟨(.builtin .len), #[(tZ 22)], #[43]⟩), faZ 24 52 1 0, ldZ 25 3 24, faZ 26 52 1 1, ldZ 27 3 26, boZ 28 .mul 3 25 27 3, boZ 29 .neq 3 23 28 3]
def sheet_Check_r4 : List SO := [rZ 2 (.assign (ciZ 4))]
def sheet_Check_r5 : List SO := [rZ 2 (.assign (ciZ 0))]
def sheet_Check_c : SF := ⟨30, (.seq (.reg sheet_Check_r0)
  (.seq (.seq (.reg sheet_Check_r1)
  (.cond (tZ 20) (.seq (.reg sheet_Check_r2)
  .ret) .skip))
  (.seq (.seq (.reg sheet_Check_r3)
  (.cond (tZ 29) (.seq (.reg sheet_Check_r4)
  .ret) .skip))
  (.seq (.reg sheet_Check_r5)
  .ret)))), [.tmp 2]⟩
theorem sheet_Check_s : slimF Try.prog 45 = some sheet_Check_c := by kernel_rfl
abbrev sheet_Check_f : Nat := 45

end Go.Proofs.Ytagfanbodglplaa
namespace Go.Proofs.Ytagfanbodglplaa
open Go Go.Lite
set_option linter.unusedVariables false

/-- printworks/bitmap.Count -/
def bitmap_Count_r0 : List SO := [rZ 1 (.box 45 (tZ 0)), rZ 2 (.assign (ciZ 0)), rZ 3 (.assign (ciZ 0))]
def bitmap_Count_r1 : List SO := [ldZ 8 45 1, rZ 9 (.call ⟨(.value (.func (80 : Nat))), #[(tZ 8)], #[45]⟩), asZ 4 9]
def bitmap_Count_r2 : List SO := [mvZ 10 4, bcZ 11 .neq 33 10 0 33]
def bitmap_Count_r3 : List SO := [mvZ 12 4, rZ 2 (.assign (ciZ 0)), asZ 3 12]
def bitmap_Count_r4 : List SO := [rZ 5 (.assign (ciZ 0))]
def bitmap_Count_r5 : List SO := [faZ 13 45 1 2, ldZ 14 43 13, rZ 15 (.call ⟨(.builtin .len), #[(tZ 14)], #[43]⟩), rZ 16 (.move (ciZ 0))]
def bitmap_Count_r6 : List SO := [boZ 17 .lss 3 16 15 3]
def bitmap_Count_r7 : List SO := [iaZ 18 43 14 16, ldZ 19 5 18, asZ 7 19]
def bitmap_Count_r8 : List SO := [mvZ 20 5, mvZ 21 7, rZ 22 (.call ⟨(.value (.func (81 : Nat))), #[(tZ 21)], #[5]⟩), boZ 23 .add 3 20 22 3, asZ 5 23]
def bitmap_Count_r9 : List SO := [bcZ 24 .add 3 16 1 3, mvZ 16 24]
def bitmap_Count_r10 : List SO := [mvZ 25 5, asZ 2 25, rZ 3 (.assign (ciZ 0))]
def bitmap_Count_c : SF := ⟨26, (.seq (.reg bitmap_Count_r0)
  (.seq (.seq (.reg bitmap_Count_r1)
  (.seq (.reg bitmap_Count_r2)
  (.cond (tZ 11) (.seq (.reg bitmap_Count_r3)
  .ret) .skip)))
  (.seq (.reg bitmap_Count_r4)
  (.seq (.seq (.reg bitmap_Count_r5)
  (.block 0 (.loop (.seq (.reg bitmap_Count_r6)
  (.seq (.cond (tZ 17) .skip (.exit 0))
  (.seq (.block 1 (.seq (.reg bitmap_Count_r7)
  (.reg bitmap_Count_r8)))
  (.reg bitmap_Count_r9)))))))
  (.seq (.reg bitmap_Count_r10)
  .ret))))), [.tmp 2, .tmp 3]⟩
theorem bitmap_Count_s : slimF Try.prog 38 = some bitmap_Count_c := by kernel_rfl
abbrev bitmap_Count_f : Nat := 38
/-- printworks/bitmap.Blank -/
def bitmap_Blank_r0 : List SO := [rZ 4 (.alloc 45)]
def bitmap_Blank_r1 : List SO := [mvZ 5 0, mvZ 6 1, mvZ 7 0, rZ 8 (.call ⟨(.value (.func (83 : Nat))), #[(tZ 7)], #[3]⟩), mvZ 9 1, boZ 10 .mul 3 8 9 3, rZ 11 (.makeSlice 43 (tZ 10) (tZ 10)), rZ 12 (.build 45 #[(0, (tZ 5)), (1, (tZ 6)), (2, (tZ 11))]), stZ 45 4 12]
def bitmap_Blank_c : SF := ⟨13, (.seq (.reg bitmap_Blank_r0)
  (.seq (.reg bitmap_Blank_r1)
  .ret)), [.cell 4 45]⟩
theorem bitmap_Blank_s : slimF Try.prog 40 = some bitmap_Blank_c := by kernel_rfl
abbrev bitmap_Blank_f : Nat := 40
/-- printworks/bitmap.Grown -/
def bitmap_Grown_r0 : List SO := [rZ 4 (.alloc 45)]
def bitmap_Grown_r1 : List SO := [mvZ 7 0, rZ 8 (.nilCheck (tZ 7)), ldZ 9 45 8, rZ 5 (.alloc 45), stZ 45 5 9]
def bitmap_Grown_r2 : List SO := [mvZ 10 0, rZ 11 (.nilCheck (tZ 10)), faZ 12 45 11 2, ldZ 13 43 12, rZ 14 (.call ⟨(.builtin .append), #[(.const (.slice none 0 0)), (tZ 13)], #[43, 43]⟩), faZ 15 45 5 2, stZ 43 15 14]
def bitmap_Grown_r3 : List SO := [mvZ 16 1, rZ 17 (.move (ciZ 0))]
def bitmap_Grown_r4 : List SO := [boZ 18 .lss 3 17 16 3]
def bitmap_Grown_r5 : List SO := [ldZ 19 45 5, rZ 6 (.alloc 45), stZ 45 6 19]
def bitmap_Grown_r6 : List SO := [faZ 20 45 6 0, ldZ 21 3 20, faZ 22 45 6 1, ldZ 23 3 22, rZ 24 (.makeFunc (.func (89 : Nat)) #[] #[(tZ 6)]), rZ 25 (.call ⟨(.value (.func (88 : Nat))), #[(tZ 21), (tZ 23), (tZ 24)], #[3, 3, 160]⟩), stZ 45 5 25]
def bitmap_Grown_r7 : List SO := [bcZ 26 .add 3 17 1 3, mvZ 17 26]
def bitmap_Grown_r8 : List SO := [ldZ 27 45 5, stZ 45 4 27]
def bitmap_Grown_c : SF := ⟨28, (.seq (.reg bitmap_Grown_r0)
  (.seq (.reg bitmap_Grown_r1)
  (.seq (.reg bitmap_Grown_r2)
  (.seq (.seq (.reg bitmap_Grown_r3)
  (.block 0 (.loop (.seq (.reg bitmap_Grown_r4)
  (.seq (.cond (tZ 18) .skip (.exit 0))
  (.seq (.block 1 (.seq (.reg bitmap_Grown_r5)
  (.reg bitmap_Grown_r6)))
  (.reg bitmap_Grown_r7)))))))
  (.seq (.reg bitmap_Grown_r8)
  .ret))))), [.cell 4 45]⟩
theorem bitmap_Grown_s : slimF Try.prog 43 = some bitmap_Grown_c := by kernel_rfl
abbrev bitmap_Grown_f : Nat := 43
/-- printworks/bitmap.Is -/
def bitmap_Is_r0 : List SO := [rZ 6 (.assign (.const (.bool false)))]
def bitmap_Is_r1 : List SO := [mvZ 7 1, bcZ 8 .geq 3 7 0 3, mvZ 9 8, gZ 9 true (mvZ 10 1), gZ 9 true (mvZ 11 0), gZ 9 true (rZ 12 (.nilCheck (tZ 11))), gZ 9 true (faZ 13 45 12 0), gZ 9 true (ldZ 14 3 13), gZ 9 true (boZ 15 .lss 3 10 14 3), rZ 16 (.pick (tZ 9) (tZ 15) (.const (.bool false))), mvZ 17 16, gZ 17 true (mvZ 18 2), gZ 17 true (bcZ 19 .geq 3 18 0 3), rZ 20 (.pick (tZ 17) (tZ 19) (.const (.bool false))), mvZ 21 20, gZ 21 true (mvZ 22 2), gZ 21 true (mvZ 23 0), gZ 21 true (rZ 24 (.nilCheck (tZ 23))), gZ 21 true (faZ 25 45 24 1), gZ 21 true (ldZ 26 3 25), gZ 21 true (boZ 27 .lss 3 22 26 3), rZ 28 (.pick (tZ 21) (tZ 27) (.const (.bool false))), mvZ 29 28, gZ 29 true (mvZ 30 0), gZ 29 true (rZ 31 (.nilCheck (tZ 30))), gZ 29 true (faZ 32 45 31 2), gZ 29 true (ldZ 33 43 32), gZ 29 true (mvZ 34 2), gZ 29 true (mvZ 35 0), gZ 29 true (rZ 36 (.nilCheck (tZ 35))), gZ 29 true (faZ 37 45 36 0), gZ 29 true (ldZ 38 3 37), gZ 29 true (rZ 39 (.call ⟨(.value (.func (83 : Nat))), #[(tZ 38)], #[3]⟩)), gZ 29 true (boZ 40 .mul 3 34 39 3), gZ 29 true (mvZ 41 1), gZ 29 true (bcZ 42 .quo 3 41 8 3), gZ 29 true (boZ 43 .add 3 40 42 3), gZ 29 true (iaZ 44 43 33 43), gZ 29 true (ldZ 45 5 44), gZ 29 true (mvZ 46 1), gZ 29 true (bcZ 47 .rem 3 46 8 3), gZ 29 true (rZ 48 (.binOp .shr 5 (.const (.int .u8 128)) (tZ 47) 3)), gZ 29 true (boZ 49 .and 5 45 48 5), gZ 29 true (rZ 50 (.binOp .neq 5 (tZ 49) (.const (.int .u8 0)) 5)), rZ 51 (.pick (tZ 29) (tZ 50) (.const (.bool false))), asZ 6 51]
def bitmap_Is_a1 : List (List Nat) := [[], [0], [1], [2], [2], [4, 2], [5, 2], [6, 2], [3, 7, 2], [2, 8], [9, 2], [10], [11, 10], [10, 12], [13, 10], [14], [14], [16, 14], [17, 14], [18, 14], [15, 19, 14], [14, 20], [21, 14], [22], [23, 22], [24, 22], [25, 22], [22], [22], [28, 22], [29, 22], [30, 22], [31, 22, 22], [27, 32, 22], [22], [34, 22], [33, 35, 22], [26, 36, 22], [37, 22], [22], [39, 22], [40, 22], [38, 41, 22], [42, 22], [22, 43], [44, 32, 0, 1, 2, 3, 4, 5, 6, 7, 8, 9, 10, 11, 12, 13, 14, 15, 16, 17, 18, 19, 20, 21, 22, 23, 24, 25, 26, 27, 28, 29, 30, 31, 32, 33, 34, 35, 36, 37, 38, 39, 40, 41, 42, 43, 44]]
def bitmap_Is_c : SF := ⟨52, (.seq (.reg bitmap_Is_r0)
  (.seq (.regd bitmap_Is_r1 bitmap_Is_a1)
  .ret)), [.tmp 6]⟩
theorem bitmap_Is_s : slimF Try.prog 44 = some bitmap_Is_c := by kernel_rfl
abbrev bitmap_Is_f : Nat := 44
/-- printworks/bitmap.Check -/
def bitmap_Check_r0 : List SO := [rZ 1 (.box 45 (tZ 0)), rZ 2 (.assign (ciZ 0))]
def bitmap_Check_r1 : List SO := [faZ 6 45 1 0, ldZ 7 3 6, bcZ 8 .lss 3 7 1 3, mvZ 9 8, gZ 9 false (faZ 10 45 1 0), gZ 9 false (ldZ 11 3 10), gZ 9 false (bcZ 12 .gtr 3 11 1024 3), rZ 13 (.pick (tZ 9) (.const (.bool true)) (tZ 12)), mvZ 14 13, gZ 14 false (faZ 15 45 1 1), gZ 14 false (ldZ 16 3 15), gZ 14 false (bcZ 17 .lss 3 16 1 3), rZ 18 (.pick (tZ 14) (.const (.bool true)) (tZ 17)), mvZ 19 18, gZ 19 false (faZ 20 45 1 1), gZ 19 false (ldZ 21 3 20), gZ 19 false (bcZ 22 .gtr 3 21 1024 3), rZ 23 (.pick (tZ 19) (.const (.bool true)) (tZ 22))]
def bitmap_Check_r2 : List SO := [rZ 2 (.assign (ciZ 3))]
def bitmap_Check_r3 : List SO := [faZ 24 45 1 0, ldZ 25 3 24, rZ 26 (.call ⟨(.value (.func (83 : Nat))), #[(tZ 25)], #[3]⟩), asZ 3 26]
def bitmap_Check_r4 : List SO := [faZ 27 45 1 2, ldZ 28 43 27, rZ 29 (.call ⟨(.builtin .len), #[(tZ 28)], #[43]⟩), mvZ 30 3, faZ 31 45 1 1, ldZ 32 3 31, boZ 33 .mul 3 30 32 3, boZ 34 .neq 3 29 33 3]
def bitmap_Check_r5 : List SO := [rZ 2 (.assign (ciZ 4))]
def bitmap_Check_r6 : List SO := [mvZ 35 3, rZ 36 (.binOp .mul 3 (ciZ 8) (tZ 35) 3), faZ 37 45 1 0, ldZ 38 3 37, boZ 39 .sub 3 36 38 3, rZ 40 (.binOp .shl 5 (.const (.int .u8 1)) (tZ 39) 3), rZ 41 (.binOp .sub 5 (tZ 40) (.const (.int .u8 1)) 5), asZ 4 41]
def bitmap_Check_r7 : List SO := [mvZ 42 4, rZ 43 (.binOp .neq 5 (tZ 42) (.const (.int .u8 0)) 5)]
def bitmap_Check_r8 : List SO := [faZ 44 45 1 1, ldZ 45 3 44, rZ 46 (.move (ciZ 0))]
def bitmap_Check_r9 : List SO := [boZ 47 .lss 3 46 45 3]
def bitmap_Check_r10 : List SO := [mvZ 48 46, asZ 5 48]
def bitmap_Check_r11 : List SO := [faZ 49 45 1 2, ldZ 50 43 49, mvZ 51 5, mvZ 52 3, boZ 53 .mul 3 51 52 3, mvZ 54 3, boZ 55 .add 3 53 54 3, bcZ 56 .sub 3 55 1 3, iaZ 57 43 50 56, ldZ 58 5 57, mvZ 59 4, boZ 60 .and 5 58 59 5, rZ 61 (.binOp .neq 5 (tZ 60) (.const (.int .u8 0)) 5)]
def bitmap_Check_r12 : List SO := [rZ 2 (.assign (ciZ 4))]
def bitmap_Check_r13 : List SO := [bcZ 62 .add 3 46 1 3, mvZ 46 62]
def bitmap_Check_r14 : List SO := [rZ 2 (.assign (ciZ 0))]
def bitmap_Check_c : SF := ⟨63, (.seq (.reg bitmap_Check_r0)
  (.seq (.seq (.reg bitmap_Check_r1)
  (.cond (tZ 23) (.seq (.reg bitmap_Check_r2)
  .ret) .skip))
  (.seq (.reg bitmap_Check_r3)
  (.seq (.seq (.reg bitmap_Check_r4)
  (.cond (tZ 34) (.seq (.reg bitmap_Check_r5)
  .ret) .skip))
  (.seq (.seq (.reg bitmap_Check_r6)
  (.seq (.reg bitmap_Check_r7)
  (.cond (tZ 43) (.seq (.reg bitmap_Check_r8)
  (.block 0 (.loop (.seq (.reg bitmap_Check_r9)
  (.seq (.cond (tZ 47) .skip (.exit 0))
  (.seq (.block 1 (.seq (.reg bitmap_Check_r10)
  (.seq (.reg bitmap_Check_r11)
  (.cond (tZ 61) (.seq (.reg bitmap_Check_r12)
  .ret) .skip))))
  (.reg bitmap_Check_r13))))))) .skip)))
  (.seq (.reg bitmap_Check_r14)
  .ret)))))), [.tmp 2]⟩
theorem bitmap_Check_s : slimF Try.prog 80 = some bitmap_Check_c := by kernel_rfl
abbrev bitmap_Check_f : Nat := 80
/-- printworks/bitmap.stride -/
def bitmap_stride_r0 : List SO := [rZ 2 (.assign (ciZ 0))]
def bitmap_stride_r1 : List SO := [mvZ 3 0, bcZ 4 .add 3 3 7 3, bcZ 5 .quo 3 4 8 3, asZ 2 5]
def bitmap_stride_c : SF := ⟨6, (.seq (.reg bitmap_stride_r0)
  (.seq (.reg bitmap_stride_r1)
  .ret)), [.tmp 2]⟩
theorem bitmap_stride_s : slimF Try.prog 83 = some bitmap_stride_c := by kernel_rfl
abbrev bitmap_stride_f : Nat := 83
/-- printworks/bitmap.Grown$1 -/
def bitmap_Grown_1_r0 : List SO := [rZ 5 (.assign (.const (.bool false)))]
def bitmap_Grown_1_r1 : List SO := [mvZ 6 0, mvZ 7 1, rZ 8 (.call ⟨(.value (.func (44 : Nat))), #[(tZ 2), (tZ 6), (tZ 7)], #[99, 3, 3]⟩), mvZ 9 8, gZ 9 false (mvZ 10 0), gZ 9 false (bcZ 11 .sub 3 10 1 3), gZ 9 false (mvZ 12 1), gZ 9 false (rZ 13 (.call ⟨(.value (.func (44 : Nat))), #[(tZ 2), (tZ 11), (tZ 12)], #[99, 3, 3]⟩)), rZ 14 (.pick (tZ 9) (.const (.bool true)) (tZ 13)), mvZ 15 14, gZ 15 false (mvZ 16 0), gZ 15 false (bcZ 17 .add 3 16 1 3), gZ 15 false (mvZ 18 1), gZ 15 false (rZ 19 (.call ⟨(.value (.func (44 : Nat))), #[(tZ 2), (tZ 17), (tZ 18)], #[99, 3, 3]⟩)), rZ 20 (.pick (tZ 15) (.const (.bool true)) (tZ 19)), mvZ 21 20, gZ 21 false (mvZ 22 0), gZ 21 false (mvZ 23 1), gZ 21 false (bcZ 24 .sub 3 23 1 3), gZ 21 false (rZ 25 (.call ⟨(.value (.func (44 : Nat))), #[(tZ 2), (tZ 22), (tZ 24)], #[99, 3, 3]⟩)), rZ 26 (.pick (tZ 21) (.const (.bool true)) (tZ 25)), mvZ 27 26, gZ 27 false (mvZ 28 0), gZ 27 false (mvZ 29 1), gZ 27 false (bcZ 30 .add 3 29 1 3), gZ 27 false (rZ 31 (.call ⟨(.value (.func (44 : Nat))), #[(tZ 2), (tZ 28), (tZ 30)], #[99, 3, 3]⟩)), rZ 32 (.pick (tZ 27) (.const (.bool true)) (tZ 31)), asZ 5 32]
def bitmap_Grown_1_c : SF := ⟨33, (.seq (.reg bitmap_Grown_1_r0)
  (.seq (.reg bitmap_Grown_1_r1)
  .ret)), [.tmp 5]⟩
theorem bitmap_Grown_1_s : slimF Try.prog 89 = some bitmap_Grown_1_c := by kernel_rfl
abbrev bitmap_Grown_1_f : Nat := 89
/-- printworks/bitmap.from -/
def bitmap_from_r0 : List SO := [rZ 6 (.alloc 45)]
def bitmap_from_r1 : List SO := [mvZ 10 0, mvZ 11 1, rZ 12 (.call ⟨(.value (.func (40 : Nat))), #[(tZ 10), (tZ 11)], #[3, 3]⟩), rZ 7 (.alloc 45), stZ 45 7 12]
def bitmap_from_r2 : List SO := [mvZ 13 1, rZ 14 (.move (ciZ 0))]
def bitmap_from_r3 : List SO := [boZ 15 .lss 3 14 13 3]
def bitmap_from_r4 : List SO := [mvZ 16 14, asZ 8 16]
def bitmap_from_r5 : List SO := [mvZ 17 0, rZ 18 (.move (ciZ 0))]
def bitmap_from_r6 : List SO := [boZ 19 .lss 3 18 17 3]
def bitmap_from_r7 : List SO := [mvZ 20 18, asZ 9 20]
def bitmap_from_r8 : List SO := [mvZ 21 2, mvZ 22 9, mvZ 23 8, rZ 24 (.call ⟨(.value (tZ 21)), #[(tZ 22), (tZ 23)], #[3, 3]⟩)]
def bitmap_from_r9 : List SO := [mvZ 25 9, mvZ 26 8, rZ 27 (.call ⟨(.value (.func (107 : Nat))), #[(tZ 7), (tZ 25), (tZ 26)], #[99, 3, 3]⟩)]
def bitmap_from_r10 : List SO := [bcZ 28 .add 3 18 1 3, mvZ 18 28]
def bitmap_from_r11 : List SO := [bcZ 29 .add 3 14 1 3, mvZ 14 29]
def bitmap_from_r12 : List SO := [ldZ 30 45 7, stZ 45 6 30]
def bitmap_from_c : SF := ⟨31, (.seq (.reg bitmap_from_r0)
  (.seq (.reg bitmap_from_r1)
  (.seq (.seq (.reg bitmap_from_r2)
  (.block 0 (.loop (.seq (.reg bitmap_from_r3)
  (.seq (.cond (tZ 15) .skip (.exit 0))
  (.seq (.block 1 (.seq (.reg bitmap_from_r4)
  (.seq (.reg bitmap_from_r5)
  (.block 2 (.loop (.seq (.reg bitmap_from_r6)
  (.seq (.cond (tZ 19) .skip (.exit 2))
  (.seq (.block 3 (.seq (.reg bitmap_from_r7)
  (.seq (.reg bitmap_from_r8)
  (.cond (tZ 24) (.reg bitmap_from_r9) .skip))))
  (.reg bitmap_from_r10)))))))))
  (.reg bitmap_from_r11)))))))
  (.seq (.reg bitmap_from_r12)
  .ret)))), [.cell 6 45]⟩
theorem bitmap_from_s : slimF Try.prog 88 = some bitmap_from_c := by kernel_rfl
abbrev bitmap_from_f : Nat := 88
/-- printworks/bitmap.Mark -/
def bitmap_Mark_r0 : List SO := [mvZ 6 0, rZ 7 (.nilCheck (tZ 6)), faZ 8 45 7 2, ldZ 9 43 8, mvZ 10 2, mvZ 11 0, rZ 12 (.nilCheck (tZ 11)), faZ 13 45 12 0, ldZ 14 3 13, rZ 15 (.call ⟨(.value (.func (83 : Nat))), #[(tZ 14)], #[3]⟩), boZ 16 .mul 3 10 15 3, mvZ 17 1, bcZ 18 .quo 3 17 8 3, boZ 19 .add 3 16 18 3, iaZ 20 43 9 19, ldZ 21 5 20, mvZ 22 1, bcZ 23 .rem 3 22 8 3, rZ 24 (.binOp .shr 5 (.const (.int .u8 128)) (tZ 23) 3), boZ 25 .or 5 21 24 5, iaZ 26 43 9 19, stZ 5 26 25]
def bitmap_Mark_a0 : List (List Nat) := [[], [0], [1], [2], [], [], [5], [6], [7], [8], [4, 9], [], [11], [10, 12], [3, 13], [14], [], [16], [17], [15, 18], [3, 13, 0, 1, 2, 3, 4, 5, 6, 7, 8, 9, 10, 11, 12, 13, 14, 15, 16, 17, 18, 19], [20, 19, 9, 0, 1, 2, 3, 4, 5, 6, 7, 8, 9, 10, 11, 12, 13, 14, 15, 16, 17, 18, 19]]
def bitmap_Mark_c : SF := ⟨27, (.regd bitmap_Mark_r0 bitmap_Mark_a0), []⟩
theorem bitmap_Mark_s : slimF Try.prog 107 = some bitmap_Mark_c := by kernel_rfl
abbrev bitmap_Mark_f : Nat := 107

def tbl_bitmap : List (Nat × SF) := [(38, bitmap_Count_c), (40, bitmap_Blank_c), (43, bitmap_Grown_c), (44, bitmap_Is_c), (80, bitmap_Check_c), (83, bitmap_stride_c), (89, bitmap_Grown_1_c), (88, bitmap_from_c), (107, bitmap_Mark_c)]
theorem tbl_bitmap_ok : okT Try.prog tbl_bitmap := ⟨bitmap_Count_s, bitmap_Blank_s, bitmap_Grown_s, bitmap_Is_s, bitmap_Check_s, bitmap_stride_s, bitmap_Grown_1_s, bitmap_from_s, bitmap_Mark_s, trivial⟩

end Go.Proofs.Ytagfanbodglplaa
namespace Go.Proofs.Ytagfanbodglplaa
open Go Go.Lite
set_option linter.unusedVariables false

/-- printworks/printworksref2.Mod -/
def R2_Mod_r0 : List SO := [rZ 4 (.assign (ciZ 0))]
def R2_Mod_r1 : List SO := [mvZ 5 0, mvZ 6 1, mvZ 7 0, mvZ 8 1, rZ 9 (.call ⟨(.value (.func (33 : Nat))), #[(tZ 7), (tZ 8)], #[3, 3]⟩), boZ 10 .mul 3 6 9 3, boZ 11 .sub 3 5 10 3, asZ 4 11]
def R2_Mod_c : SF := ⟨12, (.seq (.reg R2_Mod_r0)
  (.seq (.reg R2_Mod_r1)
  .ret)), [.tmp 4]⟩
theorem R2_Mod_s : slimF Try.prog 8 = some R2_Mod_c := by kernel_rfl
/-- printworks/printworksref2.SameInts -/
def R2_SameInts_r0 : List SO := [rZ 4 (.assign (.const (.bool false)))]
def R2_SameInts_r1 : List SO := [mvZ 6 0, rZ 7 (.call ⟨(.builtin .len), #[(tZ 6)], #[24]⟩), mvZ 8 1, rZ 9 (.call ⟨(.builtin .len), #[(tZ 8)], #[24]⟩), boZ 10 .neq 3 7 9 3]
def R2_SameInts_r2 : List SO := [rZ 4 (.assign (.const (.bool false)))]
def R2_SameInts_r3 : List SO := [mvZ 11 0, rZ 12 (.call ⟨(.builtin .len), #[(tZ 11)], #[24]⟩), rZ 13 (.move (ciZ 0))]
def R2_SameInts_r4 : List SO := [boZ 14 .lss 3 13 12 3]
def R2_SameInts_r5 : List SO := [mvZ 15 13, asZ 5 15]
def R2_SameInts_r6 : List SO := [mvZ 16 0, mvZ 17 5, iaZ 18 24 16 17, ldZ 19 3 18, mvZ 20 1, mvZ 21 5, iaZ 22 24 20 21, ldZ 23 3 22, boZ 24 .neq 3 19 23 3]
def R2_SameInts_a6 : List (List Nat) := [[], [], [0, 1], [2], [], [], [4, 5], [6], [3, 7]]
def R2_SameInts_r7 : List SO := [rZ 4 (.assign (.const (.bool false)))]
def R2_SameInts_r8 : List SO := [bcZ 25 .add 3 13 1 3, mvZ 13 25]
def R2_SameInts_r9 : List SO := [rZ 4 (.assign (.const (.bool true)))]
def R2_SameInts_c : SF := ⟨26, (.seq (.reg R2_SameInts_r0)
  (.seq (.seq (.reg R2_SameInts_r1)
  (.cond (tZ 10) (.seq (.reg R2_SameInts_r2)
  .ret) .skip))
  (.seq (.seq (.reg R2_SameInts_r3)
  (.block 0 (.loop (.seq (.reg R2_SameInts_r4)
  (.seq (.cond (tZ 14) .skip (.exit 0))
  (.seq (.block 1 (.seq (.reg R2_SameInts_r5)
  (.seq (.regd R2_SameInts_r6 R2_SameInts_a6)
  (.cond (tZ 24) (.seq (.reg R2_SameInts_r7)
  .ret) .skip))))
  (.reg R2_SameInts_r8)))))))
  (.seq (.reg R2_SameInts_r9)
  .ret)))), [.tmp 4]⟩
theorem R2_SameInts_s : slimF Try.prog 27 = some R2_SameInts_c := by kernel_rfl
/-- printworks/printworksref2.SameProfiles -/
def R2_SameProfiles_r0 : List SO := [rZ 2 (.box 28 (tZ 0)), rZ 3 (.box 28 (tZ 1)), rZ 4 (.assign (.const (.bool false)))]
def R2_SameProfiles_r1 : List SO := [faZ 6 28 2 0, ldZ 7 9 6, faZ 8 28 3 0, ldZ 9 9 8, boZ 10 .neq 9 7 9 9, mvZ 11 10, gZ 11 false (faZ 12 28 2 1), gZ 11 false (ldZ 13 22 12), gZ 11 false (faZ 14 28 3 1), gZ 11 false (ldZ 15 22 14), gZ 11 false (rZ 16 (.call ⟨(.value (.func (52 : Nat))), #[(tZ 13), (tZ 15)], #[22, 22]⟩)), gZ 11 false (rZ 17 (.unOp .not 4 (tZ 16))), rZ 18 (.pick (tZ 11) (.const (.bool true)) (tZ 17)), mvZ 19 18, gZ 19 false (faZ 20 28 2 2), gZ 19 false (ldZ 21 23 20), gZ 19 false (rZ 22 (.call ⟨(.builtin .len), #[(tZ 21)], #[23]⟩)), gZ 19 false (faZ 23 28 3 2), gZ 19 false (ldZ 24 23 23), gZ 19 false (rZ 25 (.call ⟨(.builtin .len), #[(tZ 24)], #[23]⟩)), gZ 19 false (boZ 26 .neq 3 22 25 3), rZ 27 (.pick (tZ 19) (.const (.bool true)) (tZ 26)), mvZ 28 27, gZ 28 false (faZ 29 28 2 3), gZ 28 false (ldZ 30 26 29), gZ 28 false (faZ 31 28 3 3), gZ 28 false (ldZ 32 26 31), gZ 28 false (rZ 33 (.call ⟨(.value (.func (70 : Nat))), #[(tZ 30), (tZ 32)], #[26, 26]⟩)), gZ 28 false (rZ 34 (.unOp .not 4 (tZ 33))), rZ 35 (.pick (tZ 28) (.const (.bool true)) (tZ 34))]
def R2_SameProfiles_r2 : List SO := [rZ 4 (.assign (.const (.bool false)))]
def R2_SameProfiles_r3 : List SO := [faZ 36 28 2 2, ldZ 37 23 36, rZ 38 (.call ⟨(.builtin .len), #[(tZ 37)], #[23]⟩), rZ 39 (.move (ciZ 0))]
def R2_SameProfiles_r4 : List SO := [boZ 40 .lss 3 39 38 3]
def R2_SameProfiles_r5 : List SO := [mvZ 41 39, asZ 5 41]
def R2_SameProfiles_r6 : List SO := [faZ 42 28 2 2, ldZ 43 23 42, mvZ 44 5, iaZ 45 23 43 44, ldZ 46 63 45, faZ 47 28 3 2, ldZ 48 23 47, mvZ 49 5, iaZ 50 23 48 49, ldZ 51 63 50, rZ 52 (.call ⟨(.value (.func (71 : Nat))), #[(tZ 46), (tZ 51)], #[63, 63]⟩), rZ 53 (.unOp .not 4 (tZ 52))]
def R2_SameProfiles_a6 : List (List Nat) := [[], [0], [], [1, 2], [3], [], [5], [], [6, 7], [8], [4, 9], [10]]
def R2_SameProfiles_r7 : List SO := [rZ 4 (.assign (.const (.bool false)))]
def R2_SameProfiles_r8 : List SO := [bcZ 54 .add 3 39 1 3, mvZ 39 54]
def R2_SameProfiles_r9 : List SO := [rZ 4 (.assign (.const (.bool true)))]
def R2_SameProfiles_c : SF := ⟨55, (.seq (.reg R2_SameProfiles_r0)
  (.seq (.seq (.reg R2_SameProfiles_r1)
  (.cond (tZ 35) (.seq (.reg R2_SameProfiles_r2)
  .ret) .skip))
  (.seq (.seq (.reg R2_SameProfiles_r3)
  (.block 0 (.loop (.seq (.reg R2_SameProfiles_r4)
  (.seq (.cond (tZ 40) .skip (.exit 0))
  (.seq (.block 1 (.seq (.reg R2_SameProfiles_r5)
  (.seq (.regd R2_SameProfiles_r6 R2_SameProfiles_a6)
  (.cond (tZ 53) (.seq (.reg R2_SameProfiles_r7)
  .ret) .skip))))
  (.reg R2_SameProfiles_r8)))))))
  (.seq (.reg R2_SameProfiles_r9)
  .ret)))), [.tmp 4]⟩
theorem R2_SameProfiles_s : slimF Try.prog 31 = some R2_SameProfiles_c := by kernel_rfl
/-- printworks/printworksref2.Floor -/
def R2_Floor_r0 : List SO := [rZ 4 (.assign (ciZ 0))]
def R2_Floor_r1 : List SO := [mvZ 6 0, mvZ 7 1, boZ 8 .quo 3 6 7 3, asZ 5 8]
def R2_Floor_r2 : List SO := [mvZ 9 5, mvZ 10 1, boZ 11 .mul 3 9 10 3, mvZ 12 0, boZ 13 .gtr 3 11 12 3]
def R2_Floor_r3 : List SO := [mvZ 14 5, bcZ 15 .sub 3 14 1 3, asZ 5 15]
def R2_Floor_r4 : List SO := [mvZ 16 5, asZ 4 16]
def R2_Floor_c : SF := ⟨17, (.seq (.reg R2_Floor_r0)
  (.seq (.reg R2_Floor_r1)
  (.seq (.seq (.reg R2_Floor_r2)
  (.cond (tZ 13) (.reg R2_Floor_r3) .skip))
  (.seq (.reg R2_Floor_r4)
  .ret)))), [.tmp 4]⟩
theorem R2_Floor_s : slimF Try.prog 33 = some R2_Floor_c := by kernel_rfl
/-- printworks/printworksref2.SameTexts -/
def R2_SameTexts_r0 : List SO := [rZ 4 (.assign (.const (.bool false)))]
def R2_SameTexts_r1 : List SO := [mvZ 6 0, rZ 7 (.call ⟨(.builtin .len), #[(tZ 6)], #[22]⟩), mvZ 8 1, rZ 9 (.call ⟨(.builtin .len), #[(tZ 8)], #[22]⟩), boZ 10 .neq 3 7 9 3]
def R2_SameTexts_r2 : List SO := [rZ 4 (.assign (.const (.bool false)))]
def R2_SameTexts_r3 : List SO := [mvZ 11 0, rZ 12 (.call ⟨(.builtin .len), #[(tZ 11)], #[22]⟩), rZ 13 (.move (ciZ 0))]
def R2_SameTexts_r4 : List SO := [boZ 14 .lss 3 13 12 3]
def R2_SameTexts_r5 : List SO := [mvZ 15 13, asZ 5 15]
def R2_SameTexts_r6 : List SO := [mvZ 16 0, mvZ 17 5, iaZ 18 22 16 17, ldZ 19 9 18, mvZ 20 1, mvZ 21 5, iaZ 22 22 20 21, ldZ 23 9 22, boZ 24 .neq 9 19 23 9]
def R2_SameTexts_a6 : List (List Nat) := [[], [], [0, 1], [2], [], [], [4, 5], [6], [3, 7]]
def R2_SameTexts_r7 : List SO := [rZ 4 (.assign (.const (.bool false)))]
def R2_SameTexts_r8 : List SO := [bcZ 25 .add 3 13 1 3, mvZ 13 25]
def R2_SameTexts_r9 : List SO := [rZ 4 (.assign (.const (.bool true)))]
def R2_SameTexts_c : SF := ⟨26, (.seq (.reg R2_SameTexts_r0)
  (.seq (.seq (.reg R2_SameTexts_r1)
  (.cond (tZ 10) (.seq (.reg R2_SameTexts_r2)
  .ret) .skip))
  (.seq (.seq (.reg R2_SameTexts_r3)
  (.block 0 (.loop (.seq (.reg R2_SameTexts_r4)
  (.seq (.cond (tZ 14) .skip (.exit 0))
  (.seq (.block 1 (.seq (.reg R2_SameTexts_r5)
  (.seq (.regd R2_SameTexts_r6 R2_SameTexts_a6)
  (.cond (tZ 24) (.seq (.reg R2_SameTexts_r7)
  .ret) .skip))))
  (.reg R2_SameTexts_r8)))))))
  (.seq (.reg R2_SameTexts_r9)
  .ret)))), [.tmp 4]⟩
theorem R2_SameTexts_s : slimF Try.prog 52 = some R2_SameTexts_c := by kernel_rfl
/-- printworks/printworksref2.SameGrids -/
def R2_SameGrids_r0 : List SO := [rZ 2 (.box 26 (tZ 0)), rZ 3 (.box 26 (tZ 1)), rZ 4 (.assign (.const (.bool false)))]
def R2_SameGrids_r1 : List SO := [faZ 5 26 2 0, ldZ 6 3 5, faZ 7 26 3 0, ldZ 8 3 7, boZ 9 .eql 3 6 8 3, mvZ 10 9, gZ 10 true (faZ 11 26 2 1), gZ 10 true (ldZ 12 3 11), gZ 10 true (faZ 13 26 3 1), gZ 10 true (ldZ 14 3 13), gZ 10 true (boZ 15 .eql 3 12 14 3), rZ 16 (.pick (tZ 10) (tZ 15) (.const (.bool false))), mvZ 17 16, gZ 17 true (faZ 18 26 2 2), gZ 17 true (ldZ 19 3 18), gZ 17 true (faZ 20 26 3 2), gZ 17 true (ldZ 21 3 20), gZ 17 true (boZ 22 .eql 3 19 21 3), rZ 23 (.pick (tZ 17) (tZ 22) (.const (.bool false))), mvZ 24 23, gZ 24 true (faZ 25 26 2 3), gZ 24 true (ldZ 26 24 25), gZ 24 true (faZ 27 26 3 3), gZ 24 true (ldZ 28 24 27), gZ 24 true (rZ 29 (.call ⟨(.value (.func (27 : Nat))), #[(tZ 26), (tZ 28)], #[24, 24]⟩)), rZ 30 (.pick (tZ 24) (tZ 29) (.const (.bool false))), asZ 4 30]
def R2_SameGrids_c : SF := ⟨31, (.seq (.reg R2_SameGrids_r0)
  (.seq (.reg R2_SameGrids_r1)
  .ret)), [.tmp 4]⟩
theorem R2_SameGrids_s : slimF Try.prog 70 = some R2_SameGrids_c := by kernel_rfl
/-- printworks/printworksref2.SameCurves -/
def R2_SameCurves_r0 : List SO := [rZ 2 (.box 63 (tZ 0)), rZ 3 (.box 63 (tZ 1)), rZ 4 (.assign (.const (.bool false)))]
def R2_SameCurves_r1 : List SO := [faZ 6 63 2 0, ldZ 7 41 6, rZ 8 (.call ⟨(.builtin .len), #[(tZ 7)], #[41]⟩), faZ 9 63 3 0, ldZ 10 41 9, rZ 11 (.call ⟨(.builtin .len), #[(tZ 10)], #[41]⟩), boZ 12 .neq 3 8 11 3]
def R2_SameCurves_r2 : List SO := [rZ 4 (.assign (.const (.bool false)))]
def R2_SameCurves_r3 : List SO := [faZ 13 63 2 0, ldZ 14 41 13, rZ 15 (.call ⟨(.builtin .len), #[(tZ 14)], #[41]⟩), rZ 16 (.move (ciZ 0))]
def R2_SameCurves_r4 : List SO := [boZ 17 .lss 3 16 15 3]
def R2_SameCurves_r5 : List SO := [mvZ 18 16, asZ 5 18]
def R2_SameCurves_r6 : List SO := [faZ 19 63 2 0, ldZ 20 41 19, mvZ 21 5, iaZ 22 41 20 21, ldZ 23 61 22, faZ 24 63 3 0, ldZ 25 41 24, mvZ 26 5, iaZ 27 41 25 26, ldZ 28 61 27, boZ 29 .neq 61 23 28 61]
def R2_SameCurves_a6 : List (List Nat) := [[], [0], [], [1, 2], [3], [], [5], [], [6, 7], [8], [4, 9]]
def R2_SameCurves_r7 : List SO := [rZ 4 (.assign (.const (.bool false)))]
def R2_SameCurves_r8 : List SO := [bcZ 30 .add 3 16 1 3, mvZ 16 30]
def R2_SameCurves_r9 : List SO := [rZ 4 (.assign (.const (.bool true)))]
def R2_SameCurves_c : SF := ⟨31, (.seq (.reg R2_SameCurves_r0)
  (.seq (.seq (.reg R2_SameCurves_r1)
  (.cond (tZ 12) (.seq (.reg R2_SameCurves_r2)
  .ret) .skip))
  (.seq (.seq (.reg R2_SameCurves_r3)
  (.block 0 (.loop (.seq (.reg R2_SameCurves_r4)
  (.seq (.cond (tZ 17) .skip (.exit 0))
  (.seq (.block 1 (.seq (.reg R2_SameCurves_r5)
  (.seq (.regd R2_SameCurves_r6 R2_SameCurves_a6)
  (.cond (tZ 29) (.seq (.reg R2_SameCurves_r7)
  .ret) .skip))))
  (.reg R2_SameCurves_r8)))))))
  (.seq (.reg R2_SameCurves_r9)
  .ret)))), [.tmp 4]⟩
theorem R2_SameCurves_s : slimF Try.prog 71 = some R2_SameCurves_c := by kernel_rfl
def tbl_R2 : List (Nat × SF) := [(8, R2_Mod_c), (27, R2_SameInts_c), (31, R2_SameProfiles_c), (33, R2_Floor_c), (52, R2_SameTexts_c), (70, R2_SameGrids_c), (71, R2_SameCurves_c)]
theorem tbl_R2_ok : okT Try.prog tbl_R2 := ⟨R2_Mod_s, R2_SameInts_s, R2_SameProfiles_s, R2_Floor_s, R2_SameTexts_s, R2_SameGrids_s, R2_SameCurves_s, trivial⟩

end Go.Proofs.Ytagfanbodglplaa
namespace Go.Proofs.Ytagfanbodglplaa
open Go Go.Lite
set_option linter.unusedVariables false

/-- printworks/screen.Check -/
def screen_Check_r0 : List SO := [rZ 1 (.box 40 (tZ 0)), rZ 2 (.assign (ciZ 0))]
def screen_Check_r1 : List SO := [faZ 4 40 1 0, ldZ 5 3 4, bcZ 6 .lss 3 5 0 3, mvZ 7 6, gZ 7 false (faZ 8 40 1 0), gZ 7 false (ldZ 9 3 8), gZ 7 false (bcZ 10 .gtr 3 9 20 3), rZ 11 (.pick (tZ 7) (.const (.bool true)) (tZ 10)), mvZ 12 11, gZ 12 false (faZ 13 40 1 1), gZ 12 false (ldZ 14 3 13), gZ 12 false (bcZ 15 .lss 3 14 0 3), rZ 16 (.pick (tZ 12) (.const (.bool true)) (tZ 15)), mvZ 17 16, gZ 17 false (faZ 18 40 1 1), gZ 17 false (ldZ 19 3 18), gZ 17 false (bcZ 20 .gtr 3 19 20 3), rZ 21 (.pick (tZ 17) (.const (.bool true)) (tZ 20)), mvZ 22 21, gZ 22 false (faZ 23 40 1 2), gZ 22 false (ldZ 24 3 23), gZ 22 false (bcZ 25 .lss 3 24 0 3), rZ 26 (.pick (tZ 22) (.const (.bool true)) (tZ 25)), mvZ 27 26, gZ 27 false (faZ 28 40 1 2), gZ 27 false (ldZ 29 3 28), gZ 27 false (bcZ 30 .gtr 3 29 3 3), rZ 31 (.pick (tZ 27) (.const (.bool true)) (tZ 30))]
def screen_Check_r2 : List SO := [rZ 2 (.assign (ciZ 3))]
def screen_Check_r3 : List SO := [faZ 32 40 1 0, ldZ 33 3 32, faZ 34 40 1 0, ldZ 35 3 34, boZ 36 .mul 3 33 35 3, faZ 37 40 1 1, ldZ 38 3 37, faZ 39 40 1 1, ldZ 40 3 39, boZ 41 .mul 3 38 40 3, boZ 42 .add 3 36 41 3, asZ 3 42]
def screen_Check_r4 : List SO := [mvZ 44 3, bcZ 45 .eql 3 44 0 3, asZ 43 45]
def screen_Check_r5 : List SO := [rZ 2 (.assign (ciZ 1))]
def screen_Check_r6 : List SO := [mvZ 47 3, bcZ 48 .gtr 3 47 400 3, asZ 46 48]
def screen_Check_r7 : List SO := [rZ 2 (.assign (ciZ 2))]
def screen_Check_r8 : List SO := [rZ 2 (.assign (ciZ 0))]
def screen_Check_c : SF := ⟨49, (.seq (.reg screen_Check_r0)
  (.seq (.seq (.reg screen_Check_r1)
  (.cond (tZ 31) (.seq (.reg screen_Check_r2)
  .ret) .skip))
  (.seq (.seq (.reg screen_Check_r3)
  (.block 0 (.seq (.reg screen_Check_r4)
  (.cond (tZ 43) (.seq (.reg screen_Check_r5)
  .ret) (.seq (.reg screen_Check_r6)
  (.cond (tZ 46) (.seq (.reg screen_Check_r7)
  .ret) .skip))))))
  (.seq (.reg screen_Check_r8)
  .ret)))), [.tmp 2]⟩
theorem screen_Check_s : slimF Try.prog 15 = some screen_Check_c := by kernel_rfl
abbrev screen_Check_f : Nat := 15
/-- printworks/screen.Of -/
def screen_Of_r0 : List SO := [rZ 1 (.box 40 (tZ 0)), rZ 2 (.alloc 155)]
def screen_Of_r1 : List SO := [faZ 8 40 1 0, ldZ 9 3 8, faZ 10 40 1 1, ldZ 11 3 10, rZ 12 (.call ⟨(.value (.func (100 : Nat))), #[(tZ 9), (tZ 11)], #[3, 3]⟩), mvZ 7 12, exZ 13 7 0, exZ 14 7 1, exZ 15 7 2, asZ 3 13, asZ 4 14, asZ 5 15]
def screen_Of_r2 : List SO := [faZ 16 40 1 0, ldZ 17 3 16, faZ 18 40 1 0, ldZ 19 3 18, boZ 20 .mul 3 17 19 3, faZ 21 40 1 1, ldZ 22 3 21, faZ 23 40 1 1, ldZ 24 3 23, boZ 25 .mul 3 22 24 3, boZ 26 .add 3 20 25 3, mvZ 27 3, boZ 28 .quo 3 26 27 3, asZ 6 28]
def screen_Of_r3 : List SO := [mvZ 29 6, mvZ 30 5, faZ 31 40 1 0, ldZ 32 3 31, boZ 33 .mul 3 30 32 3, mvZ 34 4, faZ 35 40 1 1, ldZ 36 3 35, boZ 37 .mul 3 34 36 3, boZ 38 .sub 3 33 37 3, mvZ 39 6, rZ 40 (.call ⟨(.value (.func (101 : Nat))), #[(tZ 38), (tZ 39)], #[3, 3]⟩), mvZ 41 3, rZ 42 (.build 155 #[(0, (tZ 29)), (1, (tZ 40)), (2, (tZ 41))]), stZ 155 2 42]
def screen_Of_c : SF := ⟨43, (.seq (.reg screen_Of_r0)
  (.seq (.reg screen_Of_r1)
  (.seq (.reg screen_Of_r2)
  (.seq (.reg screen_Of_r3)
  .ret)))), [.cell 2 155]⟩
theorem screen_Of_s : slimF Try.prog 84 = some screen_Of_c := by kernel_rfl
abbrev screen_Of_f : Nat := 84
/-- printworks/screen.Ranks -/
def screen_Ranks_r0 : List SO := [rZ 1 (.box 40 (tZ 0)), rZ 2 (.assign (.const (.slice none 0 0)))]
def screen_Ranks_r1 : List SO := [ldZ 11 40 1, rZ 12 (.call ⟨(.value (.func (84 : Nat))), #[(tZ 11)], #[40]⟩), rZ 3 (.alloc 155), stZ 155 3 12]
def screen_Ranks_r2 : List SO := [faZ 13 40 1 0, ldZ 14 3 13, faZ 15 40 1 0, ldZ 16 3 15, boZ 17 .mul 3 14 16 3, faZ 18 40 1 1, ldZ 19 3 18, faZ 20 40 1 1, ldZ 21 3 20, boZ 22 .mul 3 19 21 3, boZ 23 .add 3 17 22 3, asZ 4 23]
def screen_Ranks_r3 : List SO := [mvZ 24 4, rZ 25 (.makeSlice 24 (tZ 24) (tZ 24)), asZ 5 25]
def screen_Ranks_r4 : List SO := [mvZ 26 5, rZ 27 (.call ⟨(.builtin .len), #[(tZ 26)], #[24]⟩), rZ 28 (.move (ciZ 0))]
def screen_Ranks_r5 : List SO := [boZ 29 .lss 3 28 27 3]
def screen_Ranks_r6 : List SO := [mvZ 30 28, asZ 6 30]
def screen_Ranks_r7 : List SO := [mvZ 31 5, mvZ 32 6, mvZ 33 6, iaZ 34 24 31 32, stZ 3 34 33]
def screen_Ranks_r8 : List SO := [bcZ 35 .add 3 28 1 3, mvZ 28 35]
def screen_Ranks_r9 : List SO := [rZ 36 (.makeFunc (.func (102 : Nat)) #[] #[(tZ 1), (tZ 3)]), rZ 7 (.alloc 174), stZ 174 7 36]
def screen_Ranks_r10 : List SO := [faZ 37 40 1 2, ldZ 38 3 37, bcZ 39 .eql 3 38 3 3]
def screen_Ranks_r11 : List SO := [ldZ 40 40 1, ldZ 41 155 3, rZ 42 (.call ⟨(.value (.func (104 : Nat))), #[(tZ 40), (tZ 41)], #[40, 155]⟩), asZ 5 42]
def screen_Ranks_r12 : List SO := [mvZ 43 5, rZ 44 (.makeFunc (.func (106 : Nat)) #[] #[(tZ 7)]), rZ 45 (.call ⟨(.value (.func (105 : Nat))), #[(tZ 43), (tZ 44)], #[24, 32]⟩)]
def screen_Ranks_r13 : List SO := [mvZ 46 4, rZ 47 (.makeSlice 24 (tZ 46) (tZ 46)), asZ 8 47]
def screen_Ranks_r14 : List SO := [mvZ 48 5, rZ 49 (.call ⟨(.builtin .len), #[(tZ 48)], #[24]⟩), rZ 50 (.move (ciZ 0))]
def screen_Ranks_r15 : List SO := [boZ 51 .lss 3 50 49 3]
def screen_Ranks_r16 : List SO := [mvZ 52 50, iaZ 53 24 48 50, ldZ 54 3 53, asZ 9 52, asZ 10 54]
def screen_Ranks_r17 : List SO := [mvZ 55 8, mvZ 56 10, mvZ 57 9, iaZ 58 24 55 56, stZ 3 58 57]
def screen_Ranks_r18 : List SO := [bcZ 59 .add 3 50 1 3, mvZ 50 59]
def screen_Ranks_r19 : List SO := [mvZ 60 8, asZ 2 60]
def screen_Ranks_c : SF := ⟨61, (.seq (.reg screen_Ranks_r0)
  (.seq (.reg screen_Ranks_r1)
  (.seq (.reg screen_Ranks_r2)
  (.seq (.reg screen_Ranks_r3)
  (.seq (.seq (.reg screen_Ranks_r4)
  (.block 0 (.loop (.seq (.reg screen_Ranks_r5)
  (.seq (.cond (tZ 29) .skip (.exit 0))
  (.seq (.block 1 (.seq (.reg screen_Ranks_r6)
  (.reg screen_Ranks_r7)))
  (.reg screen_Ranks_r8)))))))
  (.seq (.reg screen_Ranks_r9)
  (.seq (.seq (.reg screen_Ranks_r10)
  (.cond (tZ 39) (.reg screen_Ranks_r11) (.reg screen_Ranks_r12)))
  (.seq (.reg screen_Ranks_r13)
  (.seq (.seq (.reg screen_Ranks_r14)
  (.block 2 (.loop (.seq (.reg screen_Ranks_r15)
  (.seq (.cond (tZ 51) .skip (.exit 2))
  (.seq (.block 3 (.seq (.reg screen_Ranks_r16)
  (.reg screen_Ranks_r17)))
  (.reg screen_Ranks_r18)))))))
  (.seq (.reg screen_Ranks_r19)
  .ret)))))))))), [.tmp 2]⟩
theorem screen_Ranks_s : slimF Try.prog 85 = some screen_Ranks_c := by kernel_rfl
abbrev screen_Ranks_f : Nat := 85
/-- printworks/screen.bezout -/
def screen_bezout_r0 : List SO := [rZ 4 (.assign (ciZ 0)), rZ 5 (.assign (ciZ 0)), rZ 6 (.assign (ciZ 0))]
def screen_bezout_r1 : List SO := [mvZ 7 1, bcZ 8 .eql 3 7 0 3]
def screen_bezout_r2 : List SO := [mvZ 9 0, asZ 4 9, rZ 5 (.assign (ciZ 1)), rZ 6 (.assign (ciZ 0))]
def screen_bezout_r3 : List SO := [mvZ 11 1, mvZ 12 0, mvZ 13 1, boZ 14 .rem 3 12 13 3, rZ 15 (.call ⟨(.value (.func (100 : Nat))), #[(tZ 11), (tZ 14)], #[3, 3]⟩), mvZ 10 15, exZ 16 10 0, exZ 17 10 1, exZ 18 10 2, asZ 4 16, asZ 5 17, asZ 6 18]
def screen_bezout_r4 : List SO := [mvZ 19 4, mvZ 20 6, mvZ 21 5, mvZ 22 0, mvZ 23 1, boZ 24 .quo 3 22 23 3, mvZ 25 6, boZ 26 .mul 3 24 25 3, boZ 27 .sub 3 21 26 3, asZ 4 19, asZ 5 20, asZ 6 27]
def screen_bezout_a4 : List (List Nat) := [[], [], [], [], [], [3, 4], [], [5, 6], [2, 7], [0, 0, 2], [1, 9, 0, 1, 2, 9], [8, 10, 0, 1, 2, 3, 4, 5, 6, 7, 8, 9, 10]]
def screen_bezout_c : SF := ⟨28, (.seq (.reg screen_bezout_r0)
  (.seq (.seq (.reg screen_bezout_r1)
  (.cond (tZ 8) (.seq (.reg screen_bezout_r2)
  .ret) .skip))
  (.seq (.reg screen_bezout_r3)
  (.seq (.regd screen_bezout_r4 screen_bezout_a4)
  .ret)))), [.tmp 4, .tmp 5, .tmp 6]⟩
theorem screen_bezout_s : slimF Try.prog 100 = some screen_bezout_c := by kernel_rfl
abbrev screen_bezout_f : Nat := 100
/-- printworks/screen.mod -/
def screen_mod_r0 : List SO := [rZ 4 (.assign (ciZ 0))]
def screen_mod_r1 : List SO := [mvZ 5 0, mvZ 6 1, boZ 7 .rem 3 5 6 3, asZ 0 7]
def screen_mod_r2 : List SO := [mvZ 8 0, bcZ 9 .lss 3 8 0 3]
def screen_mod_r3 : List SO := [mvZ 10 0, mvZ 11 1, boZ 12 .add 3 10 11 3, asZ 0 12]
def screen_mod_r4 : List SO := [mvZ 13 0, asZ 4 13]
def screen_mod_c : SF := ⟨14, (.seq (.reg screen_mod_r0)
  (.seq (.seq (.reg screen_mod_r1)
  (.seq (.reg screen_mod_r2)
  (.cond (tZ 9) (.reg screen_mod_r3) .skip)))
  (.seq (.reg screen_mod_r4)
  .ret))), [.tmp 4]⟩
theorem screen_mod_s : slimF Try.prog 101 = some screen_mod_c := by kernel_rfl
abbrev screen_mod_f : Nat := 101
/-- printworks/screen.Ranks$1 -/
def screen_Ranks_1_r0 : List SO := [rZ 4 (.assign (ciZ 0)), rZ 5 (.assign (ciZ 0))]
def screen_Ranks_1_r1 : List SO := [ldZ 9 40 1, ldZ 10 155 2, mvZ 11 0, rZ 12 (.call ⟨(.value (.func (103 : Nat))), #[(tZ 9), (tZ 10), (tZ 11)], #[40, 155, 3]⟩), mvZ 8 12, exZ 13 8 0, exZ 14 8 1, asZ 6 13, asZ 7 14]
def screen_Ranks_1_r2 : List SO := [faZ 15 40 1 2, ldZ 16 3 15]
def screen_Ranks_1_r3 : List SO := [bcZ 18 .eql 3 16 1 3, asZ 17 18]
def screen_Ranks_1_r4 : List SO := [mvZ 19 7, mvZ 20 6, asZ 4 19, asZ 5 20]
def screen_Ranks_1_r5 : List SO := [bcZ 22 .eql 3 16 2 3, asZ 21 22]
def screen_Ranks_1_r6 : List SO := [mvZ 23 6, mvZ 24 6, boZ 25 .mul 3 23 24 3, mvZ 26 7, rZ 27 (.binOp .mul 3 (ciZ 2) (tZ 26) 3), mvZ 28 7, boZ 29 .mul 3 27 28 3, boZ 30 .add 3 25 29 3, asZ 4 30, rZ 5 (.assign (ciZ 0))]
def screen_Ranks_1_r7 : List SO := [mvZ 31 6, mvZ 32 6, boZ 33 .mul 3 31 32 3, mvZ 34 7, mvZ 35 7, boZ 36 .mul 3 34 35 3, boZ 37 .add 3 33 36 3, asZ 4 37, rZ 5 (.assign (ciZ 0))]
def screen_Ranks_1_c : SF := ⟨38, (.seq (.reg screen_Ranks_1_r0)
  (.seq (.reg screen_Ranks_1_r1)
  (.seq (.seq (.reg screen_Ranks_1_r2)
  (.block 0 (.seq (.reg screen_Ranks_1_r3)
  (.cond (tZ 17) (.seq (.reg screen_Ranks_1_r4)
  .ret) (.seq (.reg screen_Ranks_1_r5)
  (.cond (tZ 21) (.seq (.reg screen_Ranks_1_r6)
  .ret) .skip))))))
  (.seq (.reg screen_Ranks_1_r7)
  .ret)))), [.tmp 4, .tmp 5]⟩
theorem screen_Ranks_1_s : slimF Try.prog 102 = some screen_Ranks_1_c := by kernel_rfl
abbrev screen_Ranks_1_f : Nat := 102
/-- printworks/screen.scatter -/
def screen_scatter_r0 : List SO := [rZ 2 (.box 40 (tZ 0)), rZ 3 (.box 155 (tZ 1)), rZ 4 (.assign (.const (.slice none 0 0)))]
def screen_scatter_r1 : List SO := [faZ 15 40 2 0, ldZ 16 3 15, faZ 17 40 2 0, ldZ 18 3 17, boZ 19 .mul 3 16 18 3, faZ 20 40 2 1, ldZ 21 3 20, faZ 22 40 2 1, ldZ 23 3 22, boZ 24 .mul 3 21 23 3, boZ 25 .add 3 19 24 3, asZ 5 25]
def screen_scatter_r2 : List SO := [mvZ 26 5, rZ 27 (.makeSlice 24 (tZ 26) (tZ 26)), asZ 6 27]
def screen_scatter_r3 : List SO := [mvZ 28 6, rZ 29 (.call ⟨(.builtin .len), #[(tZ 28)], #[24]⟩), rZ 30 (.move (ciZ 0))]
def screen_scatter_r4 : List SO := [boZ 31 .lss 3 30 29 3]
def screen_scatter_r5 : List SO := [mvZ 32 30, asZ 7 32]
def screen_scatter_r6 : List SO := [mvZ 33 6, mvZ 34 7, iaZ 35 24 33 34, ⟨none, .store 3 (tZ 35) (ciZ 1099511627776), none⟩]
def screen_scatter_r7 : List SO := [bcZ 36 .add 3 30 1 3, mvZ 30 36]
def screen_scatter_r8 : List SO := [rZ 8 (.assign (.const (.slice none 0 0)))]
def screen_scatter_r9 : List SO := [mvZ 37 5, rZ 38 (.move (ciZ 0))]
def screen_scatter_r10 : List SO := [boZ 39 .lss 3 38 37 3]
def screen_scatter_r11 : List SO := [rZ 9 (.assign (.const (.int .i64 (-1))))]
def screen_scatter_r12 : List SO := [mvZ 40 6, rZ 41 (.call ⟨(.builtin .len), #[(tZ 40)], #[24]⟩), rZ 42 (.move (ciZ 0))]
def screen_scatter_r13 : List SO := [boZ 43 .lss 3 42 41 3]
def screen_scatter_r14 : List SO := [mvZ 44 42, iaZ 45 24 40 42, ldZ 46 3 45, asZ 10 44, asZ 11 46]
def screen_scatter_r15 : List SO := [mvZ 47 11, bcZ 48 .gtr 3 47 0 3, mvZ 49 48, gZ 49 true (mvZ 50 9), gZ 49 true (bcZ 51 .lss 3 50 0 3), gZ 49 true (mvZ 52 51), gZ 52 false (mvZ 53 11), gZ 52 false (mvZ 54 6), gZ 52 false (mvZ 55 9), gZ 52 false (iaZ 56 24 54 55), gZ 52 false (ldZ 57 3 56), gZ 52 false (boZ 58 .gtr 3 53 57 3), gZ 49 true (rZ 59 (.pick (tZ 52) (.const (.bool true)) (tZ 58))), rZ 60 (.pick (tZ 49) (tZ 59) (.const (.bool false)))]
def screen_scatter_r16 : List SO := [mvZ 61 10, asZ 9 61]
def screen_scatter_r17 : List SO := [bcZ 62 .add 3 42 1 3, mvZ 42 62]
def screen_scatter_r18 : List SO := [mvZ 63 8, mvZ 64 9, rZ 65 (.buildSlice 24 1 #[(0, (tZ 64))]), rZ 66 (.call ⟨(.builtin .append), #[(tZ 63), (tZ 65)], #[24, 24]⟩), asZ 8 66]
def screen_scatter_r19 : List SO := [mvZ 67 6, rZ 68 (.call ⟨(.builtin .len), #[(tZ 67)], #[24]⟩), rZ 69 (.move (ciZ 0))]
def screen_scatter_r20 : List SO := [boZ 70 .lss 3 69 68 3]
def screen_scatter_r21 : List SO := [mvZ 71 69, asZ 12 71]
def screen_scatter_r22 : List SO := [ldZ 73 40 2, ldZ 74 155 3, ldZ 75 155 3, mvZ 76 12, faZ 77 155 3 0, ldZ 78 3 77, boZ 79 .rem 3 76 78 3, mvZ 80 9, faZ 81 155 3 0, ldZ 82 3 81, boZ 83 .rem 3 80 82 3, boZ 84 .sub 3 79 83 3, mvZ 85 12, faZ 86 155 3 0, ldZ 87 3 86, boZ 88 .quo 3 85 87 3, mvZ 89 9, faZ 90 155 3 0, ldZ 91 3 90, boZ 92 .quo 3 89 91 3, boZ 93 .sub 3 88 92 3, rZ 94 (.call ⟨(.value (.func (87 : Nat))), #[(tZ 75), (tZ 84), (tZ 93)], #[155, 3, 3]⟩), rZ 95 (.call ⟨(.value (.func (103 : Nat))), #[(tZ 73), (tZ 74), (tZ 94)], #[40, 155, 3]⟩), mvZ 72 95, exZ 96 72 0, exZ 97 72 1, asZ 13 96, asZ 14 97]
def screen_scatter_a22 : List (List Nat) := [[], [], [], [], [], [4], [3, 5], [], [], [8], [7, 9], [6, 10], [], [], [13], [12, 14], [], [], [17], [16, 18], [15, 19], [2, 11, 20], [0, 1, 21, 21], [22], [23], [23], [24, 22, 0, 1, 2, 3, 4, 5, 6, 7, 8, 9, 10, 11, 12, 13, 14, 15, 16, 17, 18, 19, 20, 21, 22, 23, 24], [25, 26, 0, 1, 2, 3, 4, 5, 6, 7, 8, 9, 10, 11, 12, 13, 14, 15, 16, 17, 18, 19, 20, 21, 22, 23, 24, 25, 26]]
def screen_scatter_r23 : List SO := [mvZ 98 6, mvZ 99 12, mvZ 100 6, mvZ 101 12, iaZ 102 24 100 101, ldZ 103 3 102, mvZ 104 13, mvZ 105 13, boZ 106 .mul 3 104 105 3, mvZ 107 14, mvZ 108 14, boZ 109 .mul 3 107 108 3, boZ 110 .add 3 106 109 3, rZ 111 (.call ⟨(.builtin .min), #[(tZ 103), (tZ 110)], #[3, 3]⟩), iaZ 112 24 98 99, stZ 3 112 111]
def screen_scatter_r24 : List SO := [bcZ 113 .add 3 69 1 3, mvZ 69 113]
def screen_scatter_r25 : List SO := [bcZ 114 .add 3 38 1 3, mvZ 38 114]
def screen_scatter_r26 : List SO := [mvZ 115 8, asZ 4 115]
def screen_scatter_c : SF := ⟨116, (.seq (.reg screen_scatter_r0)
  (.seq (.reg screen_scatter_r1)
  (.seq (.reg screen_scatter_r2)
  (.seq (.seq (.reg screen_scatter_r3)
  (.block 0 (.loop (.seq (.reg screen_scatter_r4)
  (.seq (.cond (tZ 31) .skip (.exit 0))
  (.seq (.block 1 (.seq (.reg screen_scatter_r5)
  (.reg screen_scatter_r6)))
  (.reg screen_scatter_r7)))))))
  (.seq (.reg screen_scatter_r8)
  (.seq (.seq (.reg screen_scatter_r9)
  (.block 2 (.loop (.seq (.reg screen_scatter_r10)
  (.seq (.cond (tZ 39) .skip (.exit 2))
  (.seq (.block 3 (.seq (.reg screen_scatter_r11)
  (.seq (.seq (.reg screen_scatter_r12)
  (.block 4 (.loop (.seq (.reg screen_scatter_r13)
  (.seq (.cond (tZ 43) .skip (.exit 4))
  (.seq (.block 5 (.seq (.reg screen_scatter_r14)
  (.seq (.reg screen_scatter_r15)
  (.cond (tZ 60) (.reg screen_scatter_r16) .skip))))
  (.reg screen_scatter_r17)))))))
  (.seq (.reg screen_scatter_r18)
  (.seq (.reg screen_scatter_r19)
  (.block 6 (.loop (.seq (.reg screen_scatter_r20)
  (.seq (.cond (tZ 70) .skip (.exit 6))
  (.seq (.block 7 (.seq (.reg screen_scatter_r21)
  (.seq (.regd screen_scatter_r22 screen_scatter_a22)
  (.reg screen_scatter_r23))))
  (.reg screen_scatter_r24)))))))))))
  (.reg screen_scatter_r25)))))))
  (.seq (.reg screen_scatter_r26)
  .ret))))))), [.tmp 4]⟩
theorem screen_scatter_s : slimF Try.prog 104 = some screen_scatter_c := by kernel_rfl
abbrev screen_scatter_f : Nat := 104
/-- printworks/screen.Ranks$2 -/
def screen_Ranks_2_r0 : List SO := [rZ 5 (.assign (ciZ 0))]
def screen_Ranks_2_r1 : List SO := [ldZ 11 174 2, mvZ 12 0, rZ 13 (.call ⟨(.value (tZ 11)), #[(tZ 12)], #[3]⟩), mvZ 10 13, exZ 14 10 0, exZ 15 10 1, asZ 6 14, asZ 7 15]
def screen_Ranks_2_r2 : List SO := [ldZ 17 174 2, mvZ 18 1, rZ 19 (.call ⟨(.value (tZ 17)), #[(tZ 18)], #[3]⟩), mvZ 16 19, exZ 20 16 0, exZ 21 16 1, asZ 8 20, asZ 9 21]
def screen_Ranks_2_r3 : List SO := [mvZ 23 6, mvZ 24 8, boZ 25 .neq 3 23 24 3, asZ 22 25]
def screen_Ranks_2_r4 : List SO := [mvZ 26 6, mvZ 27 8, boZ 28 .sub 3 26 27 3, asZ 5 28]
def screen_Ranks_2_r5 : List SO := [mvZ 30 7, mvZ 31 9, boZ 32 .neq 3 30 31 3, asZ 29 32]
def screen_Ranks_2_r6 : List SO := [mvZ 33 7, mvZ 34 9, boZ 35 .sub 3 33 34 3, asZ 5 35]
def screen_Ranks_2_r7 : List SO := [mvZ 36 0, mvZ 37 1, boZ 38 .sub 3 36 37 3, asZ 5 38]
def screen_Ranks_2_c : SF := ⟨39, (.seq (.reg screen_Ranks_2_r0)
  (.seq (.reg screen_Ranks_2_r1)
  (.seq (.reg screen_Ranks_2_r2)
  (.seq (.block 0 (.seq (.reg screen_Ranks_2_r3)
  (.cond (tZ 22) (.seq (.reg screen_Ranks_2_r4)
  .ret) (.seq (.reg screen_Ranks_2_r5)
  (.cond (tZ 29) (.seq (.reg screen_Ranks_2_r6)
  .ret) .skip)))))
  (.seq (.reg screen_Ranks_2_r7)
  .ret))))), [.tmp 5]⟩
theorem screen_Ranks_2_s : slimF Try.prog 106 = some screen_Ranks_2_c := by kernel_rfl
abbrev screen_Ranks_2_f : Nat := 106
/-- (printworks/screen.Form).Place -/
def _screen_Form__Place_r0 : List SO := [rZ 3 (.box 155 (tZ 0)), rZ 6 (.assign (ciZ 0))]
def _screen_Form__Place_r1 : List SO := [mvZ 9 2, faZ 10 155 3 2, ldZ 11 3 10, rZ 12 (.call ⟨(.value (.func (101 : Nat))), #[(tZ 9), (tZ 11)], #[3, 3]⟩), asZ 7 12]
def _screen_Form__Place_r2 : List SO := [mvZ 13 2, mvZ 14 7, boZ 15 .sub 3 13 14 3, faZ 16 155 3 2, ldZ 17 3 16, boZ 18 .quo 3 15 17 3, asZ 8 18]
def _screen_Form__Place_r3 : List SO := [mvZ 19 7, faZ 20 155 3 0, ldZ 21 3 20, boZ 22 .mul 3 19 21 3, mvZ 23 1, mvZ 24 8, faZ 25 155 3 0, ldZ 26 3 25, rZ 27 (.call ⟨(.value (.func (101 : Nat))), #[(tZ 24), (tZ 26)], #[3, 3]⟩), faZ 28 155 3 1, ldZ 29 3 28, boZ 30 .mul 3 27 29 3, boZ 31 .sub 3 23 30 3, faZ 32 155 3 0, ldZ 33 3 32, rZ 34 (.call ⟨(.value (.func (101 : Nat))), #[(tZ 31), (tZ 33)], #[3, 3]⟩), boZ 35 .add 3 22 34 3, asZ 6 35]
def _screen_Form__Place_a3 : List (List Nat) := [[], [], [1], [0, 2], [], [], [], [6], [5, 7], [], [9], [8, 10], [4, 11], [], [13], [12, 14, 8], [3, 15], [16, 15, 0, 1, 2, 3, 4, 5, 6, 7, 8, 9, 10, 11, 12, 13, 14, 15, 16]]
def _screen_Form__Place_c : SF := ⟨36, (.seq (.reg _screen_Form__Place_r0)
  (.seq (.reg _screen_Form__Place_r1)
  (.seq (.reg _screen_Form__Place_r2)
  (.seq (.regd _screen_Form__Place_r3 _screen_Form__Place_a3)
  .ret)))), [.tmp 6]⟩
theorem _screen_Form__Place_s : slimF Try.prog 87 = some _screen_Form__Place_c := by kernel_rfl
abbrev _screen_Form__Place_f : Nat := 87
/-- printworks/screen.offset -/
def screen_offset_r0 : List SO := [rZ 3 (.box 40 (tZ 0)), rZ 4 (.box 155 (tZ 1)), rZ 6 (.assign (ciZ 0)), rZ 7 (.assign (ciZ 0))]
def screen_offset_r1 : List SO := [faZ 13 40 3 0, ldZ 14 3 13, faZ 15 40 3 0, ldZ 16 3 15, boZ 17 .mul 3 14 16 3, faZ 18 40 3 1, ldZ 19 3 18, faZ 20 40 3 1, ldZ 21 3 20, boZ 22 .mul 3 19 21 3, boZ 23 .add 3 17 22 3, asZ 8 23]
def screen_offset_r2 : List SO := [mvZ 24 2, faZ 25 155 4 0, ldZ 26 3 25, boZ 27 .rem 3 24 26 3, mvZ 28 2, faZ 29 155 4 0, ldZ 30 3 29, boZ 31 .quo 3 28 30 3, asZ 9 27, asZ 10 31]
def screen_offset_a2 : List (List Nat) := [[], [], [1], [0, 2], [], [], [5], [4, 6], [3, 0, 1, 2, 3], [7, 8, 0, 1, 2, 3, 4, 5, 6, 7, 8]]
def screen_offset_r3 : List SO := [mvZ 32 9, faZ 33 40 3 0, ldZ 34 3 33, boZ 35 .mul 3 32 34 3, mvZ 36 10, faZ 37 40 3 1, ldZ 38 3 37, boZ 39 .mul 3 36 38 3, boZ 40 .add 3 35 39 3, mvZ 41 8, rZ 42 (.call ⟨(.value (.func (101 : Nat))), #[(tZ 40), (tZ 41)], #[3, 3]⟩), mvZ 43 10, faZ 44 40 3 0, ldZ 45 3 44, boZ 46 .mul 3 43 45 3, mvZ 47 9, faZ 48 40 3 1, ldZ 49 3 48, boZ 50 .mul 3 47 49 3, boZ 51 .sub 3 46 50 3, mvZ 52 8, rZ 53 (.call ⟨(.value (.func (101 : Nat))), #[(tZ 51), (tZ 52)], #[3, 3]⟩), asZ 11 42, asZ 12 53]
def screen_offset_a3 : List (List Nat) := [[], [], [1], [0, 2], [], [], [5], [4, 6], [3, 7], [], [8, 9], [], [], [12], [11, 13], [], [], [16], [15, 17], [14, 18], [], [19, 20, 10], [10, 21, 0, 1, 2, 3, 4, 5, 6, 7, 8, 9, 10], [21, 22, 0, 1, 2, 3, 4, 5, 6, 7, 8, 9, 10, 11, 12, 13, 14, 15, 16, 17, 18, 19, 20, 21, 22]]
def screen_offset_r4 : List SO := [mvZ 54 11, mvZ 55 8, mvZ 56 11, boZ 57 .sub 3 55 56 3, rZ 58 (.call ⟨(.builtin .min), #[(tZ 54), (tZ 57)], #[3, 3]⟩), mvZ 59 12, mvZ 60 8, mvZ 61 12, boZ 62 .sub 3 60 61 3, rZ 63 (.call ⟨(.builtin .min), #[(tZ 59), (tZ 62)], #[3, 3]⟩), asZ 6 58, asZ 7 63]
def screen_offset_c : SF := ⟨64, (.seq (.reg screen_offset_r0)
  (.seq (.reg screen_offset_r1)
  (.seq (.regd screen_offset_r2 screen_offset_a2)
  (.seq (.regd screen_offset_r3 screen_offset_a3)
  (.seq (.reg screen_offset_r4)
  .ret))))), [.tmp 6, .tmp 7]⟩
theorem screen_offset_s : slimF Try.prog 103 = some screen_offset_c := by kernel_rfl
abbrev screen_offset_f : Nat := 103

def tbl_screen : List (Nat × SF) := [(15, screen_Check_c), (84, screen_Of_c), (85, screen_Ranks_c), (100, screen_bezout_c), (101, screen_mod_c), (102, screen_Ranks_1_c), (104, screen_scatter_c), (106, screen_Ranks_2_c), (87, _screen_Form__Place_c), (103, screen_offset_c)]
theorem tbl_screen_ok : okT Try.prog tbl_screen := ⟨screen_Check_s, screen_Of_s, screen_Ranks_s, screen_bezout_s, screen_mod_s, screen_Ranks_1_s, screen_scatter_s, screen_Ranks_2_s, _screen_Form__Place_s, screen_offset_s, trivial⟩

end Go.Proofs.Ytagfanbodglplaa
namespace Go.Proofs.Ytagfanbodglplaa
open Go Go.Lite
set_option linter.unusedVariables false

/-- slices.SortFunc[[]int,int] -/
def slices_SortFunc___int_int__r0 : List SO := [mvZ 5 0, rZ 6 (.call ⟨(.builtin .len), #[(tZ 5)], #[24]⟩), asZ 4 6]
def slices_SortFunc___int_int__r1 : List SO := [mvZ 7 0, mvZ 8 4, mvZ 9 4, rZ 10 (.convert 3 162 (tZ 9)), rZ 11 (.call ⟨(.value (.func (110 : Nat))), #[(tZ 10)], #[162]⟩), mvZ 12 1, rZ 13 (.call ⟨(.value (.func (109 : Nat))), #[(tZ 7), (ciZ 0), (tZ 8), (tZ 11), (tZ 12)], #[24, 3, 3, 3, 32]⟩)]
def slices_SortFunc___int_int__c : SF := ⟨14, (.seq (.reg slices_SortFunc___int_int__r0)
  (.reg slices_SortFunc___int_int__r1)), []⟩
theorem slices_SortFunc___int_int__s : slimF Try.prog 105 = some slices_SortFunc___int_int__c := by kernel_rfl
abbrev slices_SortFunc___int_int__f : Nat := 105
/-- slices.pdqsortCmpFunc[int] -/
def slices_pdqsortCmpFunc_int__r0 : List SO := [rZ 10 (.assign (.const (.bool true)))]
def slices_pdqsortCmpFunc_int__r1 : List SO := [rZ 11 (.assign (.const (.bool true)))]
def slices_pdqsortCmpFunc_int__r2 : List SO := [mvZ 21 2, mvZ 22 1, boZ 23 .sub 3 21 22 3, asZ 12 23]
def slices_pdqsortCmpFunc_int__r3 : List SO := [mvZ 24 12, bcZ 25 .leq 3 24 12 3]
def slices_pdqsortCmpFunc_int__r4 : List SO := [mvZ 26 0, mvZ 27 1, mvZ 28 2, mvZ 29 4, rZ 30 (.call ⟨(.value (.func (111 : Nat))), #[(tZ 26), (tZ 27), (tZ 28), (tZ 29)], #[24, 3, 3, 32]⟩)]
def slices_pdqsortCmpFunc_int__r5 : List SO := [mvZ 31 3, bcZ 32 .eql 3 31 0 3]
def slices_pdqsortCmpFunc_int__r6 : List SO := [mvZ 33 0, mvZ 34 1, mvZ 35 2, mvZ 36 4, rZ 37 (.call ⟨(.value (.func (112 : Nat))), #[(tZ 33), (tZ 34), (tZ 35), (tZ 36)], #[24, 3, 3, 32]⟩)]
def slices_pdqsortCmpFunc_int__r7 : List SO := [mvZ 38 10, rZ 39 (.unOp .not 4 (tZ 38))]
def slices_pdqsortCmpFunc_int__r8 : List SO := [mvZ 40 0, mvZ 41 1, mvZ 42 2, mvZ 43 4, rZ 44 (.call ⟨(.value (.func (113 : Nat))), #[(tZ 40), (tZ 41), (tZ 42), (tZ 43)], #[24, 3, 3, 32]⟩)]
def slices_pdqsortCmpFunc_int__r9 : List SO := [mvZ 45 3, bcZ 46 .sub 3 45 1 3, asZ 3 46]
def slices_pdqsortCmpFunc_int__r10 : List SO := [mvZ 48 0, mvZ 49 1, mvZ 50 2, mvZ 51 4, rZ 52 (.call ⟨(.value (.func (114 : Nat))), #[(tZ 48), (tZ 49), (tZ 50), (tZ 51)], #[24, 3, 3, 32]⟩), mvZ 47 52, exZ 53 47 0, exZ 54 47 1, asZ 13 53, asZ 14 54]
def slices_pdqsortCmpFunc_int__r11 : List SO := [mvZ 55 14, bcZ 56 .eql 181 55 2 181]
def slices_pdqsortCmpFunc_int__r12 : List SO := [mvZ 57 0, mvZ 58 1, mvZ 59 2, mvZ 60 4, rZ 61 (.call ⟨(.value (.func (115 : Nat))), #[(tZ 57), (tZ 58), (tZ 59), (tZ 60)], #[24, 3, 3, 32]⟩)]
def slices_pdqsortCmpFunc_int__r13 : List SO := [mvZ 62 2, bcZ 63 .sub 3 62 1 3, mvZ 64 13, mvZ 65 1, boZ 66 .sub 3 64 65 3, boZ 67 .sub 3 63 66 3, asZ 13 67]
def slices_pdqsortCmpFunc_int__r14 : List SO := [rZ 14 (.assign (ciZ 1))]
def slices_pdqsortCmpFunc_int__r15 : List SO := [mvZ 68 10, mvZ 69 68, gZ 69 true (mvZ 70 11), rZ 71 (.pick (tZ 69) (tZ 70) (.const (.bool false))), mvZ 72 71, gZ 72 true (mvZ 73 14), gZ 72 true (bcZ 74 .eql 181 73 1 181), rZ 75 (.pick (tZ 72) (tZ 74) (.const (.bool false)))]
def slices_pdqsortCmpFunc_int__r16 : List SO := [mvZ 76 0, mvZ 77 1, mvZ 78 2, mvZ 79 4, rZ 80 (.call ⟨(.value (.func (116 : Nat))), #[(tZ 76), (tZ 77), (tZ 78), (tZ 79)], #[24, 3, 3, 32]⟩)]
def slices_pdqsortCmpFunc_int__r17 : List SO := [mvZ 81 1, bcZ 82 .gtr 3 81 0 3, mvZ 83 82, gZ 83 true (mvZ 84 4), gZ 83 true (mvZ 85 0), gZ 83 true (mvZ 86 1), gZ 83 true (bcZ 87 .sub 3 86 1 3), gZ 83 true (iaZ 88 24 85 87), gZ 83 true (ldZ 89 3 88), gZ 83 true (mvZ 90 0), gZ 83 true (mvZ 91 13), gZ 83 true (iaZ 92 24 90 91), gZ 83 true (ldZ 93 3 92), gZ 83 true (rZ 94 (.call ⟨(.value (tZ 84)), #[(tZ 89), (tZ 93)], #[3, 3]⟩)), gZ 83 true (bcZ 95 .lss 3 94 0 3), gZ 83 true (rZ 96 (.unOp .not 4 (tZ 95))), rZ 97 (.pick (tZ 83) (tZ 96) (.const (.bool false)))]
def slices_pdqsortCmpFunc_int__a17 : List (List Nat) := [[], [0], [1], [2], [2], [2], [5, 2], [4, 6, 2], [7, 2], [2], [2], [9, 10, 2], [11, 2], [3, 8, 12, 2, 2], [13, 2], [14, 2], [2, 15]]
def slices_pdqsortCmpFunc_int__r18 : List SO := [mvZ 98 0, mvZ 99 1, mvZ 100 2, mvZ 101 13, mvZ 102 4, rZ 103 (.call ⟨(.value (.func (117 : Nat))), #[(tZ 98), (tZ 99), (tZ 100), (tZ 101), (tZ 102)], #[24, 3, 3, 3, 32]⟩), asZ 15 103]
def slices_pdqsortCmpFunc_int__r19 : List SO := [mvZ 104 15, asZ 1 104]
def slices_pdqsortCmpFunc_int__r20 : List SO := [mvZ 106 0, mvZ 107 1, mvZ 108 2, mvZ 109 13, mvZ 110 4, rZ 111 (.call ⟨(.value (.func (118 : Nat))), #[(tZ 106), (tZ 107), (tZ 108), (tZ 109), (tZ 110)], #[24, 3, 3, 3, 32]⟩), mvZ 105 111, exZ 112 105 0, exZ 113 105 1, asZ 16 112, asZ 17 113]
def slices_pdqsortCmpFunc_int__r21 : List SO := [mvZ 114 17, asZ 11 114]
def slices_pdqsortCmpFunc_int__r22 : List SO := [mvZ 115 16, mvZ 116 1, boZ 117 .sub 3 115 116 3, mvZ 118 2, mvZ 119 16, boZ 120 .sub 3 118 119 3, asZ 18 117, asZ 19 120]
def slices_pdqsortCmpFunc_int__r23 : List SO := [mvZ 121 12, bcZ 122 .quo 3 121 8 3, asZ 20 122]
def slices_pdqsortCmpFunc_int__r24 : List SO := [mvZ 123 18, mvZ 124 19, boZ 125 .lss 3 123 124 3]
def slices_pdqsortCmpFunc_int__r25 : List SO := [mvZ 126 18, mvZ 127 20, boZ 128 .geq 3 126 127 3, asZ 10 128]
def slices_pdqsortCmpFunc_int__r26 : List SO := [mvZ 129 0, mvZ 130 1, mvZ 131 16, mvZ 132 3, mvZ 133 4, rZ 134 (.call ⟨(.value (.func (109 : Nat))), #[(tZ 129), (tZ 130), (tZ 131), (tZ 132), (tZ 133)], #[24, 3, 3, 3, 32]⟩)]
def slices_pdqsortCmpFunc_int__r27 : List SO := [mvZ 135 16, bcZ 136 .add 3 135 1 3, asZ 1 136]
def slices_pdqsortCmpFunc_int__r28 : List SO := [mvZ 137 19, mvZ 138 20, boZ 139 .geq 3 137 138 3, asZ 10 139]
def slices_pdqsortCmpFunc_int__r29 : List SO := [mvZ 140 0, mvZ 141 16, bcZ 142 .add 3 141 1 3, mvZ 143 2, mvZ 144 3, mvZ 145 4, rZ 146 (.call ⟨(.value (.func (109 : Nat))), #[(tZ 140), (tZ 142), (tZ 143), (tZ 144), (tZ 145)], #[24, 3, 3, 3, 32]⟩)]
def slices_pdqsortCmpFunc_int__r30 : List SO := [mvZ 147 16, asZ 2 147]
def slices_pdqsortCmpFunc_int__c : SF := ⟨148, (.seq (.reg slices_pdqsortCmpFunc_int__r0)
  (.seq (.reg slices_pdqsortCmpFunc_int__r1)
  (.block 0 (.loop (.block 1 (.seq (.reg slices_pdqsortCmpFunc_int__r2)
  (.seq (.seq (.reg slices_pdqsortCmpFunc_int__r3)
  (.cond (tZ 25) (.seq (.reg slices_pdqsortCmpFunc_int__r4)
  .ret) .skip))
  (.seq (.seq (.reg slices_pdqsortCmpFunc_int__r5)
  (.cond (tZ 32) (.seq (.reg slices_pdqsortCmpFunc_int__r6)
  .ret) .skip))
  (.seq (.seq (.reg slices_pdqsortCmpFunc_int__r7)
  (.cond (tZ 39) (.seq (.reg slices_pdqsortCmpFunc_int__r8)
  (.reg slices_pdqsortCmpFunc_int__r9)) .skip))
  (.seq (.reg slices_pdqsortCmpFunc_int__r10)
  (.seq (.seq (.reg slices_pdqsortCmpFunc_int__r11)
  (.cond (tZ 56) (.seq (.reg slices_pdqsortCmpFunc_int__r12)
  (.seq (.reg slices_pdqsortCmpFunc_int__r13)
  (.reg slices_pdqsortCmpFunc_int__r14))) .skip))
  (.seq (.seq (.reg slices_pdqsortCmpFunc_int__r15)
  (.cond (tZ 75) (.seq (.reg slices_pdqsortCmpFunc_int__r16)
  (.cond (tZ 80) .ret .skip)) .skip))
  (.seq (.seq (.regd slices_pdqsortCmpFunc_int__r17 slices_pdqsortCmpFunc_int__a17)
  (.cond (tZ 97) (.seq (.reg slices_pdqsortCmpFunc_int__r18)
  (.seq (.reg slices_pdqsortCmpFunc_int__r19)
  (.exit 1))) .skip))
  (.seq (.reg slices_pdqsortCmpFunc_int__r20)
  (.seq (.reg slices_pdqsortCmpFunc_int__r21)
  (.seq (.reg slices_pdqsortCmpFunc_int__r22)
  (.seq (.reg slices_pdqsortCmpFunc_int__r23)
  (.seq (.reg slices_pdqsortCmpFunc_int__r24)
  (.cond (tZ 125) (.seq (.reg slices_pdqsortCmpFunc_int__r25)
  (.seq (.reg slices_pdqsortCmpFunc_int__r26)
  (.reg slices_pdqsortCmpFunc_int__r27))) (.seq (.reg slices_pdqsortCmpFunc_int__r28)
  (.seq (.reg slices_pdqsortCmpFunc_int__r29)
  (.reg slices_pdqsortCmpFunc_int__r30)))))))))))))))))))))), []⟩
theorem slices_pdqsortCmpFunc_int__s : slimF Try.prog 109 = some slices_pdqsortCmpFunc_int__c := by kernel_rfl
/-- slices.insertionSortCmpFunc[int] -/
def slices_insertionSortCmpFunc_int__r0 : List SO := [mvZ 10 1, bcZ 11 .add 3 10 1 3, asZ 8 11]
def slices_insertionSortCmpFunc_int__r1 : List SO := [mvZ 12 8, mvZ 13 2, boZ 14 .lss 3 12 13 3]
def slices_insertionSortCmpFunc_int__r2 : List SO := [mvZ 17 8, asZ 9 17]
def slices_insertionSortCmpFunc_int__r3 : List SO := [mvZ 18 9, mvZ 19 1, boZ 20 .gtr 3 18 19 3, mvZ 21 20, gZ 21 true (mvZ 22 3), gZ 21 true (mvZ 23 0), gZ 21 true (mvZ 24 9), gZ 21 true (iaZ 25 24 23 24), gZ 21 true (ldZ 26 3 25), gZ 21 true (mvZ 27 0), gZ 21 true (mvZ 28 9), gZ 21 true (bcZ 29 .sub 3 28 1 3), gZ 21 true (iaZ 30 24 27 29), gZ 21 true (ldZ 31 3 30), gZ 21 true (rZ 32 (.call ⟨(.value (tZ 22)), #[(tZ 26), (tZ 31)], #[3, 3]⟩)), gZ 21 true (bcZ 33 .lss 3 32 0 3), rZ 34 (.pick (tZ 21) (tZ 33) (.const (.bool false)))]
def slices_insertionSortCmpFunc_int__a3 : List (List Nat) := [[], [], [0, 1], [2], [3], [3], [3], [5, 6, 3], [7, 3], [3], [3], [10, 3], [9, 11, 3], [12, 3], [4, 8, 13, 3, 3], [14, 3], [3, 15]]
def slices_insertionSortCmpFunc_int__r4 : List SO := [mvZ 37 0, mvZ 38 9, mvZ 39 0, mvZ 40 9, bcZ 41 .sub 3 40 1 3, mvZ 42 0, mvZ 43 9, bcZ 44 .sub 3 43 1 3, iaZ 45 24 42 44, ldZ 46 3 45, mvZ 47 0, mvZ 48 9, iaZ 49 24 47 48, ldZ 50 3 49, iaZ 51 24 37 38, stZ 3 51 46, iaZ 52 24 39 41, stZ 3 52 50]
def slices_insertionSortCmpFunc_int__a4 : List (List Nat) := [[], [], [], [], [3], [], [], [6], [5, 7], [8], [], [], [10, 11], [12], [0, 1, 0, 1, 5, 6, 7, 8, 9, 13], [14, 9, 0, 1, 5, 6, 7, 8, 9, 13], [2, 4, 0, 1, 2, 3, 4, 5, 6, 7, 8, 9, 10, 11, 12, 13, 14, 15], [16, 13, 15, 0, 1, 2, 3, 4, 5, 6, 7, 8, 9, 10, 11, 12, 13, 14, 15]]
def slices_insertionSortCmpFunc_int__r5 : List SO := [mvZ 35 9, bcZ 36 .sub 3 35 1 3, asZ 9 36]
def slices_insertionSortCmpFunc_int__r6 : List SO := [mvZ 15 8, bcZ 16 .add 3 15 1 3, asZ 8 16]
def slices_insertionSortCmpFunc_int__c : SF := ⟨53, (.seq (.reg slices_insertionSortCmpFunc_int__r0)
  (.block 0 (.loop (.seq (.seq (.reg slices_insertionSortCmpFunc_int__r1)
  (.cond (tZ 14) .skip (.exit 0)))
  (.seq (.block 1 (.seq (.reg slices_insertionSortCmpFunc_int__r2)
  (.block 2 (.loop (.seq (.seq (.regd slices_insertionSortCmpFunc_int__r3 slices_insertionSortCmpFunc_int__a3)
  (.cond (tZ 34) .skip (.exit 2)))
  (.seq (.block 3 (.regd slices_insertionSortCmpFunc_int__r4 slices_insertionSortCmpFunc_int__a4))
  (.reg slices_insertionSortCmpFunc_int__r5)))))))
  (.reg slices_insertionSortCmpFunc_int__r6)))))), []⟩
theorem slices_insertionSortCmpFunc_int__s : slimF Try.prog 111 = some slices_insertionSortCmpFunc_int__c := by kernel_rfl
/-- slices.heapSortCmpFunc[int] -/
def slices_heapSortCmpFunc_int__r0 : List SO := [mvZ 13 1, asZ 8 13]
def slices_heapSortCmpFunc_int__r1 : List SO := [rZ 9 (.assign (ciZ 0))]
def slices_heapSortCmpFunc_int__r2 : List SO := [mvZ 14 2, mvZ 15 1, boZ 16 .sub 3 14 15 3, asZ 10 16]
def slices_heapSortCmpFunc_int__r3 : List SO := [mvZ 17 10, bcZ 18 .sub 3 17 1 3, bcZ 19 .quo 3 18 2 3, asZ 11 19]
def slices_heapSortCmpFunc_int__r4 : List SO := [mvZ 20 11, bcZ 21 .geq 3 20 0 3]
def slices_heapSortCmpFunc_int__r5 : List SO := [mvZ 24 0, mvZ 25 11, mvZ 26 10, mvZ 27 8, mvZ 28 3, rZ 29 (.call ⟨(.value (.func (121 : Nat))), #[(tZ 24), (tZ 25), (tZ 26), (tZ 27), (tZ 28)], #[24, 3, 3, 3, 32]⟩)]
def slices_heapSortCmpFunc_int__r6 : List SO := [mvZ 22 11, bcZ 23 .sub 3 22 1 3, asZ 11 23]
def slices_heapSortCmpFunc_int__r7 : List SO := [mvZ 30 10, bcZ 31 .sub 3 30 1 3, asZ 12 31]
def slices_heapSortCmpFunc_int__r8 : List SO := [mvZ 32 12, bcZ 33 .geq 3 32 0 3]
def slices_heapSortCmpFunc_int__r9 : List SO := [mvZ 36 0, mvZ 37 8, mvZ 38 0, mvZ 39 8, mvZ 40 12, boZ 41 .add 3 39 40 3, mvZ 42 0, mvZ 43 8, mvZ 44 12, boZ 45 .add 3 43 44 3, iaZ 46 24 42 45, ldZ 47 3 46, mvZ 48 0, mvZ 49 8, iaZ 50 24 48 49, ldZ 51 3 50, iaZ 52 24 36 37, stZ 3 52 47, iaZ 53 24 38 41, stZ 3 53 51]
def slices_heapSortCmpFunc_int__a9 : List (List Nat) := [[], [], [], [], [], [3, 4], [], [], [], [7, 8], [6, 9], [10], [], [], [12, 13], [14], [0, 1, 0, 1, 6, 7, 8, 9, 10, 11, 15], [16, 11, 0, 1, 6, 7, 8, 9, 10, 11, 15], [2, 5, 0, 1, 2, 3, 4, 5, 6, 7, 8, 9, 10, 11, 12, 13, 14, 15, 16, 17], [18, 15, 17, 0, 1, 2, 3, 4, 5, 6, 7, 8, 9, 10, 11, 12, 13, 14, 15, 16, 17]]
def slices_heapSortCmpFunc_int__r10 : List SO := [mvZ 54 0, mvZ 55 9, mvZ 56 12, mvZ 57 8, mvZ 58 3, rZ 59 (.call ⟨(.value (.func (121 : Nat))), #[(tZ 54), (tZ 55), (tZ 56), (tZ 57), (tZ 58)], #[24, 3, 3, 3, 32]⟩)]
def slices_heapSortCmpFunc_int__r11 : List SO := [mvZ 34 12, bcZ 35 .sub 3 34 1 3, asZ 12 35]
def slices_heapSortCmpFunc_int__c : SF := ⟨60, (.seq (.reg slices_heapSortCmpFunc_int__r0)
  (.seq (.reg slices_heapSortCmpFunc_int__r1)
  (.seq (.reg slices_heapSortCmpFunc_int__r2)
  (.seq (.seq (.reg slices_heapSortCmpFunc_int__r3)
  (.block 0 (.loop (.seq (.seq (.reg slices_heapSortCmpFunc_int__r4)
  (.cond (tZ 21) .skip (.exit 0)))
  (.seq (.block 1 (.reg slices_heapSortCmpFunc_int__r5))
  (.reg slices_heapSortCmpFunc_int__r6))))))
  (.seq (.reg slices_heapSortCmpFunc_int__r7)
  (.block 2 (.loop (.seq (.seq (.reg slices_heapSortCmpFunc_int__r8)
  (.cond (tZ 33) .skip (.exit 2)))
  (.seq (.block 3 (.seq (.regd slices_heapSortCmpFunc_int__r9 slices_heapSortCmpFunc_int__a9)
  (.reg slices_heapSortCmpFunc_int__r10)))
  (.reg slices_heapSortCmpFunc_int__r11)))))))))), []⟩
theorem slices_heapSortCmpFunc_int__s : slimF Try.prog 112 = some slices_heapSortCmpFunc_int__c := by kernel_rfl
/-- slices.breakPatternsCmpFunc[int] -/
def slices_breakPatternsCmpFunc_int__r0 : List SO := [mvZ 13 2, mvZ 14 1, boZ 15 .sub 3 13 14 3, asZ 8 15]
def slices_breakPatternsCmpFunc_int__r1 : List SO := [mvZ 16 8, bcZ 17 .geq 3 16 8 3]
def slices_breakPatternsCmpFunc_int__r2 : List SO := [mvZ 18 8, rZ 19 (.convert 3 191 (tZ 18)), rZ 9 (.alloc 191), stZ 191 9 19]
def slices_breakPatternsCmpFunc_int__r3 : List SO := [mvZ 20 8, rZ 21 (.call ⟨(.value (.func (122 : Nat))), #[(tZ 20)], #[3]⟩), asZ 10 21]
def slices_breakPatternsCmpFunc_int__r4 : List SO := [mvZ 22 1, mvZ 23 8, bcZ 24 .quo 3 23 4 3, bcZ 25 .mul 3 24 2 3, boZ 26 .add 3 22 25 3, bcZ 27 .sub 3 26 1 3, asZ 11 27]
def slices_breakPatternsCmpFunc_int__r5 : List SO := [mvZ 28 11, mvZ 29 1, mvZ 30 8, bcZ 31 .quo 3 30 4 3, bcZ 32 .mul 3 31 2 3, boZ 33 .add 3 29 32 3, bcZ 34 .add 3 33 1 3, boZ 35 .leq 3 28 34 3]
def slices_breakPatternsCmpFunc_int__r6 : List SO := [rZ 38 (.call ⟨(.value (.func (123 : Nat))), #[(tZ 9)], #[191]⟩), mvZ 39 10, rZ 40 (.binOp .sub 162 (tZ 39) (.const (.int .u64 1)) 162), boZ 41 .and 162 38 40 162, rZ 42 (.convert 162 3 (tZ 41)), asZ 12 42]
def slices_breakPatternsCmpFunc_int__r7 : List SO := [mvZ 43 12, mvZ 44 8, boZ 45 .geq 3 43 44 3]
def slices_breakPatternsCmpFunc_int__r8 : List SO := [mvZ 46 12, mvZ 47 8, boZ 48 .sub 3 46 47 3, asZ 12 48]
def slices_breakPatternsCmpFunc_int__r9 : List SO := [mvZ 49 0, mvZ 50 11, mvZ 51 0, mvZ 52 1, mvZ 53 12, boZ 54 .add 3 52 53 3, mvZ 55 0, mvZ 56 1, mvZ 57 12, boZ 58 .add 3 56 57 3, iaZ 59 24 55 58, ldZ 60 3 59, mvZ 61 0, mvZ 62 11, iaZ 63 24 61 62, ldZ 64 3 63, iaZ 65 24 49 50, stZ 3 65 60, iaZ 66 24 51 54, stZ 3 66 64]
def slices_breakPatternsCmpFunc_int__a9 : List (List Nat) := [[], [], [], [], [], [3, 4], [], [], [], [7, 8], [6, 9], [10], [], [], [12, 13], [14], [0, 1, 0, 1, 6, 7, 8, 9, 10, 11, 15], [16, 11, 0, 1, 6, 7, 8, 9, 10, 11, 15], [2, 5, 0, 1, 2, 3, 4, 5, 6, 7, 8, 9, 10, 11, 12, 13, 14, 15, 16, 17], [18, 15, 17, 0, 1, 2, 3, 4, 5, 6, 7, 8, 9, 10, 11, 12, 13, 14, 15, 16, 17]]
def slices_breakPatternsCmpFunc_int__r10 : List SO := [mvZ 36 11, bcZ 37 .add 3 36 1 3, asZ 11 37]
def slices_breakPatternsCmpFunc_int__c : SF := ⟨67, (.seq (.reg slices_breakPatternsCmpFunc_int__r0)
  (.seq (.reg slices_breakPatternsCmpFunc_int__r1)
  (.cond (tZ 17) (.seq (.reg slices_breakPatternsCmpFunc_int__r2)
  (.seq (.reg slices_breakPatternsCmpFunc_int__r3)
  (.seq (.reg slices_breakPatternsCmpFunc_int__r4)
  (.block 0 (.loop (.seq (.seq (.reg slices_breakPatternsCmpFunc_int__r5)
  (.cond (tZ 35) .skip (.exit 0)))
  (.seq (.block 1 (.seq (.reg slices_breakPatternsCmpFunc_int__r6)
  (.seq (.seq (.reg slices_breakPatternsCmpFunc_int__r7)
  (.cond (tZ 45) (.reg slices_breakPatternsCmpFunc_int__r8) .skip))
  (.regd slices_breakPatternsCmpFunc_int__r9 slices_breakPatternsCmpFunc_int__a9))))
  (.reg slices_breakPatternsCmpFunc_int__r10)))))))) .skip))), []⟩
theorem slices_breakPatternsCmpFunc_int__s : slimF Try.prog 113 = some slices_breakPatternsCmpFunc_int__c := by kernel_rfl
/-- slices.choosePivotCmpFunc[int] -/
def slices_choosePivotCmpFunc_int__r0 : List SO := [rZ 8 (.assign (ciZ 0)), rZ 9 (.assign (ciZ 0))]
def slices_choosePivotCmpFunc_int__r1 : List SO := [mvZ 15 2, mvZ 16 1, boZ 17 .sub 3 15 16 3, asZ 10 17]
def slices_choosePivotCmpFunc_int__r2 : List SO := [rZ 11 (.alloc 3)]
def slices_choosePivotCmpFunc_int__r3 : List SO := [mvZ 18 1, mvZ 19 10, bcZ 20 .quo 3 19 4 3, bcZ 21 .mul 3 20 1 3, boZ 22 .add 3 18 21 3, asZ 12 22]
def slices_choosePivotCmpFunc_int__r4 : List SO := [mvZ 23 1, mvZ 24 10, bcZ 25 .quo 3 24 4 3, bcZ 26 .mul 3 25 2 3, boZ 27 .add 3 23 26 3, asZ 13 27]
def slices_choosePivotCmpFunc_int__r5 : List SO := [mvZ 28 1, mvZ 29 10, bcZ 30 .quo 3 29 4 3, bcZ 31 .mul 3 30 3 3, boZ 32 .add 3 28 31 3, asZ 14 32]
def slices_choosePivotCmpFunc_int__r6 : List SO := [mvZ 33 10, bcZ 34 .geq 3 33 8 3]
def slices_choosePivotCmpFunc_int__r7 : List SO := [mvZ 35 10, bcZ 36 .geq 3 35 50 3]
def slices_choosePivotCmpFunc_int__r8 : List SO := [mvZ 37 0, mvZ 38 12, mvZ 39 3, rZ 40 (.call ⟨(.value (.func (124 : Nat))), #[(tZ 37), (tZ 38), (tZ 11), (tZ 39)], #[24, 3, 195, 32]⟩), asZ 12 40]
def slices_choosePivotCmpFunc_int__r9 : List SO := [mvZ 41 0, mvZ 42 13, mvZ 43 3, rZ 44 (.call ⟨(.value (.func (124 : Nat))), #[(tZ 41), (tZ 42), (tZ 11), (tZ 43)], #[24, 3, 195, 32]⟩), asZ 13 44]
def slices_choosePivotCmpFunc_int__r10 : List SO := [mvZ 45 0, mvZ 46 14, mvZ 47 3, rZ 48 (.call ⟨(.value (.func (124 : Nat))), #[(tZ 45), (tZ 46), (tZ 11), (tZ 47)], #[24, 3, 195, 32]⟩), asZ 14 48]
def slices_choosePivotCmpFunc_int__r11 : List SO := [mvZ 49 0, mvZ 50 12, mvZ 51 13, mvZ 52 14, mvZ 53 3, rZ 54 (.call ⟨(.value (.func (125 : Nat))), #[(tZ 49), (tZ 50), (tZ 51), (tZ 52), (tZ 11), (tZ 53)], #[24, 3, 3, 3, 195, 32]⟩), asZ 13 54]
def slices_choosePivotCmpFunc_int__r12 : List SO := [ldZ 55 3 11]
def slices_choosePivotCmpFunc_int__r13 : List SO := [bcZ 58 .eql 3 55 0 3, asZ 57 58]
def slices_choosePivotCmpFunc_int__r14 : List SO := [mvZ 59 13, asZ 8 59, rZ 9 (.assign (ciZ 1))]
def slices_choosePivotCmpFunc_int__r15 : List SO := [bcZ 61 .eql 3 55 12 3, asZ 60 61]
def slices_choosePivotCmpFunc_int__r16 : List SO := [mvZ 62 13, asZ 8 62, rZ 9 (.assign (ciZ 2))]
def slices_choosePivotCmpFunc_int__r17 : List SO := [mvZ 56 13, asZ 8 56, rZ 9 (.assign (ciZ 0))]
def slices_choosePivotCmpFunc_int__c : SF := ⟨63, (.seq (.reg slices_choosePivotCmpFunc_int__r0)
  (.seq (.reg slices_choosePivotCmpFunc_int__r1)
  (.seq (.reg slices_choosePivotCmpFunc_int__r2)
  (.seq (.reg slices_choosePivotCmpFunc_int__r3)
  (.seq (.reg slices_choosePivotCmpFunc_int__r4)
  (.seq (.reg slices_choosePivotCmpFunc_int__r5)
  (.seq (.seq (.reg slices_choosePivotCmpFunc_int__r6)
  (.cond (tZ 34) (.seq (.seq (.reg slices_choosePivotCmpFunc_int__r7)
  (.cond (tZ 36) (.seq (.reg slices_choosePivotCmpFunc_int__r8)
  (.seq (.reg slices_choosePivotCmpFunc_int__r9)
  (.reg slices_choosePivotCmpFunc_int__r10))) .skip))
  (.reg slices_choosePivotCmpFunc_int__r11)) .skip))
  (.seq (.reg slices_choosePivotCmpFunc_int__r12)
  (.block 0 (.seq (.reg slices_choosePivotCmpFunc_int__r13)
  (.cond (tZ 57) (.seq (.reg slices_choosePivotCmpFunc_int__r14)
  .ret) (.seq (.reg slices_choosePivotCmpFunc_int__r15)
  (.cond (tZ 60) (.seq (.reg slices_choosePivotCmpFunc_int__r16)
  .ret) (.seq (.reg slices_choosePivotCmpFunc_int__r17)
  .ret)))))))))))))), [.tmp 8, .tmp 9]⟩
theorem slices_choosePivotCmpFunc_int__s : slimF Try.prog 114 = some slices_choosePivotCmpFunc_int__c := by kernel_rfl
/-- slices.reverseRangeCmpFunc[int] -/
def slices_reverseRangeCmpFunc_int__r0 : List SO := [mvZ 10 1, asZ 8 10]
def slices_reverseRangeCmpFunc_int__r1 : List SO := [mvZ 11 2, bcZ 12 .sub 3 11 1 3, asZ 9 12]
def slices_reverseRangeCmpFunc_int__r2 : List SO := [mvZ 13 8, mvZ 14 9, boZ 15 .lss 3 13 14 3]
def slices_reverseRangeCmpFunc_int__r3 : List SO := [mvZ 16 0, mvZ 17 8, mvZ 18 0, mvZ 19 9, mvZ 20 0, mvZ 21 9, iaZ 22 24 20 21, ldZ 23 3 22, mvZ 24 0, mvZ 25 8, iaZ 26 24 24 25, ldZ 27 3 26, iaZ 28 24 16 17, stZ 3 28 23, iaZ 29 24 18 19, stZ 3 29 27]
def slices_reverseRangeCmpFunc_int__a3 : List (List Nat) := [[], [], [], [], [], [], [4, 5], [6], [], [], [8, 9], [10], [0, 1, 0, 1, 4, 5, 6, 7, 11], [12, 7, 0, 1, 4, 5, 6, 7, 11], [2, 3, 0, 1, 2, 3, 4, 5, 6, 7, 8, 9, 10, 11, 12, 13], [14, 11, 13, 0, 1, 2, 3, 4, 5, 6, 7, 8, 9, 10, 11, 12, 13]]
def slices_reverseRangeCmpFunc_int__r4 : List SO := [mvZ 30 8, bcZ 31 .add 3 30 1 3, asZ 8 31]
def slices_reverseRangeCmpFunc_int__r5 : List SO := [mvZ 32 9, bcZ 33 .sub 3 32 1 3, asZ 9 33]
def slices_reverseRangeCmpFunc_int__c : SF := ⟨34, (.seq (.reg slices_reverseRangeCmpFunc_int__r0)
  (.seq (.reg slices_reverseRangeCmpFunc_int__r1)
  (.block 0 (.loop (.seq (.seq (.reg slices_reverseRangeCmpFunc_int__r2)
  (.cond (tZ 15) .skip (.exit 0)))
  (.block 1 (.seq (.regd slices_reverseRangeCmpFunc_int__r3 slices_reverseRangeCmpFunc_int__a3)
  (.seq (.reg slices_reverseRangeCmpFunc_int__r4)
  (.reg slices_reverseRangeCmpFunc_int__r5))))))))), []⟩
theorem slices_reverseRangeCmpFunc_int__s : slimF Try.prog 115 = some slices_reverseRangeCmpFunc_int__c := by kernel_rfl
/-- slices.partialInsertionSortCmpFunc[int] -/
def slices_partialInsertionSortCmpFunc_int__r0 : List SO := [rZ 8 (.assign (.const (.bool false)))]
def slices_partialInsertionSortCmpFunc_int__r1 : List SO := [mvZ 13 1, bcZ 14 .add 3 13 1 3, asZ 9 14]
def slices_partialInsertionSortCmpFunc_int__r2 : List SO := [rZ 10 (.assign (ciZ 0))]
def slices_partialInsertionSortCmpFunc_int__r3 : List SO := [mvZ 15 10, bcZ 16 .lss 3 15 5 3]
def slices_partialInsertionSortCmpFunc_int__r4 : List SO := [mvZ 19 9, mvZ 20 2, boZ 21 .lss 3 19 20 3, mvZ 22 21, gZ 22 true (mvZ 23 3), gZ 22 true (mvZ 24 0), gZ 22 true (mvZ 25 9), gZ 22 true (iaZ 26 24 24 25), gZ 22 true (ldZ 27 3 26), gZ 22 true (mvZ 28 0), gZ 22 true (mvZ 29 9), gZ 22 true (bcZ 30 .sub 3 29 1 3), gZ 22 true (iaZ 31 24 28 30), gZ 22 true (ldZ 32 3 31), gZ 22 true (rZ 33 (.call ⟨(.value (tZ 23)), #[(tZ 27), (tZ 32)], #[3, 3]⟩)), gZ 22 true (bcZ 34 .lss 3 33 0 3), gZ 22 true (rZ 35 (.unOp .not 4 (tZ 34))), rZ 36 (.pick (tZ 22) (tZ 35) (.const (.bool false)))]
def slices_partialInsertionSortCmpFunc_int__a4 : List (List Nat) := [[], [], [0, 1], [2], [3], [3], [3], [5, 6, 3], [7, 3], [3], [3], [10, 3], [9, 11, 3], [12, 3], [4, 8, 13, 3, 3], [14, 3], [15, 3], [3, 16]]
def slices_partialInsertionSortCmpFunc_int__r5 : List SO := [mvZ 37 9, bcZ 38 .add 3 37 1 3, asZ 9 38]
def slices_partialInsertionSortCmpFunc_int__r6 : List SO := [mvZ 39 9, mvZ 40 2, boZ 41 .eql 3 39 40 3]
def slices_partialInsertionSortCmpFunc_int__r7 : List SO := [rZ 8 (.assign (.const (.bool true)))]
def slices_partialInsertionSortCmpFunc_int__r8 : List SO := [mvZ 42 2, mvZ 43 1, boZ 44 .sub 3 42 43 3, bcZ 45 .lss 3 44 50 3]
def slices_partialInsertionSortCmpFunc_int__r9 : List SO := [rZ 8 (.assign (.const (.bool false)))]
def slices_partialInsertionSortCmpFunc_int__r10 : List SO := [mvZ 46 0, mvZ 47 9, mvZ 48 0, mvZ 49 9, bcZ 50 .sub 3 49 1 3, mvZ 51 0, mvZ 52 9, bcZ 53 .sub 3 52 1 3, iaZ 54 24 51 53, ldZ 55 3 54, mvZ 56 0, mvZ 57 9, iaZ 58 24 56 57, ldZ 59 3 58, iaZ 60 24 46 47, stZ 3 60 55, iaZ 61 24 48 50, stZ 3 61 59]
def slices_partialInsertionSortCmpFunc_int__a10 : List (List Nat) := [[], [], [], [], [3], [], [], [6], [5, 7], [8], [], [], [10, 11], [12], [0, 1, 0, 1, 5, 6, 7, 8, 9, 13], [14, 9, 0, 1, 5, 6, 7, 8, 9, 13], [2, 4, 0, 1, 2, 3, 4, 5, 6, 7, 8, 9, 10, 11, 12, 13, 14, 15], [16, 13, 15, 0, 1, 2, 3, 4, 5, 6, 7, 8, 9, 10, 11, 12, 13, 14, 15]]
def slices_partialInsertionSortCmpFunc_int__r11 : List SO := [mvZ 62 9, mvZ 63 1, boZ 64 .sub 3 62 63 3, bcZ 65 .geq 3 64 2 3]
def slices_partialInsertionSortCmpFunc_int__r12 : List SO := [mvZ 66 9, bcZ 67 .sub 3 66 1 3, asZ 11 67]
def slices_partialInsertionSortCmpFunc_int__r13 : List SO := [mvZ 68 11, bcZ 69 .geq 3 68 1 3]
def slices_partialInsertionSortCmpFunc_int__r14 : List SO := [mvZ 72 3, mvZ 73 0, mvZ 74 11, iaZ 75 24 73 74, ldZ 76 3 75, mvZ 77 0, mvZ 78 11, bcZ 79 .sub 3 78 1 3, iaZ 80 24 77 79, ldZ 81 3 80, rZ 82 (.call ⟨(.value (tZ 72)), #[(tZ 76), (tZ 81)], #[3, 3]⟩), bcZ 83 .lss 3 82 0 3, rZ 84 (.unOp .not 4 (tZ 83))]
def slices_partialInsertionSortCmpFunc_int__a14 : List (List Nat) := [[], [], [], [1, 2], [3], [], [], [6], [5, 7], [8], [0, 4, 9], [10], [11]]
def slices_partialInsertionSortCmpFunc_int__r15 : List SO := [mvZ 85 0, mvZ 86 11, mvZ 87 0, mvZ 88 11, bcZ 89 .sub 3 88 1 3, mvZ 90 0, mvZ 91 11, bcZ 92 .sub 3 91 1 3, iaZ 93 24 90 92, ldZ 94 3 93, mvZ 95 0, mvZ 96 11, iaZ 97 24 95 96, ldZ 98 3 97, iaZ 99 24 85 86, stZ 3 99 94, iaZ 100 24 87 89, stZ 3 100 98]
def slices_partialInsertionSortCmpFunc_int__a15 : List (List Nat) := [[], [], [], [], [3], [], [], [6], [5, 7], [8], [], [], [10, 11], [12], [0, 1, 0, 1, 5, 6, 7, 8, 9, 13], [14, 9, 0, 1, 5, 6, 7, 8, 9, 13], [2, 4, 0, 1, 2, 3, 4, 5, 6, 7, 8, 9, 10, 11, 12, 13, 14, 15], [16, 13, 15, 0, 1, 2, 3, 4, 5, 6, 7, 8, 9, 10, 11, 12, 13, 14, 15]]
def slices_partialInsertionSortCmpFunc_int__r16 : List SO := [mvZ 70 11, bcZ 71 .sub 3 70 1 3, asZ 11 71]
def slices_partialInsertionSortCmpFunc_int__r17 : List SO := [mvZ 101 2, mvZ 102 9, boZ 103 .sub 3 101 102 3, bcZ 104 .geq 3 103 2 3]
def slices_partialInsertionSortCmpFunc_int__r18 : List SO := [mvZ 105 9, bcZ 106 .add 3 105 1 3, asZ 12 106]
def slices_partialInsertionSortCmpFunc_int__r19 : List SO := [mvZ 107 12, mvZ 108 2, boZ 109 .lss 3 107 108 3]
def slices_partialInsertionSortCmpFunc_int__r20 : List SO := [mvZ 112 3, mvZ 113 0, mvZ 114 12, iaZ 115 24 113 114, ldZ 116 3 115, mvZ 117 0, mvZ 118 12, bcZ 119 .sub 3 118 1 3, iaZ 120 24 117 119, ldZ 121 3 120, rZ 122 (.call ⟨(.value (tZ 112)), #[(tZ 116), (tZ 121)], #[3, 3]⟩), bcZ 123 .lss 3 122 0 3, rZ 124 (.unOp .not 4 (tZ 123))]
def slices_partialInsertionSortCmpFunc_int__a20 : List (List Nat) := [[], [], [], [1, 2], [3], [], [], [6], [5, 7], [8], [0, 4, 9], [10], [11]]
def slices_partialInsertionSortCmpFunc_int__r21 : List SO := [mvZ 125 0, mvZ 126 12, mvZ 127 0, mvZ 128 12, bcZ 129 .sub 3 128 1 3, mvZ 130 0, mvZ 131 12, bcZ 132 .sub 3 131 1 3, iaZ 133 24 130 132, ldZ 134 3 133, mvZ 135 0, mvZ 136 12, iaZ 137 24 135 136, ldZ 138 3 137, iaZ 139 24 125 126, stZ 3 139 134, iaZ 140 24 127 129, stZ 3 140 138]
def slices_partialInsertionSortCmpFunc_int__a21 : List (List Nat) := [[], [], [], [], [3], [], [], [6], [5, 7], [8], [], [], [10, 11], [12], [0, 1, 0, 1, 5, 6, 7, 8, 9, 13], [14, 9, 0, 1, 5, 6, 7, 8, 9, 13], [2, 4, 0, 1, 2, 3, 4, 5, 6, 7, 8, 9, 10, 11, 12, 13, 14, 15], [16, 13, 15, 0, 1, 2, 3, 4, 5, 6, 7, 8, 9, 10, 11, 12, 13, 14, 15]]
def slices_partialInsertionSortCmpFunc_int__r22 : List SO := [mvZ 110 12, bcZ 111 .add 3 110 1 3, asZ 12 111]
def slices_partialInsertionSortCmpFunc_int__r23 : List SO := [mvZ 17 10, bcZ 18 .add 3 17 1 3, asZ 10 18]
def slices_partialInsertionSortCmpFunc_int__r24 : List SO := [rZ 8 (.assign (.const (.bool false)))]
def slices_partialInsertionSortCmpFunc_int__c : SF := ⟨141, (.seq (.reg slices_partialInsertionSortCmpFunc_int__r0)
  (.seq (.reg slices_partialInsertionSortCmpFunc_int__r1)
  (.seq (.seq (.reg slices_partialInsertionSortCmpFunc_int__r2)
  (.block 0 (.loop (.seq (.seq (.reg slices_partialInsertionSortCmpFunc_int__r3)
  (.cond (tZ 16) .skip (.exit 0)))
  (.seq (.block 1 (.seq (.block 2 (.loop (.seq (.seq (.regd slices_partialInsertionSortCmpFunc_int__r4 slices_partialInsertionSortCmpFunc_int__a4)
  (.cond (tZ 36) .skip (.exit 2)))
  (.block 3 (.reg slices_partialInsertionSortCmpFunc_int__r5)))))
  (.seq (.seq (.reg slices_partialInsertionSortCmpFunc_int__r6)
  (.cond (tZ 41) (.seq (.reg slices_partialInsertionSortCmpFunc_int__r7)
  .ret) .skip))
  (.seq (.seq (.reg slices_partialInsertionSortCmpFunc_int__r8)
  (.cond (tZ 45) (.seq (.reg slices_partialInsertionSortCmpFunc_int__r9)
  .ret) .skip))
  (.seq (.regd slices_partialInsertionSortCmpFunc_int__r10 slices_partialInsertionSortCmpFunc_int__a10)
  (.seq (.seq (.reg slices_partialInsertionSortCmpFunc_int__r11)
  (.cond (tZ 65) (.seq (.reg slices_partialInsertionSortCmpFunc_int__r12)
  (.block 4 (.loop (.seq (.seq (.reg slices_partialInsertionSortCmpFunc_int__r13)
  (.cond (tZ 69) .skip (.exit 4)))
  (.seq (.block 5 (.seq (.seq (.regd slices_partialInsertionSortCmpFunc_int__r14 slices_partialInsertionSortCmpFunc_int__a14)
  (.cond (tZ 84) (.exit 4) .skip))
  (.regd slices_partialInsertionSortCmpFunc_int__r15 slices_partialInsertionSortCmpFunc_int__a15)))
  (.reg slices_partialInsertionSortCmpFunc_int__r16)))))) .skip))
  (.seq (.reg slices_partialInsertionSortCmpFunc_int__r17)
  (.cond (tZ 104) (.seq (.reg slices_partialInsertionSortCmpFunc_int__r18)
  (.block 6 (.loop (.seq (.seq (.reg slices_partialInsertionSortCmpFunc_int__r19)
  (.cond (tZ 109) .skip (.exit 6)))
  (.seq (.block 7 (.seq (.seq (.regd slices_partialInsertionSortCmpFunc_int__r20 slices_partialInsertionSortCmpFunc_int__a20)
  (.cond (tZ 124) (.exit 6) .skip))
  (.regd slices_partialInsertionSortCmpFunc_int__r21 slices_partialInsertionSortCmpFunc_int__a21)))
  (.reg slices_partialInsertionSortCmpFunc_int__r22)))))) .skip))))))))
  (.reg slices_partialInsertionSortCmpFunc_int__r23))))))
  (.seq (.reg slices_partialInsertionSortCmpFunc_int__r24)
  .ret)))), [.tmp 8]⟩
theorem slices_partialInsertionSortCmpFunc_int__s : slimF Try.prog 116 = some slices_partialInsertionSortCmpFunc_int__c := by kernel_rfl
/-- slices.partitionEqualCmpFunc[int] -/
def slices_partitionEqualCmpFunc_int__r0 : List SO := [rZ 10 (.assign (ciZ 0))]
def slices_partitionEqualCmpFunc_int__r1 : List SO := [mvZ 13 0, mvZ 14 1, mvZ 15 0, mvZ 16 3, mvZ 17 0, mvZ 18 3, iaZ 19 24 17 18, ldZ 20 3 19, mvZ 21 0, mvZ 22 1, iaZ 23 24 21 22, ldZ 24 3 23, iaZ 25 24 13 14, stZ 3 25 20, iaZ 26 24 15 16, stZ 3 26 24]
def slices_partitionEqualCmpFunc_int__a1 : List (List Nat) := [[], [], [], [], [], [], [4, 5], [6], [], [], [8, 9], [10], [0, 1, 0, 1, 4, 5, 6, 7, 11], [12, 7, 0, 1, 4, 5, 6, 7, 11], [2, 3, 0, 1, 2, 3, 4, 5, 6, 7, 8, 9, 10, 11, 12, 13], [14, 11, 13, 0, 1, 2, 3, 4, 5, 6, 7, 8, 9, 10, 11, 12, 13]]
def slices_partitionEqualCmpFunc_int__r2 : List SO := [mvZ 27 1, bcZ 28 .add 3 27 1 3, mvZ 29 2, bcZ 30 .sub 3 29 1 3, asZ 11 28, asZ 12 30]
def slices_partitionEqualCmpFunc_int__r3 : List SO := [mvZ 31 11, mvZ 32 12, boZ 33 .leq 3 31 32 3, mvZ 34 33, gZ 34 true (mvZ 35 4), gZ 34 true (mvZ 36 0), gZ 34 true (mvZ 37 1), gZ 34 true (iaZ 38 24 36 37), gZ 34 true (ldZ 39 3 38), gZ 34 true (mvZ 40 0), gZ 34 true (mvZ 41 11), gZ 34 true (iaZ 42 24 40 41), gZ 34 true (ldZ 43 3 42), gZ 34 true (rZ 44 (.call ⟨(.value (tZ 35)), #[(tZ 39), (tZ 43)], #[3, 3]⟩)), gZ 34 true (bcZ 45 .lss 3 44 0 3), gZ 34 true (rZ 46 (.unOp .not 4 (tZ 45))), rZ 47 (.pick (tZ 34) (tZ 46) (.const (.bool false)))]
def slices_partitionEqualCmpFunc_int__a3 : List (List Nat) := [[], [], [0, 1], [2], [3], [3], [3], [5, 6, 3], [7, 3], [3], [3], [9, 10, 3], [11, 3], [4, 8, 12, 3, 3], [13, 3], [14, 3], [3, 15]]
def slices_partitionEqualCmpFunc_int__r4 : List SO := [mvZ 48 11, bcZ 49 .add 3 48 1 3, asZ 11 49]
def slices_partitionEqualCmpFunc_int__r5 : List SO := [mvZ 50 11, mvZ 51 12, boZ 52 .leq 3 50 51 3, mvZ 53 52, gZ 53 true (mvZ 54 4), gZ 53 true (mvZ 55 0), gZ 53 true (mvZ 56 1), gZ 53 true (iaZ 57 24 55 56), gZ 53 true (ldZ 58 3 57), gZ 53 true (mvZ 59 0), gZ 53 true (mvZ 60 12), gZ 53 true (iaZ 61 24 59 60), gZ 53 true (ldZ 62 3 61), gZ 53 true (rZ 63 (.call ⟨(.value (tZ 54)), #[(tZ 58), (tZ 62)], #[3, 3]⟩)), gZ 53 true (bcZ 64 .lss 3 63 0 3), rZ 65 (.pick (tZ 53) (tZ 64) (.const (.bool false)))]
def slices_partitionEqualCmpFunc_int__a5 : List (List Nat) := [[], [], [0, 1], [2], [3], [3], [3], [5, 6, 3], [7, 3], [3], [3], [9, 10, 3], [11, 3], [4, 8, 12, 3, 3], [13, 3], [3, 14]]
def slices_partitionEqualCmpFunc_int__r6 : List SO := [mvZ 66 12, bcZ 67 .sub 3 66 1 3, asZ 12 67]
def slices_partitionEqualCmpFunc_int__r7 : List SO := [mvZ 68 11, mvZ 69 12, boZ 70 .gtr 3 68 69 3]
def slices_partitionEqualCmpFunc_int__r8 : List SO := [mvZ 71 0, mvZ 72 11, mvZ 73 0, mvZ 74 12, mvZ 75 0, mvZ 76 12, iaZ 77 24 75 76, ldZ 78 3 77, mvZ 79 0, mvZ 80 11, iaZ 81 24 79 80, ldZ 82 3 81, iaZ 83 24 71 72, stZ 3 83 78, iaZ 84 24 73 74, stZ 3 84 82]
def slices_partitionEqualCmpFunc_int__a8 : List (List Nat) := [[], [], [], [], [], [], [4, 5], [6], [], [], [8, 9], [10], [0, 1, 0, 1, 4, 5, 6, 7, 11], [12, 7, 0, 1, 4, 5, 6, 7, 11], [2, 3, 0, 1, 2, 3, 4, 5, 6, 7, 8, 9, 10, 11, 12, 13], [14, 11, 13, 0, 1, 2, 3, 4, 5, 6, 7, 8, 9, 10, 11, 12, 13]]
def slices_partitionEqualCmpFunc_int__r9 : List SO := [mvZ 85 11, bcZ 86 .add 3 85 1 3, asZ 11 86]
def slices_partitionEqualCmpFunc_int__r10 : List SO := [mvZ 87 12, bcZ 88 .sub 3 87 1 3, asZ 12 88]
def slices_partitionEqualCmpFunc_int__r11 : List SO := [mvZ 89 11, asZ 10 89]
def slices_partitionEqualCmpFunc_int__c : SF := ⟨90, (.seq (.reg slices_partitionEqualCmpFunc_int__r0)
  (.seq (.regd slices_partitionEqualCmpFunc_int__r1 slices_partitionEqualCmpFunc_int__a1)
  (.seq (.reg slices_partitionEqualCmpFunc_int__r2)
  (.seq (.block 0 (.loop (.block 1 (.seq (.block 2 (.loop (.seq (.seq (.regd slices_partitionEqualCmpFunc_int__r3 slices_partitionEqualCmpFunc_int__a3)
  (.cond (tZ 47) .skip (.exit 2)))
  (.block 3 (.reg slices_partitionEqualCmpFunc_int__r4)))))
  (.seq (.block 4 (.loop (.seq (.seq (.regd slices_partitionEqualCmpFunc_int__r5 slices_partitionEqualCmpFunc_int__a5)
  (.cond (tZ 65) .skip (.exit 4)))
  (.block 5 (.reg slices_partitionEqualCmpFunc_int__r6)))))
  (.seq (.seq (.reg slices_partitionEqualCmpFunc_int__r7)
  (.cond (tZ 70) (.exit 0) .skip))
  (.seq (.regd slices_partitionEqualCmpFunc_int__r8 slices_partitionEqualCmpFunc_int__a8)
  (.seq (.reg slices_partitionEqualCmpFunc_int__r9)
  (.reg slices_partitionEqualCmpFunc_int__r10)))))))))
  (.seq (.reg slices_partitionEqualCmpFunc_int__r11)
  .ret))))), [.tmp 10]⟩
theorem slices_partitionEqualCmpFunc_int__s : slimF Try.prog 117 = some slices_partitionEqualCmpFunc_int__c := by kernel_rfl
/-- slices.partitionCmpFunc[int] -/
def slices_partitionCmpFunc_int__r0 : List SO := [rZ 10 (.assign (ciZ 0)), rZ 11 (.assign (.const (.bool false)))]
def slices_partitionCmpFunc_int__r1 : List SO := [mvZ 14 0, mvZ 15 1, mvZ 16 0, mvZ 17 3, mvZ 18 0, mvZ 19 3, iaZ 20 24 18 19, ldZ 21 3 20, mvZ 22 0, mvZ 23 1, iaZ 24 24 22 23, ldZ 25 3 24, iaZ 26 24 14 15, stZ 3 26 21, iaZ 27 24 16 17, stZ 3 27 25]
def slices_partitionCmpFunc_int__a1 : List (List Nat) := [[], [], [], [], [], [], [4, 5], [6], [], [], [8, 9], [10], [0, 1, 0, 1, 4, 5, 6, 7, 11], [12, 7, 0, 1, 4, 5, 6, 7, 11], [2, 3, 0, 1, 2, 3, 4, 5, 6, 7, 8, 9, 10, 11, 12, 13], [14, 11, 13, 0, 1, 2, 3, 4, 5, 6, 7, 8, 9, 10, 11, 12, 13]]
def slices_partitionCmpFunc_int__r2 : List SO := [mvZ 28 1, bcZ 29 .add 3 28 1 3, mvZ 30 2, bcZ 31 .sub 3 30 1 3, asZ 12 29, asZ 13 31]
def slices_partitionCmpFunc_int__r3 : List SO := [mvZ 32 12, mvZ 33 13, boZ 34 .leq 3 32 33 3, mvZ 35 34, gZ 35 true (mvZ 36 4), gZ 35 true (mvZ 37 0), gZ 35 true (mvZ 38 12), gZ 35 true (iaZ 39 24 37 38), gZ 35 true (ldZ 40 3 39), gZ 35 true (mvZ 41 0), gZ 35 true (mvZ 42 1), gZ 35 true (iaZ 43 24 41 42), gZ 35 true (ldZ 44 3 43), gZ 35 true (rZ 45 (.call ⟨(.value (tZ 36)), #[(tZ 40), (tZ 44)], #[3, 3]⟩)), gZ 35 true (bcZ 46 .lss 3 45 0 3), rZ 47 (.pick (tZ 35) (tZ 46) (.const (.bool false)))]
def slices_partitionCmpFunc_int__a3 : List (List Nat) := [[], [], [0, 1], [2], [3], [3], [3], [5, 6, 3], [7, 3], [3], [3], [9, 10, 3], [11, 3], [4, 8, 12, 3, 3], [13, 3], [3, 14]]
def slices_partitionCmpFunc_int__r4 : List SO := [mvZ 48 12, bcZ 49 .add 3 48 1 3, asZ 12 49]
def slices_partitionCmpFunc_int__r5 : List SO := [mvZ 50 12, mvZ 51 13, boZ 52 .leq 3 50 51 3, mvZ 53 52, gZ 53 true (mvZ 54 4), gZ 53 true (mvZ 55 0), gZ 53 true (mvZ 56 13), gZ 53 true (iaZ 57 24 55 56), gZ 53 true (ldZ 58 3 57), gZ 53 true (mvZ 59 0), gZ 53 true (mvZ 60 1), gZ 53 true (iaZ 61 24 59 60), gZ 53 true (ldZ 62 3 61), gZ 53 true (rZ 63 (.call ⟨(.value (tZ 54)), #[(tZ 58), (tZ 62)], #[3, 3]⟩)), gZ 53 true (bcZ 64 .lss 3 63 0 3), gZ 53 true (rZ 65 (.unOp .not 4 (tZ 64))), rZ 66 (.pick (tZ 53) (tZ 65) (.const (.bool false)))]
def slices_partitionCmpFunc_int__a5 : List (List Nat) := [[], [], [0, 1], [2], [3], [3], [3], [5, 6, 3], [7, 3], [3], [3], [9, 10, 3], [11, 3], [4, 8, 12, 3, 3], [13, 3], [14, 3], [3, 15]]
def slices_partitionCmpFunc_int__r6 : List SO := [mvZ 67 13, bcZ 68 .sub 3 67 1 3, asZ 13 68]
def slices_partitionCmpFunc_int__r7 : List SO := [mvZ 69 12, mvZ 70 13, boZ 71 .gtr 3 69 70 3]
def slices_partitionCmpFunc_int__r8 : List SO := [mvZ 72 0, mvZ 73 13, mvZ 74 0, mvZ 75 1, mvZ 76 0, mvZ 77 1, iaZ 78 24 76 77, ldZ 79 3 78, mvZ 80 0, mvZ 81 13, iaZ 82 24 80 81, ldZ 83 3 82, iaZ 84 24 72 73, stZ 3 84 79, iaZ 85 24 74 75, stZ 3 85 83]
def slices_partitionCmpFunc_int__a8 : List (List Nat) := [[], [], [], [], [], [], [4, 5], [6], [], [], [8, 9], [10], [0, 1, 0, 1, 4, 5, 6, 7, 11], [12, 7, 0, 1, 4, 5, 6, 7, 11], [2, 3, 0, 1, 2, 3, 4, 5, 6, 7, 8, 9, 10, 11, 12, 13], [14, 11, 13, 0, 1, 2, 3, 4, 5, 6, 7, 8, 9, 10, 11, 12, 13]]
def slices_partitionCmpFunc_int__r9 : List SO := [mvZ 86 13, asZ 10 86, rZ 11 (.assign (.const (.bool true)))]
def slices_partitionCmpFunc_int__r10 : List SO := [mvZ 87 0, mvZ 88 12, mvZ 89 0, mvZ 90 13, mvZ 91 0, mvZ 92 13, iaZ 93 24 91 92, ldZ 94 3 93, mvZ 95 0, mvZ 96 12, iaZ 97 24 95 96, ldZ 98 3 97, iaZ 99 24 87 88, stZ 3 99 94, iaZ 100 24 89 90, stZ 3 100 98]
def slices_partitionCmpFunc_int__a10 : List (List Nat) := [[], [], [], [], [], [], [4, 5], [6], [], [], [8, 9], [10], [0, 1, 0, 1, 4, 5, 6, 7, 11], [12, 7, 0, 1, 4, 5, 6, 7, 11], [2, 3, 0, 1, 2, 3, 4, 5, 6, 7, 8, 9, 10, 11, 12, 13], [14, 11, 13, 0, 1, 2, 3, 4, 5, 6, 7, 8, 9, 10, 11, 12, 13]]
def slices_partitionCmpFunc_int__r11 : List SO := [mvZ 101 12, bcZ 102 .add 3 101 1 3, asZ 12 102]
def slices_partitionCmpFunc_int__r12 : List SO := [mvZ 103 13, bcZ 104 .sub 3 103 1 3, asZ 13 104]
def slices_partitionCmpFunc_int__r13 : List SO := [mvZ 105 12, mvZ 106 13, boZ 107 .leq 3 105 106 3, mvZ 108 107, gZ 108 true (mvZ 109 4), gZ 108 true (mvZ 110 0), gZ 108 true (mvZ 111 12), gZ 108 true (iaZ 112 24 110 111), gZ 108 true (ldZ 113 3 112), gZ 108 true (mvZ 114 0), gZ 108 true (mvZ 115 1), gZ 108 true (iaZ 116 24 114 115), gZ 108 true (ldZ 117 3 116), gZ 108 true (rZ 118 (.call ⟨(.value (tZ 109)), #[(tZ 113), (tZ 117)], #[3, 3]⟩)), gZ 108 true (bcZ 119 .lss 3 118 0 3), rZ 120 (.pick (tZ 108) (tZ 119) (.const (.bool false)))]
def slices_partitionCmpFunc_int__a13 : List (List Nat) := [[], [], [0, 1], [2], [3], [3], [3], [5, 6, 3], [7, 3], [3], [3], [9, 10, 3], [11, 3], [4, 8, 12, 3, 3], [13, 3], [3, 14]]
def slices_partitionCmpFunc_int__r14 : List SO := [mvZ 121 12, bcZ 122 .add 3 121 1 3, asZ 12 122]
def slices_partitionCmpFunc_int__r15 : List SO := [mvZ 123 12, mvZ 124 13, boZ 125 .leq 3 123 124 3, mvZ 126 125, gZ 126 true (mvZ 127 4), gZ 126 true (mvZ 128 0), gZ 126 true (mvZ 129 13), gZ 126 true (iaZ 130 24 128 129), gZ 126 true (ldZ 131 3 130), gZ 126 true (mvZ 132 0), gZ 126 true (mvZ 133 1), gZ 126 true (iaZ 134 24 132 133), gZ 126 true (ldZ 135 3 134), gZ 126 true (rZ 136 (.call ⟨(.value (tZ 127)), #[(tZ 131), (tZ 135)], #[3, 3]⟩)), gZ 126 true (bcZ 137 .lss 3 136 0 3), gZ 126 true (rZ 138 (.unOp .not 4 (tZ 137))), rZ 139 (.pick (tZ 126) (tZ 138) (.const (.bool false)))]
def slices_partitionCmpFunc_int__a15 : List (List Nat) := [[], [], [0, 1], [2], [3], [3], [3], [5, 6, 3], [7, 3], [3], [3], [9, 10, 3], [11, 3], [4, 8, 12, 3, 3], [13, 3], [14, 3], [3, 15]]
def slices_partitionCmpFunc_int__r16 : List SO := [mvZ 140 13, bcZ 141 .sub 3 140 1 3, asZ 13 141]
def slices_partitionCmpFunc_int__r17 : List SO := [mvZ 142 12, mvZ 143 13, boZ 144 .gtr 3 142 143 3]
def slices_partitionCmpFunc_int__r18 : List SO := [mvZ 145 0, mvZ 146 12, mvZ 147 0, mvZ 148 13, mvZ 149 0, mvZ 150 13, iaZ 151 24 149 150, ldZ 152 3 151, mvZ 153 0, mvZ 154 12, iaZ 155 24 153 154, ldZ 156 3 155, iaZ 157 24 145 146, stZ 3 157 152, iaZ 158 24 147 148, stZ 3 158 156]
def slices_partitionCmpFunc_int__a18 : List (List Nat) := [[], [], [], [], [], [], [4, 5], [6], [], [], [8, 9], [10], [0, 1, 0, 1, 4, 5, 6, 7, 11], [12, 7, 0, 1, 4, 5, 6, 7, 11], [2, 3, 0, 1, 2, 3, 4, 5, 6, 7, 8, 9, 10, 11, 12, 13], [14, 11, 13, 0, 1, 2, 3, 4, 5, 6, 7, 8, 9, 10, 11, 12, 13]]
def slices_partitionCmpFunc_int__r19 : List SO := [mvZ 159 12, bcZ 160 .add 3 159 1 3, asZ 12 160]
def slices_partitionCmpFunc_int__r20 : List SO := [mvZ 161 13, bcZ 162 .sub 3 161 1 3, asZ 13 162]
def slices_partitionCmpFunc_int__r21 : List SO := [mvZ 163 0, mvZ 164 13, mvZ 165 0, mvZ 166 1, mvZ 167 0, mvZ 168 1, iaZ 169 24 167 168, ldZ 170 3 169, mvZ 171 0, mvZ 172 13, iaZ 173 24 171 172, ldZ 174 3 173, iaZ 175 24 163 164, stZ 3 175 170, iaZ 176 24 165 166, stZ 3 176 174]
def slices_partitionCmpFunc_int__a21 : List (List Nat) := [[], [], [], [], [], [], [4, 5], [6], [], [], [8, 9], [10], [0, 1, 0, 1, 4, 5, 6, 7, 11], [12, 7, 0, 1, 4, 5, 6, 7, 11], [2, 3, 0, 1, 2, 3, 4, 5, 6, 7, 8, 9, 10, 11, 12, 13], [14, 11, 13, 0, 1, 2, 3, 4, 5, 6, 7, 8, 9, 10, 11, 12, 13]]
def slices_partitionCmpFunc_int__r22 : List SO := [mvZ 177 13, asZ 10 177, rZ 11 (.assign (.const (.bool false)))]
def slices_partitionCmpFunc_int__c : SF := ⟨178, (.seq (.reg slices_partitionCmpFunc_int__r0)
  (.seq (.regd slices_partitionCmpFunc_int__r1 slices_partitionCmpFunc_int__a1)
  (.seq (.reg slices_partitionCmpFunc_int__r2)
  (.seq (.block 0 (.loop (.seq (.seq (.regd slices_partitionCmpFunc_int__r3 slices_partitionCmpFunc_int__a3)
  (.cond (tZ 47) .skip (.exit 0)))
  (.block 1 (.reg slices_partitionCmpFunc_int__r4)))))
  (.seq (.block 2 (.loop (.seq (.seq (.regd slices_partitionCmpFunc_int__r5 slices_partitionCmpFunc_int__a5)
  (.cond (tZ 66) .skip (.exit 2)))
  (.block 3 (.reg slices_partitionCmpFunc_int__r6)))))
  (.seq (.seq (.reg slices_partitionCmpFunc_int__r7)
  (.cond (tZ 71) (.seq (.regd slices_partitionCmpFunc_int__r8 slices_partitionCmpFunc_int__a8)
  (.seq (.reg slices_partitionCmpFunc_int__r9)
  .ret)) .skip))
  (.seq (.regd slices_partitionCmpFunc_int__r10 slices_partitionCmpFunc_int__a10)
  (.seq (.reg slices_partitionCmpFunc_int__r11)
  (.seq (.reg slices_partitionCmpFunc_int__r12)
  (.seq (.block 4 (.loop (.block 5 (.seq (.block 6 (.loop (.seq (.seq (.regd slices_partitionCmpFunc_int__r13 slices_partitionCmpFunc_int__a13)
  (.cond (tZ 120) .skip (.exit 6)))
  (.block 7 (.reg slices_partitionCmpFunc_int__r14)))))
  (.seq (.block 8 (.loop (.seq (.seq (.regd slices_partitionCmpFunc_int__r15 slices_partitionCmpFunc_int__a15)
  (.cond (tZ 139) .skip (.exit 8)))
  (.block 9 (.reg slices_partitionCmpFunc_int__r16)))))
  (.seq (.seq (.reg slices_partitionCmpFunc_int__r17)
  (.cond (tZ 144) (.exit 4) .skip))
  (.seq (.regd slices_partitionCmpFunc_int__r18 slices_partitionCmpFunc_int__a18)
  (.seq (.reg slices_partitionCmpFunc_int__r19)
  (.reg slices_partitionCmpFunc_int__r20)))))))))
  (.seq (.regd slices_partitionCmpFunc_int__r21 slices_partitionCmpFunc_int__a21)
  (.seq (.reg slices_partitionCmpFunc_int__r22)
  .ret)))))))))))), [.tmp 10, .tmp 11]⟩
theorem slices_partitionCmpFunc_int__s : slimF Try.prog 118 = some slices_partitionCmpFunc_int__c := by kernel_rfl
/-- slices.siftDownCmpFunc[int] -/
def slices_siftDownCmpFunc_int__r0 : List SO := [mvZ 12 1, asZ 10 12]
def slices_siftDownCmpFunc_int__r1 : List SO := [mvZ 13 10, rZ 14 (.binOp .mul 3 (ciZ 2) (tZ 13) 3), bcZ 15 .add 3 14 1 3, asZ 11 15]
def slices_siftDownCmpFunc_int__r2 : List SO := [mvZ 16 11, mvZ 17 2, boZ 18 .geq 3 16 17 3]
def slices_siftDownCmpFunc_int__r3 : List SO := [mvZ 19 11, bcZ 20 .add 3 19 1 3, mvZ 21 2, boZ 22 .lss 3 20 21 3, mvZ 23 22, gZ 23 true (mvZ 24 4), gZ 23 true (mvZ 25 0), gZ 23 true (mvZ 26 3), gZ 23 true (mvZ 27 11), gZ 23 true (boZ 28 .add 3 26 27 3), gZ 23 true (iaZ 29 24 25 28), gZ 23 true (ldZ 30 3 29), gZ 23 true (mvZ 31 0), gZ 23 true (mvZ 32 3), gZ 23 true (mvZ 33 11), gZ 23 true (boZ 34 .add 3 32 33 3), gZ 23 true (bcZ 35 .add 3 34 1 3), gZ 23 true (iaZ 36 24 31 35), gZ 23 true (ldZ 37 3 36), gZ 23 true (rZ 38 (.call ⟨(.value (tZ 24)), #[(tZ 30), (tZ 37)], #[3, 3]⟩)), gZ 23 true (bcZ 39 .lss 3 38 0 3), rZ 40 (.pick (tZ 23) (tZ 39) (.const (.bool false)))]
def slices_siftDownCmpFunc_int__a3 : List (List Nat) := [[], [0], [], [1, 2], [3], [4], [4], [4], [4], [7, 8, 4], [6, 9, 4], [10, 4], [4], [4], [4], [13, 14, 4], [15, 4], [12, 16, 4], [17, 4], [5, 11, 18, 4, 4], [19, 4], [4, 20]]
def slices_siftDownCmpFunc_int__r4 : List SO := [mvZ 41 11, bcZ 42 .add 3 41 1 3, asZ 11 42]
def slices_siftDownCmpFunc_int__r5 : List SO := [mvZ 43 4, mvZ 44 0, mvZ 45 3, mvZ 46 10, boZ 47 .add 3 45 46 3, iaZ 48 24 44 47, ldZ 49 3 48, mvZ 50 0, mvZ 51 3, mvZ 52 11, boZ 53 .add 3 51 52 3, iaZ 54 24 50 53, ldZ 55 3 54, rZ 56 (.call ⟨(.value (tZ 43)), #[(tZ 49), (tZ 55)], #[3, 3]⟩), bcZ 57 .lss 3 56 0 3, rZ 58 (.unOp .not 4 (tZ 57))]
def slices_siftDownCmpFunc_int__a5 : List (List Nat) := [[], [], [], [], [2, 3], [1, 4], [5], [], [], [], [8, 9], [7, 10], [11], [0, 6, 12], [13], [14]]
def slices_siftDownCmpFunc_int__r6 : List SO := [mvZ 59 0, mvZ 60 3, mvZ 61 10, boZ 62 .add 3 60 61 3, mvZ 63 0, mvZ 64 3, mvZ 65 11, boZ 66 .add 3 64 65 3, mvZ 67 0, mvZ 68 3, mvZ 69 11, boZ 70 .add 3 68 69 3, iaZ 71 24 67 70, ldZ 72 3 71, mvZ 73 0, mvZ 74 3, mvZ 75 10, boZ 76 .add 3 74 75 3, iaZ 77 24 73 76, ldZ 78 3 77, iaZ 79 24 59 62, stZ 3 79 72, iaZ 80 24 63 66, stZ 3 80 78]
def slices_siftDownCmpFunc_int__a6 : List (List Nat) := [[], [], [], [1, 2], [], [], [], [5, 6], [], [], [], [9, 10], [8, 11], [12], [], [], [], [15, 16], [14, 17], [18], [0, 3, 0, 1, 2, 3, 8, 9, 10, 11, 12, 13, 19], [20, 13, 0, 1, 2, 3, 8, 9, 10, 11, 12, 13, 19], [4, 7, 0, 1, 2, 3, 4, 5, 6, 7, 8, 9, 10, 11, 12, 13, 14, 15, 16, 17, 18, 19, 20, 21], [22, 19, 21, 0, 1, 2, 3, 4, 5, 6, 7, 8, 9, 10, 11, 12, 13, 14, 15, 16, 17, 18, 19, 20, 21]]
def slices_siftDownCmpFunc_int__r7 : List SO := [mvZ 81 11, asZ 10 81]
def slices_siftDownCmpFunc_int__c : SF := ⟨82, (.seq (.reg slices_siftDownCmpFunc_int__r0)
  (.block 0 (.loop (.block 1 (.seq (.reg slices_siftDownCmpFunc_int__r1)
  (.seq (.seq (.reg slices_siftDownCmpFunc_int__r2)
  (.cond (tZ 18) (.exit 0) .skip))
  (.seq (.seq (.regd slices_siftDownCmpFunc_int__r3 slices_siftDownCmpFunc_int__a3)
  (.cond (tZ 40) (.reg slices_siftDownCmpFunc_int__r4) .skip))
  (.seq (.seq (.regd slices_siftDownCmpFunc_int__r5 slices_siftDownCmpFunc_int__a5)
  (.cond (tZ 58) .ret .skip))
  (.seq (.regd slices_siftDownCmpFunc_int__r6 slices_siftDownCmpFunc_int__a6)
  (.reg slices_siftDownCmpFunc_int__r7)))))))))), []⟩
theorem slices_siftDownCmpFunc_int__s : slimF Try.prog 121 = some slices_siftDownCmpFunc_int__c := by kernel_rfl
/-- slices.nextPowerOfTwo -/
def slices_nextPowerOfTwo_r0 : List SO := [rZ 2 (.assign (.const (.int .u64 0)))]
def slices_nextPowerOfTwo_r1 : List SO := [mvZ 3 0, rZ 4 (.convert 3 162 (tZ 3)), rZ 5 (.call ⟨(.value (.func (110 : Nat))), #[(tZ 4)], #[162]⟩), rZ 6 (.binOp .shl 162 (.const (.int .u64 1)) (tZ 5) 3), asZ 2 6]
def slices_nextPowerOfTwo_c : SF := ⟨7, (.seq (.reg slices_nextPowerOfTwo_r0)
  (.seq (.reg slices_nextPowerOfTwo_r1)
  .ret)), [.tmp 2]⟩
theorem slices_nextPowerOfTwo_s : slimF Try.prog 122 = some slices_nextPowerOfTwo_c := by kernel_rfl
/-- (*slices.xorshift).Next -/
def __slices_xorshift__Next_r0 : List SO := [rZ 2 (.assign (.const (.int .u64 0)))]
def __slices_xorshift__Next_r1 : List SO := [mvZ 3 0, rZ 4 (.nilCheck (tZ 3)), ldZ 5 191 4, mvZ 6 0, rZ 7 (.nilCheck (tZ 6)), ldZ 8 191 7, rZ 9 (.binOp .shl 191 (tZ 8) (.const (.int .u64 13)) 162), boZ 10 .xor 191 5 9 191, rZ 11 (.nilCheck (tZ 3)), stZ 191 11 10]
def __slices_xorshift__Next_a1 : List (List Nat) := [[], [0], [1], [], [3], [4], [5], [2, 6], [0, 0, 1, 2, 3, 4, 5, 6, 7], [8, 7, 0, 1, 2, 3, 4, 5, 6, 7]]
def __slices_xorshift__Next_r2 : List SO := [mvZ 12 0, rZ 13 (.nilCheck (tZ 12)), ldZ 14 191 13, mvZ 15 0, rZ 16 (.nilCheck (tZ 15)), ldZ 17 191 16, rZ 18 (.binOp .shr 191 (tZ 17) (.const (.int .u64 7)) 162), boZ 19 .xor 191 14 18 191, rZ 20 (.nilCheck (tZ 12)), stZ 191 20 19]
def __slices_xorshift__Next_a2 : List (List Nat) := [[], [0], [1], [], [3], [4], [5], [2, 6], [0, 0, 1, 2, 3, 4, 5, 6, 7], [8, 7, 0, 1, 2, 3, 4, 5, 6, 7]]
def __slices_xorshift__Next_r3 : List SO := [mvZ 21 0, rZ 22 (.nilCheck (tZ 21)), ldZ 23 191 22, mvZ 24 0, rZ 25 (.nilCheck (tZ 24)), ldZ 26 191 25, rZ 27 (.binOp .shl 191 (tZ 26) (.const (.int .u64 17)) 162), boZ 28 .xor 191 23 27 191, rZ 29 (.nilCheck (tZ 21)), stZ 191 29 28]
def __slices_xorshift__Next_a3 : List (List Nat) := [[], [0], [1], [], [3], [4], [5], [2, 6], [0, 0, 1, 2, 3, 4, 5, 6, 7], [8, 7, 0, 1, 2, 3, 4, 5, 6, 7]]
def __slices_xorshift__Next_r4 : List SO := [mvZ 30 0, rZ 31 (.nilCheck (tZ 30)), ldZ 32 191 31, asZ 2 32]
def __slices_xorshift__Next_c : SF := ⟨33, (.seq (.reg __slices_xorshift__Next_r0)
  (.seq (.regd __slices_xorshift__Next_r1 __slices_xorshift__Next_a1)
  (.seq (.regd __slices_xorshift__Next_r2 __slices_xorshift__Next_a2)
  (.seq (.regd __slices_xorshift__Next_r3 __slices_xorshift__Next_a3)
  (.seq (.reg __slices_xorshift__Next_r4)
  .ret))))), [.tmp 2]⟩
theorem __slices_xorshift__Next_s : slimF Try.prog 123 = some __slices_xorshift__Next_c := by kernel_rfl
/-- slices.medianAdjacentCmpFunc[int] -/
def slices_medianAdjacentCmpFunc_int__r0 : List SO := [rZ 8 (.assign (ciZ 0))]
def slices_medianAdjacentCmpFunc_int__r1 : List SO := [mvZ 9 0, mvZ 10 1, bcZ 11 .sub 3 10 1 3, mvZ 12 1, mvZ 13 1, bcZ 14 .add 3 13 1 3, mvZ 15 2, mvZ 16 3, rZ 17 (.call ⟨(.value (.func (125 : Nat))), #[(tZ 9), (tZ 11), (tZ 12), (tZ 14), (tZ 15), (tZ 16)], #[24, 3, 3, 3, 195, 32]⟩), asZ 8 17]
def slices_medianAdjacentCmpFunc_int__c : SF := ⟨18, (.seq (.reg slices_medianAdjacentCmpFunc_int__r0)
  (.seq (.reg slices_medianAdjacentCmpFunc_int__r1)
  .ret)), [.tmp 8]⟩
theorem slices_medianAdjacentCmpFunc_int__s : slimF Try.prog 124 = some slices_medianAdjacentCmpFunc_int__c := by kernel_rfl
/-- slices.medianCmpFunc[int] -/
def slices_medianCmpFunc_int__r0 : List SO := [rZ 12 (.assign (ciZ 0))]
def slices_medianCmpFunc_int__r1 : List SO := [mvZ 14 0, mvZ 15 1, mvZ 16 2, mvZ 17 4, mvZ 18 5, rZ 19 (.call ⟨(.value (.func (126 : Nat))), #[(tZ 14), (tZ 15), (tZ 16), (tZ 17), (tZ 18)], #[24, 3, 3, 195, 32]⟩), mvZ 13 19, exZ 20 13 0, exZ 21 13 1, asZ 1 20, asZ 2 21]
def slices_medianCmpFunc_int__r2 : List SO := [mvZ 23 0, mvZ 24 2, mvZ 25 3, mvZ 26 4, mvZ 27 5, rZ 28 (.call ⟨(.value (.func (126 : Nat))), #[(tZ 23), (tZ 24), (tZ 25), (tZ 26), (tZ 27)], #[24, 3, 3, 195, 32]⟩), mvZ 22 28, exZ 29 22 0, exZ 30 22 1, asZ 2 29, asZ 3 30]
def slices_medianCmpFunc_int__r3 : List SO := [mvZ 32 0, mvZ 33 1, mvZ 34 2, mvZ 35 4, mvZ 36 5, rZ 37 (.call ⟨(.value (.func (126 : Nat))), #[(tZ 32), (tZ 33), (tZ 34), (tZ 35), (tZ 36)], #[24, 3, 3, 195, 32]⟩), mvZ 31 37, exZ 38 31 0, exZ 39 31 1, asZ 1 38, asZ 2 39]
def slices_medianCmpFunc_int__r4 : List SO := [mvZ 40 2, asZ 12 40]
def slices_medianCmpFunc_int__c : SF := ⟨41, (.seq (.reg slices_medianCmpFunc_int__r0)
  (.seq (.reg slices_medianCmpFunc_int__r1)
  (.seq (.reg slices_medianCmpFunc_int__r2)
  (.seq (.reg slices_medianCmpFunc_int__r3)
  (.seq (.reg slices_medianCmpFunc_int__r4)
  .ret))))), [.tmp 12]⟩
theorem slices_medianCmpFunc_int__s : slimF Try.prog 125 = some slices_medianCmpFunc_int__c := by kernel_rfl
/-- slices.order2CmpFunc[int] -/
def slices_order2CmpFunc_int__r0 : List SO := [rZ 10 (.assign (ciZ 0)), rZ 11 (.assign (ciZ 0))]
def slices_order2CmpFunc_int__r1 : List SO := [mvZ 12 4, mvZ 13 0, mvZ 14 2, iaZ 15 24 13 14, ldZ 16 3 15, mvZ 17 0, mvZ 18 1, iaZ 19 24 17 18, ldZ 20 3 19, rZ 21 (.call ⟨(.value (tZ 12)), #[(tZ 16), (tZ 20)], #[3, 3]⟩), bcZ 22 .lss 3 21 0 3]
def slices_order2CmpFunc_int__a1 : List (List Nat) := [[], [], [], [1, 2], [3], [], [], [5, 6], [7], [0, 4, 8], [9]]
def slices_order2CmpFunc_int__r2 : List SO := [mvZ 23 3, rZ 24 (.nilCheck (tZ 23)), ldZ 25 3 24, bcZ 26 .add 3 25 1 3, rZ 27 (.nilCheck (tZ 23)), stZ 3 27 26]
def slices_order2CmpFunc_int__r3 : List SO := [mvZ 28 2, mvZ 29 1, asZ 10 28, asZ 11 29]
def slices_order2CmpFunc_int__r4 : List SO := [mvZ 30 1, mvZ 31 2, asZ 10 30, asZ 11 31]
def slices_order2CmpFunc_int__c : SF := ⟨32, (.seq (.reg slices_order2CmpFunc_int__r0)
  (.seq (.seq (.regd slices_order2CmpFunc_int__r1 slices_order2CmpFunc_int__a1)
  (.cond (tZ 22) (.seq (.reg slices_order2CmpFunc_int__r2)
  (.seq (.reg slices_order2CmpFunc_int__r3)
  .ret)) .skip))
  (.seq (.reg slices_order2CmpFunc_int__r4)
  .ret))), [.tmp 10, .tmp 11]⟩
theorem slices_order2CmpFunc_int__s : slimF Try.prog 126 = some slices_order2CmpFunc_int__c := by kernel_rfl
def tbl_slices : List (Nat × SF) := [(105, slices_SortFunc___int_int__c), (109, slices_pdqsortCmpFunc_int__c), (111, slices_insertionSortCmpFunc_int__c), (112, slices_heapSortCmpFunc_int__c), (113, slices_breakPatternsCmpFunc_int__c), (114, slices_choosePivotCmpFunc_int__c), (115, slices_reverseRangeCmpFunc_int__c), (116, slices_partialInsertionSortCmpFunc_int__c), (117, slices_partitionEqualCmpFunc_int__c), (118, slices_partitionCmpFunc_int__c), (121, slices_siftDownCmpFunc_int__c), (122, slices_nextPowerOfTwo_c), (123, __slices_xorshift__Next_c), (124, slices_medianAdjacentCmpFunc_int__c), (125, slices_medianCmpFunc_int__c), (126, slices_order2CmpFunc_int__c)]
theorem tbl_slices_ok : okT Try.prog tbl_slices := ⟨slices_SortFunc___int_int__s, slices_pdqsortCmpFunc_int__s, slices_insertionSortCmpFunc_int__s, slices_heapSortCmpFunc_int__s, slices_breakPatternsCmpFunc_int__s, slices_choosePivotCmpFunc_int__s, slices_reverseRangeCmpFunc_int__s, slices_partialInsertionSortCmpFunc_int__s, slices_partitionEqualCmpFunc_int__s, slices_partitionCmpFunc_int__s, slices_siftDownCmpFunc_int__s, slices_nextPowerOfTwo_s, __slices_xorshift__Next_s, slices_medianAdjacentCmpFunc_int__s, slices_medianCmpFunc_int__s, slices_order2CmpFunc_int__s, trivial⟩

end Go.Proofs.Ytagfanbodglplaa
namespace Go.Proofs.Ytagfanbodglplaa
open Go Go.Lite
set_option linter.unusedVariables false

/-- printworks/curve.Fit -/
def curve_Fit_r0 : List SO := [rZ 2 (.alloc 63), rZ 3 (.assign (ciZ 0))]
def curve_Fit_r1 : List SO := [mvZ 18 0, rZ 19 (.call ⟨(.builtin .len), #[(tZ 18)], #[41]⟩), bcZ 20 .gtr 3 19 31 3]
def curve_Fit_r2 : List SO := [rZ 21 (.build 63 #[]), stZ 63 2 21, rZ 3 (.assign (ciZ 2))]
def curve_Fit_r3 : List SO := [mvZ 22 0, rZ 23 (.call ⟨(.builtin .len), #[(tZ 22)], #[41]⟩), bcZ 24 .eql 3 23 0 3]
def curve_Fit_r4 : List SO := [rZ 25 (.build 63 #[]), stZ 63 2 25, rZ 3 (.assign (ciZ 1))]
def curve_Fit_r5 : List SO := [mvZ 26 0, rZ 27 (.call ⟨(.builtin .len), #[(tZ 26)], #[41]⟩), rZ 28 (.move (ciZ 0))]
def curve_Fit_r6 : List SO := [boZ 29 .lss 3 28 27 3]
def curve_Fit_r7 : List SO := [mvZ 30 28, iaZ 31 41 26 28, ldZ 32 61 31, rZ 5 (.alloc 61), asZ 4 30, stZ 61 5 32]
def curve_Fit_r8 : List SO := [faZ 33 61 5 0, ldZ 34 3 33, bcZ 35 .lss 3 34 0 3, mvZ 36 35, gZ 36 false (faZ 37 61 5 0), gZ 36 false (ldZ 38 3 37), gZ 36 false (bcZ 39 .gtr 3 38 65280 3), rZ 40 (.pick (tZ 36) (.const (.bool true)) (tZ 39)), mvZ 41 40, gZ 41 false (faZ 42 61 5 1), gZ 41 false (ldZ 43 3 42), gZ 41 false (bcZ 44 .lss 3 43 0 3), rZ 45 (.pick (tZ 41) (.const (.bool true)) (tZ 44)), mvZ 46 45, gZ 46 false (faZ 47 61 5 1), gZ 46 false (ldZ 48 3 47), gZ 46 false (bcZ 49 .gtr 3 48 65280 3), rZ 50 (.pick (tZ 46) (.const (.bool true)) (tZ 49))]
def curve_Fit_r9 : List SO := [rZ 51 (.build 63 #[]), stZ 63 2 51, rZ 3 (.assign (ciZ 3))]
def curve_Fit_r10 : List SO := [mvZ 52 4, bcZ 53 .gtr 3 52 0 3, mvZ 54 53, gZ 54 true (faZ 55 61 5 0), gZ 54 true (ldZ 56 3 55), gZ 54 true (mvZ 57 0), gZ 54 true (mvZ 58 4), gZ 54 true (bcZ 59 .sub 3 58 1 3), gZ 54 true (iaZ 60 41 57 59), gZ 54 true (faZ 61 61 60 0), gZ 54 true (ldZ 62 3 61), gZ 54 true (boZ 63 .leq 3 56 62 3), rZ 64 (.pick (tZ 54) (tZ 63) (.const (.bool false)))]
def curve_Fit_a10 : List (List Nat) := [[], [0], [1], [2], [3, 2], [2], [2], [6, 2], [5, 7, 2], [8, 2], [9, 2], [4, 10, 2], [2, 11]]
def curve_Fit_r11 : List SO := [rZ 65 (.build 63 #[]), stZ 63 2 65, rZ 3 (.assign (ciZ 18))]
def curve_Fit_r12 : List SO := [bcZ 66 .add 3 28 1 3, mvZ 28 66]
def curve_Fit_r13 : List SO := [rZ 6 (.assign (.const (.slice none 0 0)))]
def curve_Fit_r14 : List SO := [mvZ 67 0, rZ 68 (.call ⟨(.builtin .len), #[(tZ 67)], #[41]⟩), rZ 69 (.move (ciZ 0))]
def curve_Fit_r15 : List SO := [boZ 70 .lss 3 69 68 3]
def curve_Fit_r16 : List SO := [iaZ 71 41 67 69, ldZ 72 61 71, rZ 8 (.alloc 61), stZ 61 8 72]
def curve_Fit_r17 : List SO := [faZ 73 61 8 1, ldZ 74 3 73, rZ 75 (.build 104 #[(0, (tZ 74)), (1, (ciZ 1))]), rZ 9 (.alloc 104), stZ 104 9 75]
def curve_Fit_r18 : List SO := [mvZ 76 6, rZ 77 (.call ⟨(.builtin .len), #[(tZ 76)], #[102]⟩), bcZ 78 .gtr 3 77 0 3]
def curve_Fit_r19 : List SO := [mvZ 79 6, mvZ 80 6, rZ 81 (.call ⟨(.builtin .len), #[(tZ 80)], #[102]⟩), bcZ 82 .sub 3 81 1 3, iaZ 83 102 79 82, ldZ 84 104 83, rZ 10 (.alloc 104), stZ 104 10 84]
def curve_Fit_r20 : List SO := [faZ 85 104 10 0, ldZ 86 3 85, faZ 87 104 9 1, ldZ 88 3 87, boZ 89 .mul 3 86 88 3, faZ 90 104 9 0, ldZ 91 3 90, faZ 92 104 10 1, ldZ 93 3 92, boZ 94 .mul 3 91 93 3, boZ 95 .leq 3 89 94 3]
def curve_Fit_r21 : List SO := [faZ 96 104 10 0, ldZ 97 3 96, faZ 98 104 9 0, ldZ 99 3 98, boZ 100 .add 3 97 99 3, faZ 101 104 10 1, ldZ 102 3 101, faZ 103 104 9 1, ldZ 104 3 103, boZ 105 .add 3 102 104 3, rZ 106 (.build 104 #[(0, (tZ 100)), (1, (tZ 105))]), stZ 104 9 106]
def curve_Fit_r22 : List SO := [mvZ 107 6, mvZ 108 6, rZ 109 (.call ⟨(.builtin .len), #[(tZ 108)], #[102]⟩), bcZ 110 .sub 3 109 1 3, rZ 111 (.slice 102 (tZ 107) none (some (tZ 110)) none), asZ 6 111]
def curve_Fit_r23 : List SO := [mvZ 112 6, ldZ 113 104 9, rZ 114 (.buildSlice 102 1 #[(0, (tZ 113))]), rZ 115 (.call ⟨(.builtin .append), #[(tZ 112), (tZ 114)], #[102, 102]⟩), asZ 6 115]
def curve_Fit_r24 : List SO := [bcZ 116 .add 3 69 1 3, mvZ 69 116]
def curve_Fit_r25 : List SO := [rZ 11 (.assign (.const (.slice none 0 0)))]
def curve_Fit_r26 : List SO := [rZ 12 (.assign (ciZ 0))]
def curve_Fit_r27 : List SO := [mvZ 117 6, rZ 118 (.call ⟨(.builtin .len), #[(tZ 117)], #[102]⟩), rZ 119 (.move (ciZ 0))]
def curve_Fit_r28 : List SO := [boZ 120 .lss 3 119 118 3]
def curve_Fit_r29 : List SO := [iaZ 121 102 117 119, ldZ 122 104 121, rZ 14 (.alloc 104), stZ 104 14 122]
def curve_Fit_r30 : List SO := [faZ 123 104 14 0, ldZ 124 3 123, faZ 125 104 14 1, ldZ 126 3 125, rZ 127 (.call ⟨(.value (.func (46 : Nat))), #[(tZ 124), (tZ 126)], #[3, 3]⟩), asZ 15 127]
def curve_Fit_r31 : List SO := [faZ 128 104 14 1, ldZ 129 3 128, rZ 130 (.move (ciZ 0))]
def curve_Fit_r32 : List SO := [boZ 131 .lss 3 130 129 3]
def curve_Fit_r33 : List SO := [mvZ 132 11, mvZ 133 0, mvZ 134 12, iaZ 135 41 133 134, faZ 136 61 135 0, ldZ 137 3 136, mvZ 138 15, rZ 139 (.build 61 #[(0, (tZ 137)), (1, (tZ 138))]), rZ 140 (.buildSlice 41 1 #[(0, (tZ 139))]), rZ 141 (.call ⟨(.builtin .append), #[(tZ 132), (tZ 140)], #[41, 41]⟩), asZ 11 141]
def curve_Fit_r34 : List SO := [mvZ 142 12, bcZ 143 .add 3 142 1 3, asZ 12 143]
def curve_Fit_r35 : List SO := [bcZ 144 .add 3 130 1 3, mvZ 130 144]
def curve_Fit_r36 : List SO := [bcZ 145 .add 3 119 1 3, mvZ 119 145]
def curve_Fit_r37 : List SO := [mvZ 146 11, rZ 147 (.indexAddr 41 (tZ 146) (ciZ 0)), ldZ 148 61 147, rZ 16 (.alloc 61), stZ 61 16 148]
def curve_Fit_r38 : List SO := [faZ 149 61 16 0, ldZ 150 3 149, bcZ 151 .gtr 3 150 0 3]
def curve_Fit_r39 : List SO := [faZ 152 61 16 1, ldZ 153 3 152, rZ 154 (.build 61 #[(0, (ciZ 0)), (1, (tZ 153))]), rZ 155 (.buildSlice 41 1 #[(0, (tZ 154))]), mvZ 156 11, rZ 157 (.call ⟨(.builtin .append), #[(tZ 155), (tZ 156)], #[41, 41]⟩), asZ 11 157]
def curve_Fit_r40 : List SO := [mvZ 158 11, mvZ 159 11, rZ 160 (.call ⟨(.builtin .len), #[(tZ 159)], #[41]⟩), bcZ 161 .sub 3 160 1 3, iaZ 162 41 158 161, ldZ 163 61 162, rZ 17 (.alloc 61), stZ 61 17 163]
def curve_Fit_r41 : List SO := [faZ 164 61 17 0, ldZ 165 3 164, bcZ 166 .lss 3 165 65280 3]
def curve_Fit_r42 : List SO := [mvZ 167 11, faZ 168 61 17 1, ldZ 169 3 168, rZ 170 (.build 61 #[(0, (ciZ 65280)), (1, (tZ 169))]), rZ 171 (.buildSlice 41 1 #[(0, (tZ 170))]), rZ 172 (.call ⟨(.builtin .append), #[(tZ 167), (tZ 171)], #[41, 41]⟩), asZ 11 172]
def curve_Fit_r43 : List SO := [mvZ 173 11, rZ 174 (.build 63 #[(0, (tZ 173))]), stZ 63 2 174, rZ 3 (.assign (ciZ 0))]
def curve_Fit_c : SF := ⟨175, (.seq (.reg curve_Fit_r0)
  (.seq (.seq (.reg curve_Fit_r1)
  (.cond (tZ 20) (.seq (.reg curve_Fit_r2)
  .ret) .skip))
  (.seq (.seq (.reg curve_Fit_r3)
  (.cond (tZ 24) (.seq (.reg curve_Fit_r4)
  .ret) .skip))
  (.seq (.seq (.reg curve_Fit_r5)
  (.block 0 (.loop (.seq (.reg curve_Fit_r6)
  (.seq (.cond (tZ 29) .skip (.exit 0))
  (.seq (.block 1 (.seq (.reg curve_Fit_r7)
  (.seq (.seq (.reg curve_Fit_r8)
  (.cond (tZ 50) (.seq (.reg curve_Fit_r9)
  .ret) .skip))
  (.seq (.regd curve_Fit_r10 curve_Fit_a10)
  (.cond (tZ 64) (.seq (.reg curve_Fit_r11)
  .ret) .skip)))))
  (.reg curve_Fit_r12)))))))
  (.seq (.reg curve_Fit_r13)
  (.seq (.seq (.reg curve_Fit_r14)
  (.block 2 (.loop (.seq (.reg curve_Fit_r15)
  (.seq (.cond (tZ 70) .skip (.exit 2))
  (.seq (.block 3 (.seq (.reg curve_Fit_r16)
  (.seq (.reg curve_Fit_r17)
  (.seq (.block 4 (.loop (.seq (.seq (.reg curve_Fit_r18)
  (.cond (tZ 78) .skip (.exit 4)))
  (.block 5 (.seq (.reg curve_Fit_r19)
  (.seq (.seq (.reg curve_Fit_r20)
  (.cond (tZ 95) (.exit 4) .skip))
  (.seq (.reg curve_Fit_r21)
  (.reg curve_Fit_r22))))))))
  (.reg curve_Fit_r23)))))
  (.reg curve_Fit_r24)))))))
  (.seq (.reg curve_Fit_r25)
  (.seq (.reg curve_Fit_r26)
  (.seq (.seq (.reg curve_Fit_r27)
  (.block 6 (.loop (.seq (.reg curve_Fit_r28)
  (.seq (.cond (tZ 120) .skip (.exit 6))
  (.seq (.block 7 (.seq (.reg curve_Fit_r29)
  (.seq (.reg curve_Fit_r30)
  (.seq (.reg curve_Fit_r31)
  (.block 8 (.loop (.seq (.reg curve_Fit_r32)
  (.seq (.cond (tZ 131) .skip (.exit 8))
  (.seq (.block 9 (.seq (.reg curve_Fit_r33)
  (.reg curve_Fit_r34)))
  (.reg curve_Fit_r35))))))))))
  (.reg curve_Fit_r36)))))))
  (.seq (.seq (.reg curve_Fit_r37)
  (.seq (.reg curve_Fit_r38)
  (.cond (tZ 151) (.reg curve_Fit_r39) .skip)))
  (.seq (.seq (.reg curve_Fit_r40)
  (.seq (.reg curve_Fit_r41)
  (.cond (tZ 166) (.reg curve_Fit_r42) .skip)))
  (.seq (.reg curve_Fit_r43)
  .ret)))))))))))), [.cell 2 63, .tmp 3]⟩
theorem curve_Fit_s : slimF Try.prog 18 = some curve_Fit_c := by kernel_rfl
abbrev curve_Fit_f : Nat := 18
/-- printworks/curve.Calibrate -/
def curve_Calibrate_r0 : List SO := [rZ 2 (.box 63 (tZ 0)), rZ 3 (.box 63 (tZ 1)), rZ 4 (.alloc 63), rZ 5 (.assign (ciZ 0))]
def curve_Calibrate_r1 : List SO := [ldZ 11 63 2, rZ 12 (.call ⟨(.value (.func (47 : Nat))), #[(tZ 11)], #[63]⟩), asZ 6 12]
def curve_Calibrate_r2 : List SO := [mvZ 13 6, bcZ 14 .neq 33 13 0 33]
def curve_Calibrate_r3 : List SO := [rZ 15 (.build 63 #[]), mvZ 16 6, stZ 63 4 15, asZ 5 16]
def curve_Calibrate_r4 : List SO := [ldZ 17 63 3, rZ 18 (.call ⟨(.value (.func (47 : Nat))), #[(tZ 17)], #[63]⟩), asZ 7 18]
def curve_Calibrate_r5 : List SO := [mvZ 19 7, bcZ 20 .neq 33 19 0 33]
def curve_Calibrate_r6 : List SO := [rZ 21 (.build 63 #[]), mvZ 22 7, stZ 63 4 21, asZ 5 22]
def curve_Calibrate_r7 : List SO := [faZ 23 63 2 0, ldZ 24 41 23, faZ 25 63 2 0, ldZ 26 41 25, rZ 27 (.call ⟨(.builtin .len), #[(tZ 26)], #[41]⟩), bcZ 28 .sub 3 27 1 3, iaZ 29 41 24 28, faZ 30 61 29 1, ldZ 31 3 30, faZ 32 63 3 0, ldZ 33 41 32, faZ 34 63 3 0, ldZ 35 41 34, rZ 36 (.call ⟨(.builtin .len), #[(tZ 35)], #[41]⟩), bcZ 37 .sub 3 36 1 3, iaZ 38 41 33 37, faZ 39 61 38 1, ldZ 40 3 39, boZ 41 .lss 3 31 40 3]
def curve_Calibrate_a7 : List (List Nat) := [[], [0], [], [2], [3], [4], [1, 5], [6], [7], [], [9], [], [11], [12], [13], [10, 14], [15], [16], [8, 17]]
def curve_Calibrate_r8 : List SO := [rZ 42 (.build 63 #[]), stZ 63 4 42, rZ 5 (.assign (ciZ 8))]
def curve_Calibrate_r9 : List SO := [rZ 43 (.makeSlice 41 (ciZ 0) (ciZ 17)), asZ 8 43]
def curve_Calibrate_r10 : List SO := [rZ 44 (.move (ciZ 0))]
def curve_Calibrate_r11 : List SO := [bcZ 45 .lss 3 44 17 3]
def curve_Calibrate_r12 : List SO := [mvZ 46 44, asZ 9 46]
def curve_Calibrate_r13 : List SO := [mvZ 47 9, bcZ 48 .mul 3 47 4080 3, asZ 10 48]
def curve_Calibrate_r14 : List SO := [mvZ 49 8, mvZ 50 10, ldZ 51 63 2, ldZ 52 63 3, mvZ 53 10, rZ 54 (.call ⟨(.value (.func (49 : Nat))), #[(tZ 52), (tZ 53)], #[63, 3]⟩), rZ 55 (.call ⟨(.value (.func (48 : Nat))), #[(tZ 51), (tZ 54)], #[63, 3]⟩), rZ 56 (.build 61 #[(0, (tZ 50)), (1, (tZ 55))]), rZ 57 (.buildSlice 41 1 #[(0, (tZ 56))]), rZ 58 (.call ⟨(.builtin .append), #[(tZ 49), (tZ 57)], #[41, 41]⟩), asZ 8 58]
def curve_Calibrate_a14 : List (List Nat) := [[], [], [], [], [], [3, 4], [2, 5, 5], [1, 6], [7], [0, 8, 6], [9, 9, 0, 1, 2, 3, 4, 5, 6, 7, 8, 9]]
def curve_Calibrate_r15 : List SO := [bcZ 59 .add 3 44 1 3, mvZ 44 59]
def curve_Calibrate_r16 : List SO := [mvZ 60 8, rZ 61 (.build 63 #[(0, (tZ 60))]), stZ 63 4 61, rZ 5 (.assign (ciZ 0))]
def curve_Calibrate_c : SF := ⟨62, (.seq (.reg curve_Calibrate_r0)
  (.seq (.seq (.reg curve_Calibrate_r1)
  (.seq (.reg curve_Calibrate_r2)
  (.cond (tZ 14) (.seq (.reg curve_Calibrate_r3)
  .ret) .skip)))
  (.seq (.seq (.reg curve_Calibrate_r4)
  (.seq (.reg curve_Calibrate_r5)
  (.cond (tZ 20) (.seq (.reg curve_Calibrate_r6)
  .ret) .skip)))
  (.seq (.seq (.regd curve_Calibrate_r7 curve_Calibrate_a7)
  (.cond (tZ 41) (.seq (.reg curve_Calibrate_r8)
  .ret) .skip))
  (.seq (.reg curve_Calibrate_r9)
  (.seq (.seq (.reg curve_Calibrate_r10)
  (.block 0 (.loop (.seq (.reg curve_Calibrate_r11)
  (.seq (.cond (tZ 45) .skip (.exit 0))
  (.seq (.block 1 (.seq (.reg curve_Calibrate_r12)
  (.seq (.reg curve_Calibrate_r13)
  (.regd curve_Calibrate_r14 curve_Calibrate_a14))))
  (.reg curve_Calibrate_r15)))))))
  (.seq (.reg curve_Calibrate_r16)
  .ret))))))), [.cell 4 63, .tmp 5]⟩
theorem curve_Calibrate_s : slimF Try.prog 19 = some curve_Calibrate_c := by kernel_rfl
abbrev curve_Calibrate_f : Nat := 19
/-- printworks/curve.At -/
def curve_At_r0 : List SO := [rZ 2 (.box 63 (tZ 0)), rZ 4 (.assign (ciZ 0)), rZ 5 (.assign (ciZ 0))]
def curve_At_r1 : List SO := [ldZ 7 63 2, rZ 8 (.call ⟨(.value (.func (47 : Nat))), #[(tZ 7)], #[63]⟩), asZ 6 8]
def curve_At_r2 : List SO := [mvZ 9 6, bcZ 10 .neq 33 9 0 33]
def curve_At_r3 : List SO := [mvZ 11 6, rZ 4 (.assign (ciZ 0)), asZ 5 11]
def curve_At_r4 : List SO := [mvZ 12 1, bcZ 13 .lss 3 12 0 3, mvZ 14 13, gZ 14 false (mvZ 15 1), gZ 14 false (bcZ 16 .gtr 3 15 65280 3), rZ 17 (.pick (tZ 14) (.const (.bool true)) (tZ 16))]
def curve_At_r5 : List SO := [rZ 4 (.assign (ciZ 0)), rZ 5 (.assign (ciZ 3))]
def curve_At_r6 : List SO := [ldZ 18 63 2, mvZ 19 1, rZ 20 (.call ⟨(.value (.func (49 : Nat))), #[(tZ 18), (tZ 19)], #[63, 3]⟩), asZ 4 20, rZ 5 (.assign (ciZ 0))]
def curve_At_c : SF := ⟨21, (.seq (.reg curve_At_r0)
  (.seq (.seq (.reg curve_At_r1)
  (.seq (.reg curve_At_r2)
  (.cond (tZ 10) (.seq (.reg curve_At_r3)
  .ret) .skip)))
  (.seq (.seq (.reg curve_At_r4)
  (.cond (tZ 17) (.seq (.reg curve_At_r5)
  .ret) .skip))
  (.seq (.reg curve_At_r6)
  .ret)))), [.tmp 4, .tmp 5]⟩
theorem curve_At_s : slimF Try.prog 23 = some curve_At_c := by kernel_rfl
/-- printworks/curve.Nearest -/
def curve_Nearest_r0 : List SO := [rZ 4 (.assign (ciZ 0))]
def curve_Nearest_r1 : List SO := [mvZ 6 0, rZ 7 (.binOp .mul 3 (ciZ 2) (tZ 6) 3), mvZ 8 1, boZ 9 .add 3 7 8 3, mvZ 10 1, rZ 11 (.binOp .mul 3 (ciZ 2) (tZ 10) 3), asZ 0 9, asZ 1 11]
def curve_Nearest_r2 : List SO := [mvZ 12 0, mvZ 13 1, boZ 14 .quo 3 12 13 3, asZ 5 14]
def curve_Nearest_r3 : List SO := [mvZ 15 0, mvZ 16 1, boZ 17 .rem 3 15 16 3, bcZ 18 .lss 3 17 0 3]
def curve_Nearest_r4 : List SO := [mvZ 19 5, bcZ 20 .sub 3 19 1 3, asZ 5 20]
def curve_Nearest_r5 : List SO := [mvZ 21 5, asZ 4 21]
def curve_Nearest_c : SF := ⟨22, (.seq (.reg curve_Nearest_r0)
  (.seq (.reg curve_Nearest_r1)
  (.seq (.reg curve_Nearest_r2)
  (.seq (.seq (.reg curve_Nearest_r3)
  (.cond (tZ 18) (.reg curve_Nearest_r4) .skip))
  (.seq (.reg curve_Nearest_r5)
  .ret))))), [.tmp 4]⟩
theorem curve_Nearest_s : slimF Try.prog 46 = some curve_Nearest_c := by kernel_rfl
abbrev curve_Nearest_f : Nat := 46
/-- printworks/curve.Check -/
def curve_Check_r0 : List SO := [rZ 1 (.box 63 (tZ 0)), rZ 2 (.assign (ciZ 0))]
def curve_Check_r1 : List SO := [faZ 6 63 1 0, ldZ 7 41 6, rZ 8 (.call ⟨(.builtin .len), #[(tZ 7)], #[41]⟩), asZ 3 8]
def curve_Check_r2 : List SO := [mvZ 10 3, bcZ 11 .gtr 3 10 33 3, asZ 9 11]
def curve_Check_r3 : List SO := [rZ 2 (.assign (ciZ 2))]
def curve_Check_r4 : List SO := [mvZ 13 3, bcZ 14 .lss 3 13 2 3, asZ 12 14]
def curve_Check_r5 : List SO := [rZ 2 (.assign (ciZ 1))]
def curve_Check_r6 : List SO := [faZ 15 63 1 0, ldZ 16 41 15, rZ 17 (.call ⟨(.builtin .len), #[(tZ 16)], #[41]⟩), rZ 18 (.move (ciZ 0))]
def curve_Check_r7 : List SO := [boZ 19 .lss 3 18 17 3]
def curve_Check_r8 : List SO := [mvZ 20 18, iaZ 21 41 16 18, ldZ 22 61 21, rZ 5 (.alloc 61), asZ 4 20, stZ 61 5 22]
def curve_Check_r9 : List SO := [faZ 23 61 5 0, ldZ 24 3 23, bcZ 25 .lss 3 24 0 3, mvZ 26 25, gZ 26 false (faZ 27 61 5 0), gZ 26 false (ldZ 28 3 27), gZ 26 false (bcZ 29 .gtr 3 28 65280 3), rZ 30 (.pick (tZ 26) (.const (.bool true)) (tZ 29)), mvZ 31 30, gZ 31 false (faZ 32 61 5 1), gZ 31 false (ldZ 33 3 32), gZ 31 false (bcZ 34 .lss 3 33 0 3), rZ 35 (.pick (tZ 31) (.const (.bool true)) (tZ 34)), mvZ 36 35, gZ 36 false (faZ 37 61 5 1), gZ 36 false (ldZ 38 3 37), gZ 36 false (bcZ 39 .gtr 3 38 65280 3), rZ 40 (.pick (tZ 36) (.const (.bool true)) (tZ 39))]
def curve_Check_r10 : List SO := [rZ 2 (.assign (ciZ 3))]
def curve_Check_r11 : List SO := [mvZ 41 4, bcZ 42 .gtr 3 41 0 3, mvZ 43 42, gZ 43 true (faZ 44 61 5 0), gZ 43 true (ldZ 45 3 44), gZ 43 true (faZ 46 63 1 0), gZ 43 true (ldZ 47 41 46), gZ 43 true (mvZ 48 4), gZ 43 true (bcZ 49 .sub 3 48 1 3), gZ 43 true (iaZ 50 41 47 49), gZ 43 true (faZ 51 61 50 0), gZ 43 true (ldZ 52 3 51), gZ 43 true (boZ 53 .leq 3 45 52 3), gZ 43 true (mvZ 54 53), gZ 54 false (faZ 55 61 5 1), gZ 54 false (ldZ 56 3 55), gZ 54 false (faZ 57 63 1 0), gZ 54 false (ldZ 58 41 57), gZ 54 false (mvZ 59 4), gZ 54 false (bcZ 60 .sub 3 59 1 3), gZ 54 false (iaZ 61 41 58 60), gZ 54 false (faZ 62 61 61 1), gZ 54 false (ldZ 63 3 62), gZ 54 false (boZ 64 .lss 3 56 63 3), gZ 43 true (rZ 65 (.pick (tZ 54) (.const (.bool true)) (tZ 64))), rZ 66 (.pick (tZ 43) (tZ 65) (.const (.bool false)))]
def curve_Check_a11 : List (List Nat) := [[], [0], [1], [2], [3, 2], [2], [5, 2], [2], [7, 2], [6, 8, 2], [9, 2], [10, 2], [4, 11, 2], [12, 2, 2], [13], [14, 13], [13], [16, 13], [13], [18, 13], [17, 19, 13], [20, 13], [21, 13], [15, 22, 13], [13, 23, 2], [2, 24]]
def curve_Check_r12 : List SO := [rZ 2 (.assign (ciZ 18))]
def curve_Check_r13 : List SO := [bcZ 67 .add 3 18 1 3, mvZ 18 67]
def curve_Check_r14 : List SO := [faZ 68 63 1 0, ldZ 69 41 68, rZ 70 (.indexAddr 41 (tZ 69) (ciZ 0)), faZ 71 61 70 0, ldZ 72 3 71, bcZ 73 .neq 3 72 0 3, mvZ 74 73, gZ 74 false (faZ 75 63 1 0), gZ 74 false (ldZ 76 41 75), gZ 74 false (faZ 77 63 1 0), gZ 74 false (ldZ 78 41 77), gZ 74 false (rZ 79 (.call ⟨(.builtin .len), #[(tZ 78)], #[41]⟩)), gZ 74 false (bcZ 80 .sub 3 79 1 3), gZ 74 false (iaZ 81 41 76 80), gZ 74 false (faZ 82 61 81 0), gZ 74 false (ldZ 83 3 82), gZ 74 false (bcZ 84 .neq 3 83 65280 3), rZ 85 (.pick (tZ 74) (.const (.bool true)) (tZ 84))]
def curve_Check_r15 : List SO := [rZ 2 (.assign (ciZ 4))]
def curve_Check_r16 : List SO := [rZ 2 (.assign (ciZ 0))]
def curve_Check_c : SF := ⟨86, (.seq (.reg curve_Check_r0)
  (.seq (.seq (.reg curve_Check_r1)
  (.block 0 (.seq (.reg curve_Check_r2)
  (.cond (tZ 9) (.seq (.reg curve_Check_r3)
  .ret) (.seq (.reg curve_Check_r4)
  (.cond (tZ 12) (.seq (.reg curve_Check_r5)
  .ret) .skip))))))
  (.seq (.seq (.reg curve_Check_r6)
  (.block 1 (.loop (.seq (.reg curve_Check_r7)
  (.seq (.cond (tZ 19) .skip (.exit 1))
  (.seq (.block 2 (.seq (.reg curve_Check_r8)
  (.seq (.seq (.reg curve_Check_r9)
  (.cond (tZ 40) (.seq (.reg curve_Check_r10)
  .ret) .skip))
  (.seq (.regd curve_Check_r11 curve_Check_a11)
  (.cond (tZ 66) (.seq (.reg curve_Check_r12)
  .ret) .skip)))))
  (.reg curve_Check_r13)))))))
  (.seq (.seq (.reg curve_Check_r14)
  (.cond (tZ 85) (.seq (.reg curve_Check_r15)
  .ret) .skip))
  (.seq (.reg curve_Check_r16)
  .ret))))), [.tmp 2]⟩
theorem curve_Check_s : slimF Try.prog 47 = some curve_Check_c := by kernel_rfl
abbrev curve_Check_f : Nat := 47
/-- printworks/curve.Raw -/
def curve_Raw_r0 : List SO := [rZ 2 (.box 63 (tZ 0)), rZ 4 (.assign (ciZ 0))]
def curve_Raw_r1 : List SO := [faZ 10 63 2 0, ldZ 11 41 10, rZ 12 (.call ⟨(.builtin .len), #[(tZ 11)], #[41]⟩), bcZ 13 .sub 3 12 1 3, rZ 5 (.assign (ciZ 0)), asZ 6 13]
def curve_Raw_a1 : List (List Nat) := [[], [0], [1], [2], [], [3, 4, 0, 1, 2, 3, 4]]
def curve_Raw_r2 : List SO := [mvZ 14 6, mvZ 15 5, boZ 16 .sub 3 14 15 3, bcZ 17 .gtr 3 16 1 3]
def curve_Raw_r3 : List SO := [mvZ 18 5, mvZ 19 6, boZ 20 .add 3 18 19 3, bcZ 21 .quo 3 20 2 3, asZ 7 21]
def curve_Raw_r4 : List SO := [faZ 22 63 2 0, ldZ 23 41 22, mvZ 24 7, iaZ 25 41 23 24, faZ 26 61 25 0, ldZ 27 3 26, mvZ 28 1, boZ 29 .leq 3 27 28 3]
def curve_Raw_r5 : List SO := [mvZ 30 7, asZ 5 30]
def curve_Raw_r6 : List SO := [mvZ 31 7, asZ 6 31]
def curve_Raw_r7 : List SO := [faZ 32 63 2 0, ldZ 33 41 32, mvZ 34 5, iaZ 35 41 33 34, ldZ 36 61 35, faZ 37 63 2 0, ldZ 38 41 37, mvZ 39 6, iaZ 40 41 38 39, ldZ 41 61 40, rZ 8 (.alloc 61), rZ 9 (.alloc 61), stZ 61 8 36, stZ 61 9 41]
def curve_Raw_a7 : List (List Nat) := [[], [0], [], [1, 2], [3], [], [5], [], [6, 7], [8], [], [], [10, 4, 0, 1, 2, 3, 4, 10, 11], [11, 9, 12, 0, 1, 2, 3, 4, 5, 6, 7, 8, 9, 10, 11, 12]]
def curve_Raw_r8 : List SO := [faZ 42 61 8 1, ldZ 43 3 42, faZ 44 61 9 1, ldZ 45 3 44, faZ 46 61 8 1, ldZ 47 3 46, boZ 48 .sub 3 45 47 3, mvZ 49 1, faZ 50 61 8 0, ldZ 51 3 50, boZ 52 .sub 3 49 51 3, boZ 53 .mul 3 48 52 3, faZ 54 61 9 0, ldZ 55 3 54, faZ 56 61 8 0, ldZ 57 3 56, boZ 58 .sub 3 55 57 3, rZ 59 (.call ⟨(.value (.func (46 : Nat))), #[(tZ 53), (tZ 58)], #[3, 3]⟩), boZ 60 .add 3 43 59 3, asZ 4 60]
def curve_Raw_a8 : List (List Nat) := [[], [0], [], [2], [], [4], [3, 5], [], [], [8], [7, 9], [6, 10], [], [12], [], [14], [13, 15], [11, 16], [1, 17], [18, 17, 0, 1, 2, 3, 4, 5, 6, 7, 8, 9, 10, 11, 12, 13, 14, 15, 16, 17, 18]]
def curve_Raw_c : SF := ⟨61, (.seq (.reg curve_Raw_r0)
  (.seq (.regd curve_Raw_r1 curve_Raw_a1)
  (.seq (.block 0 (.loop (.seq (.seq (.reg curve_Raw_r2)
  (.cond (tZ 17) .skip (.exit 0)))
  (.block 1 (.seq (.reg curve_Raw_r3)
  (.seq (.reg curve_Raw_r4)
  (.cond (tZ 29) (.reg curve_Raw_r5) (.reg curve_Raw_r6))))))))
  (.seq (.regd curve_Raw_r7 curve_Raw_a7)
  (.seq (.regd curve_Raw_r8 curve_Raw_a8)
  .ret))))), [.tmp 4]⟩
theorem curve_Raw_s : slimF Try.prog 49 = some curve_Raw_c := by kernel_rfl
abbrev curve_Raw_f : Nat := 49
/-- printworks/curve.least -/
def curve_least_r0 : List SO := [rZ 2 (.box 63 (tZ 0)), rZ 4 (.assign (ciZ 0))]
def curve_least_r1 : List SO := [rZ 5 (.assign (.const (.int .i64 (-1)))), rZ 6 (.assign (ciZ 65280))]
def curve_least_r2 : List SO := [mvZ 8 6, mvZ 9 5, boZ 10 .sub 3 8 9 3, bcZ 11 .gtr 3 10 1 3]
def curve_least_r3 : List SO := [mvZ 12 5, mvZ 13 6, boZ 14 .add 3 12 13 3, bcZ 15 .quo 3 14 2 3, asZ 7 15]
def curve_least_r4 : List SO := [ldZ 16 63 2, mvZ 17 7, rZ 18 (.call ⟨(.value (.func (49 : Nat))), #[(tZ 16), (tZ 17)], #[63, 3]⟩), mvZ 19 1, boZ 20 .geq 3 18 19 3]
def curve_least_r5 : List SO := [mvZ 21 7, asZ 6 21]
def curve_least_r6 : List SO := [mvZ 22 7, asZ 5 22]
def curve_least_r7 : List SO := [mvZ 23 6, asZ 4 23]
def curve_least_c : SF := ⟨24, (.seq (.reg curve_least_r0)
  (.seq (.reg curve_least_r1)
  (.seq (.block 0 (.loop (.seq (.seq (.reg curve_least_r2)
  (.cond (tZ 11) .skip (.exit 0)))
  (.block 1 (.seq (.reg curve_least_r3)
  (.seq (.reg curve_least_r4)
  (.cond (tZ 20) (.reg curve_least_r5) (.reg curve_least_r6))))))))
  (.seq (.reg curve_least_r7)
  .ret)))), [.tmp 4]⟩
theorem curve_least_s : slimF Try.prog 48 = some curve_least_c := by kernel_rfl
abbrev curve_least_f : Nat := 48

def tbl_curve : List (Nat × SF) := [(18, curve_Fit_c), (19, curve_Calibrate_c), (23, curve_At_c), (46, curve_Nearest_c), (47, curve_Check_c), (49, curve_Raw_c), (48, curve_least_c)]
theorem tbl_curve_ok : okT Try.prog tbl_curve := ⟨curve_Fit_s, curve_Calibrate_s, curve_At_s, curve_Nearest_s, curve_Check_s, curve_Raw_s, curve_least_s, trivial⟩

end Go.Proofs.Ytagfanbodglplaa
namespace Go.Proofs.Ytagfanbodglplaa
open Go Go.Lite
set_option linter.unusedVariables false

/-- printworks/halftone.Apply -/
def halftone_Apply_r0 : List SO := [rZ 2 (.box 49 (tZ 0)), rZ 3 (.box 40 (tZ 1)), rZ 4 (.alloc 45), rZ 5 (.assign (ciZ 0))]
def halftone_Apply_r1 : List SO := [ldZ 11 40 3, rZ 12 (.call ⟨(.value (.func (39 : Nat))), #[(tZ 2), (tZ 11)], #[93, 40]⟩), asZ 6 12]
def halftone_Apply_r2 : List SO := [mvZ 13 6, bcZ 14 .neq 33 13 0 33]
def halftone_Apply_r3 : List SO := [rZ 15 (.build 45 #[]), mvZ 16 6, stZ 45 4 15, asZ 5 16]
def halftone_Apply_r4 : List SO := [faZ 17 49 2 0, ldZ 18 3 17, faZ 19 49 2 1, ldZ 20 3 19, rZ 21 (.call ⟨(.value (.func (40 : Nat))), #[(tZ 18), (tZ 20)], #[3, 3]⟩), rZ 7 (.alloc 45), stZ 45 7 21]
def halftone_Apply_r5 : List SO := [ldZ 22 40 3, rZ 23 (.call ⟨(.value (.func (41 : Nat))), #[(tZ 2), (tZ 22)], #[93, 40]⟩), faZ 24 49 2 0, ldZ 25 3 24, bcZ 26 .add 3 25 7 3, bcZ 27 .quo 3 26 8 3, asZ 8 23, asZ 9 27]
def halftone_Apply_a5 : List (List Nat) := [[], [0], [], [2], [3], [4], [1, 1, 0, 1], [5, 6, 0, 1, 2, 3, 4, 5, 6]]
def halftone_Apply_r6 : List SO := [faZ 28 49 2 1, ldZ 29 3 28, rZ 30 (.move (ciZ 0))]
def halftone_Apply_r7 : List SO := [boZ 31 .lss 3 30 29 3]
def halftone_Apply_r8 : List SO := [mvZ 32 30, asZ 10 32]
def halftone_Apply_r9 : List SO := [mvZ 33 8, mvZ 34 10, faZ 35 45 7 2, ldZ 36 43 35, mvZ 37 10, mvZ 38 9, boZ 39 .mul 3 37 38 3, mvZ 40 10, bcZ 41 .add 3 40 1 3, mvZ 42 9, boZ 43 .mul 3 41 42 3, rZ 44 (.slice 43 (tZ 36) (some (tZ 39)) (some (tZ 43)) none), rZ 45 (.call ⟨(.value (tZ 33)), #[(tZ 34), (tZ 44)], #[3, 43]⟩)]
def halftone_Apply_r10 : List SO := [bcZ 46 .add 3 30 1 3, mvZ 30 46]
def halftone_Apply_r11 : List SO := [ldZ 47 45 7, stZ 45 4 47, rZ 5 (.assign (ciZ 0))]
def halftone_Apply_c : SF := ⟨48, (.seq (.reg halftone_Apply_r0)
  (.seq (.seq (.reg halftone_Apply_r1)
  (.seq (.reg halftone_Apply_r2)
  (.cond (tZ 14) (.seq (.reg halftone_Apply_r3)
  .ret) .skip)))
  (.seq (.reg halftone_Apply_r4)
  (.seq (.regd halftone_Apply_r5 halftone_Apply_a5)
  (.seq (.seq (.reg halftone_Apply_r6)
  (.block 0 (.loop (.seq (.reg halftone_Apply_r7)
  (.seq (.cond (tZ 31) .skip (.exit 0))
  (.seq (.block 1 (.seq (.reg halftone_Apply_r8)
  (.reg halftone_Apply_r9)))
  (.reg halftone_Apply_r10)))))))
  (.seq (.reg halftone_Apply_r11)
  .ret)))))), [.cell 4 45, .tmp 5]⟩
theorem halftone_Apply_s : slimF Try.prog 13 = some halftone_Apply_c := by kernel_rfl
abbrev halftone_Apply_f : Nat := 13
/-- printworks/halftone.check -/
def halftone_check_r0 : List SO := [rZ 3 (.box 40 (tZ 1)), rZ 4 (.assign (ciZ 0))]
def halftone_check_r1 : List SO := [mvZ 6 0, rZ 7 (.nilCheck (tZ 6)), ldZ 8 49 7, rZ 9 (.call ⟨(.value (.func (82 : Nat))), #[(tZ 8)], #[49]⟩), asZ 5 9]
def halftone_check_r2 : List SO := [mvZ 10 5, bcZ 11 .neq 33 10 0 33]
def halftone_check_r3 : List SO := [mvZ 12 5, asZ 4 12]
def halftone_check_r4 : List SO := [ldZ 13 40 3, rZ 14 (.call ⟨(.value (.func (15 : Nat))), #[(tZ 13)], #[40]⟩), asZ 4 14]
def halftone_check_c : SF := ⟨15, (.seq (.reg halftone_check_r0)
  (.seq (.seq (.reg halftone_check_r1)
  (.seq (.reg halftone_check_r2)
  (.cond (tZ 11) (.seq (.reg halftone_check_r3)
  .ret) .skip)))
  (.seq (.reg halftone_check_r4)
  .ret))), [.tmp 4]⟩
theorem halftone_check_s : slimF Try.prog 39 = some halftone_check_c := by kernel_rfl
abbrev halftone_check_f : Nat := 39
/-- printworks/halftone.painter -/
def halftone_painter_r0 : List SO := [rZ 2 (.box 93 (tZ 0)), rZ 3 (.box 40 (tZ 1)), rZ 4 (.assign (.const .nilFunc))]
def halftone_painter_r1 : List SO := [ldZ 9 40 3, rZ 10 (.call ⟨(.value (.func (84 : Nat))), #[(tZ 9)], #[40]⟩), ldZ 11 40 3, rZ 12 (.call ⟨(.value (.func (85 : Nat))), #[(tZ 11)], #[40]⟩), rZ 5 (.alloc 155), rZ 6 (.alloc 24), stZ 155 5 10, stZ 24 6 12]
def halftone_painter_a1 : List (List Nat) := [[], [0], [], [2, 1], [], [], [4, 1, 3, 0, 1, 4, 5], [5, 3, 6, 0, 1, 2, 3, 4, 5, 6]]
def halftone_painter_r2 : List SO := [rZ 7 (.alloc 158)]
def halftone_painter_r3 : List SO := [rZ 13 (.move (ciZ 0))]
def halftone_painter_r4 : List SO := [bcZ 14 .lss 3 13 256 3]
def halftone_painter_r5 : List SO := [mvZ 15 13, asZ 8 15]
def halftone_painter_r6 : List SO := [mvZ 16 8, mvZ 17 8, ldZ 18 24 6, rZ 19 (.call ⟨(.builtin .len), #[(tZ 18)], #[24]⟩), boZ 20 .mul 3 17 19 3, rZ 21 (.call ⟨(.value (.func (46 : Nat))), #[(tZ 20), (ciZ 255)], #[3, 3]⟩), iaZ 22 158 7 16, stZ 3 22 21]
def halftone_painter_r7 : List SO := [bcZ 23 .add 3 13 1 3, mvZ 13 23]
def halftone_painter_r8 : List SO := [rZ 24 (.makeFunc (.func (86 : Nat)) #[] #[(tZ 2), (tZ 6), (tZ 5), (tZ 7)]), asZ 4 24]
def halftone_painter_c : SF := ⟨25, (.seq (.reg halftone_painter_r0)
  (.seq (.regd halftone_painter_r1 halftone_painter_a1)
  (.seq (.reg halftone_painter_r2)
  (.seq (.seq (.reg halftone_painter_r3)
  (.block 0 (.loop (.seq (.reg halftone_painter_r4)
  (.seq (.cond (tZ 14) .skip (.exit 0))
  (.seq (.block 1 (.seq (.reg halftone_painter_r5)
  (.reg halftone_painter_r6)))
  (.reg halftone_painter_r7)))))))
  (.seq (.reg halftone_painter_r8)
  .ret))))), [.tmp 4]⟩
theorem halftone_painter_s : slimF Try.prog 41 = some halftone_painter_c := by kernel_rfl
abbrev halftone_painter_f : Nat := 41
/-- printworks/halftone.painter$1 -/
def halftone_painter_1_r0 : List SO := [ldZ 10 93 2, rZ 11 (.nilCheck (tZ 10)), faZ 12 49 11 2, ldZ 13 43 12, mvZ 14 0, ldZ 15 93 2, rZ 16 (.nilCheck (tZ 15)), faZ 17 49 16 0, ldZ 18 3 17, boZ 19 .mul 3 14 18 3, mvZ 20 0, bcZ 21 .add 3 20 1 3, ldZ 22 93 2, rZ 23 (.nilCheck (tZ 22)), faZ 24 49 23 0, ldZ 25 3 24, boZ 26 .mul 3 21 25 3, rZ 27 (.slice 43 (tZ 13) (some (tZ 19)) (some (tZ 26)) none), rZ 28 (.call ⟨(.builtin .len), #[(tZ 27)], #[43]⟩), rZ 29 (.move (ciZ 0))]
def halftone_painter_1_a0 : List (List Nat) := [[], [0], [1], [2], [], [], [5], [6], [7], [4, 8], [], [10], [], [12], [13], [14], [11, 15], [3, 9, 16], [17], []]
def halftone_painter_1_r1 : List SO := [boZ 30 .lss 3 29 28 3]
def halftone_painter_1_r2 : List SO := [mvZ 31 29, iaZ 32 43 27 29, ldZ 33 5 32, asZ 8 31, asZ 9 33]
def halftone_painter_1_r3 : List SO := [ldZ 34 24 3, ldZ 35 155 4, mvZ 36 8, mvZ 37 0, rZ 38 (.call ⟨(.value (.func (87 : Nat))), #[(tZ 35), (tZ 36), (tZ 37)], #[155, 3, 3]⟩), iaZ 39 24 34 38, ldZ 40 3 39, mvZ 41 9, iaZ 42 158 5 41, ldZ 43 3 42, boZ 44 .lss 3 40 43 3]
def halftone_painter_1_a3 : List (List Nat) := [[], [], [], [], [1, 2, 3], [0, 4], [5], [], [7], [8], [6, 9]]
def halftone_painter_1_r4 : List SO := [mvZ 45 1, mvZ 46 8, bcZ 47 .quo 3 46 8 3, iaZ 48 43 45 47, ldZ 49 5 48, mvZ 50 8, bcZ 51 .rem 3 50 8 3, rZ 52 (.binOp .shr 5 (.const (.int .u8 128)) (tZ 51) 3), boZ 53 .or 5 49 52 5, iaZ 54 43 45 47, stZ 5 54 53]
def halftone_painter_1_a4 : List (List Nat) := [[], [], [1], [0, 2], [3], [], [5], [6], [4, 7], [0, 2, 0, 1, 2, 3, 4, 5, 6, 7, 8], [9, 8, 0, 1, 2, 3, 4, 5, 6, 7, 8]]
def halftone_painter_1_r5 : List SO := [bcZ 55 .add 3 29 1 3, mvZ 29 55]
def halftone_painter_1_c : SF := ⟨56, (.seq (.regd halftone_painter_1_r0 halftone_painter_1_a0)
  (.block 0 (.loop (.seq (.reg halftone_painter_1_r1)
  (.seq (.cond (tZ 30) .skip (.exit 0))
  (.seq (.block 1 (.seq (.reg halftone_painter_1_r2)
  (.seq (.regd halftone_painter_1_r3 halftone_painter_1_a3)
  (.cond (tZ 44) (.regd halftone_painter_1_r4 halftone_painter_1_a4) .skip))))
  (.reg halftone_painter_1_r5))))))), []⟩
theorem halftone_painter_1_s : slimF Try.prog 86 = some halftone_painter_1_c := by kernel_rfl
abbrev halftone_painter_1_f : Nat := 86

def tbl_halftone : List (Nat × SF) := [(13, halftone_Apply_c), (39, halftone_check_c), (41, halftone_painter_c), (86, halftone_painter_1_c)]
theorem tbl_halftone_ok : okT Try.prog tbl_halftone := ⟨halftone_Apply_s, halftone_check_s, halftone_painter_s, halftone_painter_1_s, trivial⟩

end Go.Proofs.Ytagfanbodglplaa
namespace Go.Proofs.Ytagfanbodglplaa
open Go Go.Lite
set_option linter.unusedVariables false

/-- printworks/devicelink.CheckPlate -/
def devicelink_CheckPlate_r0 : List SO := [rZ 1 (.box 49 (tZ 0)), rZ 2 (.assign (ciZ 0))]
def devicelink_CheckPlate_r1 : List SO := [faZ 3 49 1 0, ldZ 4 3 3, bcZ 5 .lss 3 4 1 3, mvZ 6 5, gZ 6 false (faZ 7 49 1 0), gZ 6 false (ldZ 8 3 7), gZ 6 false (bcZ 9 .gtr 3 8 1024 3), rZ 10 (.pick (tZ 6) (.const (.bool true)) (tZ 9)), mvZ 11 10, gZ 11 false (faZ 12 49 1 1), gZ 11 false (ldZ 13 3 12), gZ 11 false (bcZ 14 .lss 3 13 1 3), rZ 15 (.pick (tZ 11) (.const (.bool true)) (tZ 14)), mvZ 16 15, gZ 16 false (faZ 17 49 1 1), gZ 16 false (ldZ 18 3 17), gZ 16 false (bcZ 19 .gtr 3 18 1024 3), rZ 20 (.pick (tZ 16) (.const (.bool true)) (tZ 19))]
def devicelink_CheckPlate_r2 : List SO := [rZ 2 (.assign (ciZ 3))]
def devicelink_CheckPlate_r3 : List SO := [faZ 21 49 1 2, ldZ 22 43 21, rZ 23 (.call ⟨(.builtin .len), #[(tZ 22)], #[43]⟩), faZ 24 49 1 0, ldZ 25 3 24, faZ 26 49 1 1, ldZ 27 3 26, boZ 28 .mul 3 25 27 3, boZ 29 .neq 3 23 28 3]
def devicelink_CheckPlate_r4 : List SO := [rZ 2 (.assign (ciZ 4))]
def devicelink_CheckPlate_r5 : List SO := [rZ 2 (.assign (ciZ 0))]
def devicelink_CheckPlate_c : SF := ⟨30, (.seq (.reg devicelink_CheckPlate_r0)
  (.seq (.seq (.reg devicelink_CheckPlate_r1)
  (.cond (tZ 20) (.seq (.reg devicelink_CheckPlate_r2)
  .ret) .skip))
  (.seq (.seq (.reg devicelink_CheckPlate_r3)
  (.cond (tZ 29) (.seq (.reg devicelink_CheckPlate_r4)
  .ret) .skip))
  (.seq (.reg devicelink_CheckPlate_r5)
  .ret)))), [.tmp 2]⟩
theorem devicelink_CheckPlate_s : slimF Try.prog 82 = some devicelink_CheckPlate_c := by kernel_rfl
abbrev devicelink_CheckPlate_f : Nat := 82

end Go.Proofs.Ytagfanbodglplaa
namespace Go.Proofs.Ytagfanbodglplaa
open Go Go.Lite
set_option linter.unusedVariables false

/-- printworks/printworkskeep2.gamutWorks -/
def K2_gamutWorks_r0 : List SO := [rZ 0 (.assign (.const (.bool false)))]
def K2_gamutWorks_r1 : List SO := [rZ 9 (.call ⟨(.value (.func (32 : Nat))), #[], #[]⟩), rZ 10 (.build 30 #[(0, (ciZ 1500)), (1, (ciZ 500)), (2, (ciZ 500))]), rZ 11 (.call ⟨(.value (.func (10 : Nat))), #[(tZ 9), (tZ 10)], #[28, 30]⟩), mvZ 8 11, exZ 12 8 0, exZ 13 8 1, asZ 1 12, asZ 2 13]
def K2_gamutWorks_r2 : List SO := [rZ 15 (.call ⟨(.value (.func (32 : Nat))), #[], #[]⟩), rZ 16 (.build 30 #[(0, (ciZ 2001)), (1, (ciZ 500)), (2, (ciZ 500))]), rZ 17 (.call ⟨(.value (.func (10 : Nat))), #[(tZ 15), (tZ 16)], #[28, 30]⟩), mvZ 14 17, exZ 18 14 0, exZ 19 14 1, asZ 3 18, asZ 4 19]
def K2_gamutWorks_r3 : List SO := [rZ 21 (.call ⟨(.value (.func (32 : Nat))), #[], #[]⟩), rZ 22 (.build 30 #[(0, (ciZ 3000)), (1, (ciZ 500)), (2, (ciZ 500))]), rZ 23 (.build 30 #[(0, (ciZ 1500)), (1, (ciZ 500)), (2, (ciZ 500))]), rZ 24 (.call ⟨(.value (.func (9 : Nat))), #[(tZ 21), (tZ 22), (tZ 23)], #[28, 30, 30]⟩), mvZ 20 24, exZ 25 20 0, exZ 26 20 1, exZ 27 20 2, rZ 5 (.alloc 30), stZ 30 5 25, asZ 6 26, asZ 7 27]
def K2_gamutWorks_r4 : List SO := [mvZ 28 2, bcZ 29 .eql 33 28 0 33, mvZ 30 29, gZ 30 true (mvZ 31 1), rZ 32 (.pick (tZ 30) (tZ 31) (.const (.bool false))), mvZ 33 32, gZ 33 true (mvZ 34 4), gZ 33 true (bcZ 35 .eql 33 34 0 33), rZ 36 (.pick (tZ 33) (tZ 35) (.const (.bool false))), mvZ 37 36, gZ 37 true (mvZ 38 3), gZ 37 true (rZ 39 (.unOp .not 4 (tZ 38))), rZ 40 (.pick (tZ 37) (tZ 39) (.const (.bool false))), mvZ 41 40, gZ 41 true (mvZ 42 7), gZ 41 true (bcZ 43 .eql 33 42 0 33), rZ 44 (.pick (tZ 41) (tZ 43) (.const (.bool false))), mvZ 45 44, gZ 45 true (mvZ 46 6), gZ 45 true (bcZ 47 .eql 3 46 85 3), rZ 48 (.pick (tZ 45) (tZ 47) (.const (.bool false))), mvZ 49 48, gZ 49 true (ldZ 50 30 5), gZ 49 true (rZ 51 (.build 30 #[(0, (ciZ 1998)), (1, (ciZ 500)), (2, (ciZ 500))])), gZ 49 true (boZ 52 .eql 30 50 51 30), rZ 53 (.pick (tZ 49) (tZ 52) (.const (.bool false))), asZ 0 53]
def K2_gamutWorks_c : SF := ⟨54, (.seq (.reg K2_gamutWorks_r0)
  (.seq (.reg K2_gamutWorks_r1)
  (.seq (.reg K2_gamutWorks_r2)
  (.seq (.reg K2_gamutWorks_r3)
  (.seq (.reg K2_gamutWorks_r4)
  .ret))))), [.tmp 0]⟩
theorem K2_gamutWorks_s : slimF Try.prog 7 = some K2_gamutWorks_c := by kernel_rfl
/-- printworks/printworkskeep2.profileWorks -/
def K2_profileWorks_r0 : List SO := [rZ 0 (.assign (.const (.bool false)))]
def K2_profileWorks_r1 : List SO := [rZ 8 (.call ⟨(.value (.func (50 : Nat))), #[], #[]⟩), rZ 9 (.buildSlice 24 1 #[(0, (ciZ 128))]), rZ 10 (.call ⟨(.value (.func (26 : Nat))), #[(tZ 8), (tZ 9)], #[28, 24]⟩), mvZ 7 10, exZ 11 7 0, exZ 12 7 1, rZ 1 (.alloc 30), stZ 30 1 11, asZ 2 12]
def K2_profileWorks_r2 : List SO := [rZ 14 (.call ⟨(.value (.func (50 : Nat))), #[], #[]⟩), rZ 15 (.call ⟨(.value (.func (28 : Nat))), #[(tZ 14)], #[28]⟩), mvZ 13 15, exZ 16 13 0, exZ 17 13 1, asZ 3 16, asZ 4 17]
def K2_profileWorks_r3 : List SO := [mvZ 19 3, rZ 20 (.call ⟨(.value (.func (51 : Nat))), #[(tZ 19)], #[43]⟩), mvZ 18 20, exZ 21 18 0, exZ 22 18 1, asZ 5 21, asZ 6 22]
def K2_profileWorks_r4 : List SO := [mvZ 23 2, bcZ 24 .eql 33 23 0 33, mvZ 25 24, gZ 25 true (ldZ 26 30 1), gZ 25 true (rZ 27 (.build 30 #[(0, (ciZ 5984)), (1, (ciZ 50)), (2, (.const (.int .i64 (-50))))])), gZ 25 true (boZ 28 .eql 30 26 27 30), rZ 29 (.pick (tZ 25) (tZ 28) (.const (.bool false))), mvZ 30 29, gZ 30 true (mvZ 31 4), gZ 30 true (bcZ 32 .eql 33 31 0 33), rZ 33 (.pick (tZ 30) (tZ 32) (.const (.bool false))), mvZ 34 33, gZ 34 true (mvZ 35 3), gZ 34 true (rZ 36 (.call ⟨(.builtin .len), #[(tZ 35)], #[43]⟩)), gZ 34 true (bcZ 37 .eql 3 36 104 3), rZ 38 (.pick (tZ 34) (tZ 37) (.const (.bool false))), mvZ 39 38, gZ 39 true (mvZ 40 6), gZ 39 true (bcZ 41 .eql 33 40 0 33), rZ 42 (.pick (tZ 39) (tZ 41) (.const (.bool false))), mvZ 43 42, gZ 43 true (mvZ 44 5), gZ 43 true (rZ 45 (.buildSlice 22 4 #[(0, (.const (.string ⟨([110, 97, 109, 101] : List UInt8).toArray⟩))), (1, (.const (.string ⟨([105, 110, 107, 115] : List UInt8).toArray⟩))), (2, (.const (.string ⟨([99, 117, 114, 118] : List UInt8).toArray⟩))), (3, (.const (.string ⟨([103, 114, 105, 100] : List UInt8).toArray⟩)))])), gZ 43 true (rZ 46 (.call ⟨(.value (.func (52 : Nat))), #[(tZ 44), (tZ 45)], #[22, 22]⟩)), rZ 47 (.pick (tZ 43) (tZ 46) (.const (.bool false))), mvZ 48 47, gZ 48 true (rZ 49 (.buildSlice 43 9 #[(0, (.const (.int .u8 49))), (1, (.const (.int .u8 50))), (2, (.const (.int .u8 51))), (3, (.const (.int .u8 52))), (4, (.const (.int .u8 53))), (5, (.const (.int .u8 54))), (6, (.const (.int .u8 55))), (7, (.const (.int .u8 56))), (8, (.const (.int .u8 57)))])), gZ 48 true (rZ 50 (.convert 43 43 (tZ 49))), gZ 48 true (rZ 51 (.call ⟨(.value (.func (53 : Nat))), #[(tZ 50)], #[43]⟩)), gZ 48 true (bcZ 52 .eql 3 51 3421780262 3), rZ 53 (.pick (tZ 48) (tZ 52) (.const (.bool false))), asZ 0 53]
def K2_profileWorks_c : SF := ⟨54, (.seq (.reg K2_profileWorks_r0)
  (.seq (.reg K2_profileWorks_r1)
  (.seq (.reg K2_profileWorks_r2)
  (.seq (.reg K2_profileWorks_r3)
  (.seq (.reg K2_profileWorks_r4)
  .ret))))), [.tmp 0]⟩
theorem K2_profileWorks_s : slimF Try.prog 21 = some K2_profileWorks_c := by kernel_rfl
/-- printworks/printworkskeep2.cube -/
def K2_cube_r0 : List SO := [rZ 0 (.alloc 28)]
def K2_cube_r1 : List SO := [rZ 3 (.buildSlice 22 3 #[(0, (.const (.string ⟨([97] : List UInt8).toArray⟩))), (1, (.const (.string ⟨([98] : List UInt8).toArray⟩))), (2, (.const (.string ⟨([99] : List UInt8).toArray⟩)))]), rZ 4 (.call ⟨(.value (.func (72 : Nat))), #[], #[]⟩), rZ 5 (.call ⟨(.value (.func (72 : Nat))), #[], #[]⟩), rZ 6 (.call ⟨(.value (.func (72 : Nat))), #[], #[]⟩), rZ 7 (.buildSlice 23 3 #[(0, (tZ 4)), (1, (tZ 5)), (2, (tZ 6))]), rZ 8 (.build 26 #[(0, (ciZ 3)), (1, (ciZ 3)), (2, (ciZ 2))]), rZ 9 (.build 28 #[(0, (.const (.string ⟨([99, 117, 98, 101] : List UInt8).toArray⟩))), (1, (tZ 3)), (2, (tZ 7)), (3, (tZ 8))]), rZ 1 (.alloc 28), stZ 28 1 9]
def K2_cube_r2 : List SO := [rZ 10 (.move (ciZ 0))]
def K2_cube_r3 : List SO := [bcZ 11 .lss 3 10 8 3]
def K2_cube_r4 : List SO := [mvZ 12 10, asZ 2 12]
def K2_cube_r5 : List SO := [faZ 13 28 1 3, faZ 14 26 13 3, ldZ 15 24 14, mvZ 16 2, bcZ 17 .quo 3 16 4 3, rZ 18 (.binOp .mul 3 (ciZ 1000) (tZ 17) 3), rZ 19 (.binOp .add 3 (ciZ 1000) (tZ 18) 3), mvZ 20 2, bcZ 21 .quo 3 20 2 3, bcZ 22 .rem 3 21 2 3, rZ 23 (.binOp .mul 3 (ciZ 1000) (tZ 22) 3), mvZ 24 2, bcZ 25 .rem 3 24 2 3, rZ 26 (.binOp .mul 3 (ciZ 1000) (tZ 25) 3), rZ 27 (.buildSlice 24 3 #[(0, (tZ 19)), (1, (tZ 23)), (2, (tZ 26))]), rZ 28 (.call ⟨(.builtin .append), #[(tZ 15), (tZ 27)], #[24, 24]⟩), faZ 29 28 1 3, faZ 30 26 29 3, stZ 24 30 28]
def K2_cube_r6 : List SO := [bcZ 31 .add 3 10 1 3, mvZ 10 31]
def K2_cube_r7 : List SO := [ldZ 32 28 1, stZ 28 0 32]
def K2_cube_c : SF := ⟨33, (.seq (.reg K2_cube_r0)
  (.seq (.reg K2_cube_r1)
  (.seq (.seq (.reg K2_cube_r2)
  (.block 0 (.loop (.seq (.reg K2_cube_r3)
  (.seq (.cond (tZ 11) .skip (.exit 0))
  (.seq (.block 1 (.seq (.reg K2_cube_r4)
  (.reg K2_cube_r5)))
  (.reg K2_cube_r6)))))))
  (.seq (.reg K2_cube_r7)
  .ret)))), [.cell 0 28]⟩
theorem K2_cube_s : slimF Try.prog 32 = some K2_cube_c := by kernel_rfl
/-- printworks/printworkskeep2.one -/
def K2_one_r0 : List SO := [rZ 0 (.alloc 28)]
def K2_one_r1 : List SO := [rZ 1 (.buildSlice 22 1 #[(0, (.const (.string ⟨([98, 108, 97, 99, 107] : List UInt8).toArray⟩)))]), rZ 2 (.call ⟨(.value (.func (72 : Nat))), #[], #[]⟩), rZ 3 (.buildSlice 23 1 #[(0, (tZ 2))]), rZ 4 (.buildSlice 24 6 #[(0, (ciZ 10000)), (1, (ciZ 0)), (2, (ciZ 0)), (3, (ciZ 2000)), (4, (ciZ 100)), (5, (.const (.int .i64 (-100))))]), rZ 5 (.build 26 #[(0, (ciZ 1)), (1, (ciZ 3)), (2, (ciZ 2)), (3, (tZ 4))]), rZ 6 (.build 28 #[(0, (.const (.string ⟨([112, 49] : List UInt8).toArray⟩))), (1, (tZ 1)), (2, (tZ 3)), (3, (tZ 5))]), stZ 28 0 6]
def K2_one_c : SF := ⟨7, (.seq (.reg K2_one_r0)
  (.seq (.reg K2_one_r1)
  .ret)), [.cell 0 28]⟩
theorem K2_one_s : slimF Try.prog 50 = some K2_one_c := by kernel_rfl
/-- printworks/printworkskeep2.line -/
def K2_line_r0 : List SO := [rZ 0 (.alloc 63)]
def K2_line_r1 : List SO := [rZ 1 (.build 61 #[]), rZ 2 (.build 61 #[(0, (ciZ 65280)), (1, (ciZ 65280))]), rZ 3 (.buildSlice 41 2 #[(0, (tZ 1)), (1, (tZ 2))]), rZ 4 (.build 63 #[(0, (tZ 3))]), stZ 63 0 4]
def K2_line_c : SF := ⟨5, (.seq (.reg K2_line_r0)
  (.seq (.reg K2_line_r1)
  .ret)), [.cell 0 63]⟩
theorem K2_line_s : slimF Try.prog 72 = some K2_line_c := by kernel_rfl
def tbl_K2 : List (Nat × SF) := [(7, K2_gamutWorks_c), (21, K2_profileWorks_c), (32, K2_cube_c), (50, K2_one_c), (72, K2_line_c)]
theorem tbl_K2_ok : okT Try.prog tbl_K2 := ⟨K2_gamutWorks_s, K2_profileWorks_s, K2_cube_s, K2_one_s, K2_line_s, trivial⟩

end Go.Proofs.Ytagfanbodglplaa
namespace Go.Proofs.Ytagfanbodglplaa
open Go Go.Lite
set_option linter.unusedVariables false

/-- math/bits.OnesCount8 -/
def math_bits_OnesCount8_r0 : List SO := [rZ 2 (.assign (ciZ 0))]
def math_bits_OnesCount8_r1 : List SO := [mvZ 3 0, rZ 4 (.index 9 (.const (.string ⟨([0, 1, 1, 2, 1, 2, 2, 3, 1, 2, 2, 3, 2, 3, 3, 4, 1, 2, 2, 3, 2, 3, 3, 4, 2, 3, 3, 4, 3, 4, 4, 5, 1, 2, 2, 3, 2, 3, 3, 4, 2, 3, 3, 4, 3, 4, 4, 5, 2, 3, 3, 4, 3, 4, 4, 5, 3, 4, 4, 5, 4, 5, 5, 6, 1, 2, 2, 3, 2, 3, 3, 4, 2, 3, 3, 4, 3, 4, 4, 5, 2, 3, 3, 4, 3, 4, 4, 5, 3, 4, 4, 5, 4, 5, 5, 6, 2, 3, 3, 4, 3, 4, 4, 5, 3, 4, 4, 5, 4, 5, 5, 6, 3, 4, 4, 5, 4, 5, 5, 6, 4, 5, 5, 6, 5, 6, 6, 7, 1, 2, 2, 3, 2, 3, 3, 4, 2, 3, 3, 4, 3, 4, 4, 5, 2, 3, 3, 4, 3, 4, 4, 5, 3, 4, 4, 5, 4, 5, 5, 6, 2, 3, 3, 4, 3, 4, 4, 5, 3, 4, 4, 5, 4, 5, 5, 6, 3, 4, 4, 5, 4, 5, 5, 6, 4, 5, 5, 6, 5, 6, 6, 7, 2, 3, 3, 4, 3, 4, 4, 5, 3, 4, 4, 5, 4, 5, 5, 6, 3, 4, 4, 5, 4, 5, 5, 6, 4, 5, 5, 6, 5, 6, 6, 7, 3, 4, 4, 5, 4, 5, 5, 6, 4, 5, 5, 6, 5, 6, 6, 7, 4, 5, 5, 6, 5, 6, 6, 7, 5, 6, 6, 7, 6, 7, 7, 8] : List UInt8).toArray⟩)) (tZ 3)), rZ 5 (.convert 5 3 (tZ 4)), asZ 2 5]
def math_bits_OnesCount8_c : SF := ⟨6, (.seq (.reg math_bits_OnesCount8_r0)
  (.seq (.reg math_bits_OnesCount8_r1)
  .ret)), [.tmp 2]⟩
theorem math_bits_OnesCount8_s : slimF Try.prog 81 = some math_bits_OnesCount8_c := by kernel_rfl
abbrev math_bits_OnesCount8_f : Nat := 81
/-- math/bits.Len -/
def math_bits_Len_r0 : List SO := [rZ 2 (.assign (ciZ 0))]
def math_bits_Len_r1 : List SO := [mvZ 3 0, rZ 4 (.convert 162 161 (tZ 3)), rZ 5 (.call ⟨(.value (.func (119 : Nat))), #[(tZ 4)], #[161]⟩), asZ 2 5]
def math_bits_Len_r2 : List SO := [mvZ 6 0, rZ 7 (.call ⟨(.value (.func (120 : Nat))), #[(tZ 6)], #[190]⟩), asZ 2 7]
def math_bits_Len_c : SF := ⟨8, (.seq (.reg math_bits_Len_r0)
  (.seq (.cond (.const (.bool false)) (.seq (.reg math_bits_Len_r1)
  .ret) .skip)
  (.seq (.reg math_bits_Len_r2)
  .ret))), [.tmp 2]⟩
theorem math_bits_Len_s : slimF Try.prog 110 = some math_bits_Len_c := by kernel_rfl
/-- math/bits.Len32 -/
def math_bits_Len32_r0 : List SO := [rZ 2 (.assign (ciZ 0))]
def math_bits_Len32_r1 : List SO := [mvZ 3 0, rZ 4 (.binOp .geq 161 (tZ 3) (.const (.int .u32 65536)) 161)]
def math_bits_Len32_r2 : List SO := [mvZ 5 0, rZ 6 (.binOp .shr 161 (tZ 5) (.const (.int .u64 16)) 162), asZ 0 6]
def math_bits_Len32_r3 : List SO := [rZ 2 (.assign (ciZ 16))]
def math_bits_Len32_r4 : List SO := [mvZ 7 0, rZ 8 (.binOp .geq 161 (tZ 7) (.const (.int .u32 256)) 161)]
def math_bits_Len32_r5 : List SO := [mvZ 9 0, rZ 10 (.binOp .shr 161 (tZ 9) (.const (.int .u64 8)) 162), asZ 0 10]
def math_bits_Len32_r6 : List SO := [mvZ 11 2, bcZ 12 .add 3 11 8 3, asZ 2 12]
def math_bits_Len32_r7 : List SO := [mvZ 13 2, mvZ 14 0, rZ 15 (.convert 161 5 (tZ 14)), rZ 16 (.index 9 (.const (.string ⟨([0, 1, 2, 2, 3, 3, 3, 3, 4, 4, 4, 4, 4, 4, 4, 4, 5, 5, 5, 5, 5, 5, 5, 5, 5, 5, 5, 5, 5, 5, 5, 5, 6, 6, 6, 6, 6, 6, 6, 6, 6, 6, 6, 6, 6, 6, 6, 6, 6, 6, 6, 6, 6, 6, 6, 6, 6, 6, 6, 6, 6, 6, 6, 6, 7, 7, 7, 7, 7, 7, 7, 7, 7, 7, 7, 7, 7, 7, 7, 7, 7, 7, 7, 7, 7, 7, 7, 7, 7, 7, 7, 7, 7, 7, 7, 7, 7, 7, 7, 7, 7, 7, 7, 7, 7, 7, 7, 7, 7, 7, 7, 7, 7, 7, 7, 7, 7, 7, 7, 7, 7, 7, 7, 7, 7, 7, 7, 7, 8, 8, 8, 8, 8, 8, 8, 8, 8, 8, 8, 8, 8, 8, 8, 8, 8, 8, 8, 8, 8, 8, 8, 8, 8, 8, 8, 8, 8, 8, 8, 8, 8, 8, 8, 8, 8, 8, 8, 8, 8, 8, 8, 8, 8, 8, 8, 8, 8, 8, 8, 8, 8, 8, 8, 8, 8, 8, 8, 8, 8, 8, 8, 8, 8, 8, 8, 8, 8, 8, 8, 8, 8, 8, 8, 8, 8, 8, 8, 8, 8, 8, 8, 8, 8, 8, 8, 8, 8, 8, 8, 8, 8, 8, 8, 8, 8, 8, 8, 8, 8, 8, 8, 8, 8, 8, 8, 8, 8, 8, 8, 8, 8, 8, 8, 8, 8, 8, 8, 8, 8, 8, 8, 8, 8, 8, 8, 8] : List UInt8).toArray⟩)) (tZ 15)), rZ 17 (.convert 5 3 (tZ 16)), boZ 18 .add 3 13 17 3, asZ 2 18]
def math_bits_Len32_c : SF := ⟨19, (.seq (.reg math_bits_Len32_r0)
  (.seq (.seq (.reg math_bits_Len32_r1)
  (.cond (tZ 4) (.seq (.reg math_bits_Len32_r2)
  (.reg math_bits_Len32_r3)) .skip))
  (.seq (.seq (.reg math_bits_Len32_r4)
  (.cond (tZ 8) (.seq (.reg math_bits_Len32_r5)
  (.reg math_bits_Len32_r6)) .skip))
  (.seq (.reg math_bits_Len32_r7)
  .ret)))), [.tmp 2]⟩
theorem math_bits_Len32_s : slimF Try.prog 119 = some math_bits_Len32_c := by kernel_rfl
/-- math/bits.Len64 -/
def math_bits_Len64_r0 : List SO := [rZ 2 (.assign (ciZ 0))]
def math_bits_Len64_r1 : List SO := [mvZ 3 0, rZ 4 (.binOp .geq 190 (tZ 3) (.const (.int .u64 4294967296)) 190)]
def math_bits_Len64_r2 : List SO := [mvZ 5 0, rZ 6 (.binOp .shr 190 (tZ 5) (.const (.int .u64 32)) 162), asZ 0 6]
def math_bits_Len64_r3 : List SO := [rZ 2 (.assign (ciZ 32))]
def math_bits_Len64_r4 : List SO := [mvZ 7 0, rZ 8 (.binOp .geq 190 (tZ 7) (.const (.int .u64 65536)) 190)]
def math_bits_Len64_r5 : List SO := [mvZ 9 0, rZ 10 (.binOp .shr 190 (tZ 9) (.const (.int .u64 16)) 162), asZ 0 10]
def math_bits_Len64_r6 : List SO := [mvZ 11 2, bcZ 12 .add 3 11 16 3, asZ 2 12]
def math_bits_Len64_r7 : List SO := [mvZ 13 0, rZ 14 (.binOp .geq 190 (tZ 13) (.const (.int .u64 256)) 190)]
def math_bits_Len64_r8 : List SO := [mvZ 15 0, rZ 16 (.binOp .shr 190 (tZ 15) (.const (.int .u64 8)) 162), asZ 0 16]
def math_bits_Len64_r9 : List SO := [mvZ 17 2, bcZ 18 .add 3 17 8 3, asZ 2 18]
def math_bits_Len64_r10 : List SO := [mvZ 19 2, mvZ 20 0, rZ 21 (.convert 190 5 (tZ 20)), rZ 22 (.index 9 (.const (.string ⟨([0, 1, 2, 2, 3, 3, 3, 3, 4, 4, 4, 4, 4, 4, 4, 4, 5, 5, 5, 5, 5, 5, 5, 5, 5, 5, 5, 5, 5, 5, 5, 5, 6, 6, 6, 6, 6, 6, 6, 6, 6, 6, 6, 6, 6, 6, 6, 6, 6, 6, 6, 6, 6, 6, 6, 6, 6, 6, 6, 6, 6, 6, 6, 6, 7, 7, 7, 7, 7, 7, 7, 7, 7, 7, 7, 7, 7, 7, 7, 7, 7, 7, 7, 7, 7, 7, 7, 7, 7, 7, 7, 7, 7, 7, 7, 7, 7, 7, 7, 7, 7, 7, 7, 7, 7, 7, 7, 7, 7, 7, 7, 7, 7, 7, 7, 7, 7, 7, 7, 7, 7, 7, 7, 7, 7, 7, 7, 7, 8, 8, 8, 8, 8, 8, 8, 8, 8, 8, 8, 8, 8, 8, 8, 8, 8, 8, 8, 8, 8, 8, 8, 8, 8, 8, 8, 8, 8, 8, 8, 8, 8, 8, 8, 8, 8, 8, 8, 8, 8, 8, 8, 8, 8, 8, 8, 8, 8, 8, 8, 8, 8, 8, 8, 8, 8, 8, 8, 8, 8, 8, 8, 8, 8, 8, 8, 8, 8, 8, 8, 8, 8, 8, 8, 8, 8, 8, 8, 8, 8, 8, 8, 8, 8, 8, 8, 8, 8, 8, 8, 8, 8, 8, 8, 8, 8, 8, 8, 8, 8, 8, 8, 8, 8, 8, 8, 8, 8, 8, 8, 8, 8, 8, 8, 8, 8, 8, 8, 8, 8, 8, 8, 8, 8, 8, 8, 8] : List UInt8).toArray⟩)) (tZ 21)), rZ 23 (.convert 5 3 (tZ 22)), boZ 24 .add 3 19 23 3, asZ 2 24]
def math_bits_Len64_c : SF := ⟨25, (.seq (.reg math_bits_Len64_r0)
  (.seq (.seq (.reg math_bits_Len64_r1)
  (.cond (tZ 4) (.seq (.reg math_bits_Len64_r2)
  (.reg math_bits_Len64_r3)) .skip))
  (.seq (.seq (.reg math_bits_Len64_r4)
  (.cond (tZ 8) (.seq (.reg math_bits_Len64_r5)
  (.reg math_bits_Len64_r6)) .skip))
  (.seq (.seq (.reg math_bits_Len64_r7)
  (.cond (tZ 14) (.seq (.reg math_bits_Len64_r8)
  (.reg math_bits_Len64_r9)) .skip))
  (.seq (.reg math_bits_Len64_r10)
  .ret))))), [.tmp 2]⟩
theorem math_bits_Len64_s : slimF Try.prog 120 = some math_bits_Len64_c := by kernel_rfl
def tbl_bits : List (Nat × SF) := [(81, math_bits_OnesCount8_c), (110, math_bits_Len_c), (119, math_bits_Len32_c), (120, math_bits_Len64_c)]
theorem tbl_bits_ok : okT Try.prog tbl_bits := ⟨math_bits_OnesCount8_s, math_bits_Len_s, math_bits_Len32_s, math_bits_Len64_s, trivial⟩

end Go.Proofs.Ytagfanbodglplaa
namespace Go.Proofs.Ytagfanbodglplaa
open Go Go.Lite
set_option linter.unusedVariables false

/-- printworks/printworkstop.sDots -/
def T_sDots_r0 : List SO := [rZ 0 (.assign (.const (.bool false)))]
def T_sDots_r1 : List SO := [rZ 6 (.buildSlice 43 5 #[(0, (.const (.int .u8 128))), (1, (.const (.int .u8 128))), (2, (.const (.int .u8 128))), (3, (.const (.int .u8 128))), (4, (.const (.int .u8 128)))]), rZ 7 (.build 49 #[(0, (ciZ 5)), (1, (ciZ 1)), (2, (tZ 6))]), rZ 8 (.build 40 #[(0, (ciZ 2)), (1, (ciZ 1))]), rZ 9 (.call ⟨(.value (.func (13 : Nat))), #[(tZ 7), (tZ 8)], #[49, 40]⟩), mvZ 5 9, exZ 10 5 0, exZ 11 5 1, rZ 1 (.alloc 45), stZ 45 1 10, asZ 2 11]
def T_sDots_r2 : List SO := [ldZ 13 45 1, rZ 14 (.call ⟨(.value (.func (38 : Nat))), #[(tZ 13)], #[45]⟩), mvZ 12 14, exZ 15 12 0, exZ 16 12 1, asZ 3 15, asZ 4 16]
def T_sDots_r3 : List SO := [mvZ 17 2, bcZ 18 .eql 33 17 0 33, mvZ 19 18, gZ 19 true (mvZ 20 4), gZ 19 true (bcZ 21 .eql 33 20 0 33), rZ 22 (.pick (tZ 19) (tZ 21) (.const (.bool false))), mvZ 23 22, gZ 23 true (mvZ 24 3), gZ 23 true (bcZ 25 .eql 3 24 3 3), rZ 26 (.pick (tZ 23) (tZ 25) (.const (.bool false))), mvZ 27 26, gZ 27 true (faZ 28 45 1 2), gZ 27 true (ldZ 29 43 28), gZ 27 true (rZ 30 (.call ⟨(.builtin .len), #[(tZ 29)], #[43]⟩)), gZ 27 true (bcZ 31 .eql 3 30 1 3), rZ 32 (.pick (tZ 27) (tZ 31) (.const (.bool false))), mvZ 33 32, gZ 33 true (faZ 34 45 1 2), gZ 33 true (ldZ 35 43 34), gZ 33 true (rZ 36 (.indexAddr 43 (tZ 35) (ciZ 0))), gZ 33 true (ldZ 37 5 36), gZ 33 true (rZ 38 (.binOp .eql 5 (tZ 37) (.const (.int .u8 224)) 5)), rZ 39 (.pick (tZ 33) (tZ 38) (.const (.bool false))), asZ 0 39]
def T_sDots_c : SF := ⟨40, (.seq (.reg T_sDots_r0)
  (.seq (.reg T_sDots_r1)
  (.seq (.reg T_sDots_r2)
  (.seq (.reg T_sDots_r3)
  .ret)))), [.tmp 0]⟩
theorem T_sDots_s : slimF Try.prog 11 = some T_sDots_c := by kernel_rfl
abbrev T_sDots_f : Nat := 11
/-- printworks/printworkstop.sMod -/
def T_sMod_r0 : List SO := [rZ 4 (.assign (ciZ 0))]
def T_sMod_r1 : List SO := [mvZ 5 0, mvZ 6 1, boZ 7 .rem 3 5 6 3, mvZ 8 1, boZ 9 .add 3 7 8 3, mvZ 10 1, boZ 11 .rem 3 9 10 3, asZ 4 11]
def T_sMod_c : SF := ⟨12, (.seq (.reg T_sMod_r0)
  (.seq (.reg T_sMod_r1)
  .ret)), [.tmp 4]⟩
theorem T_sMod_s : slimF Try.prog 12 = some T_sMod_c := by kernel_rfl
abbrev T_sMod_f : Nat := 12
/-- printworks/printworkstop.sFlat -/
def T_sFlat_r0 : List SO := [rZ 6 (.alloc 49)]
def T_sFlat_r1 : List SO := [mvZ 9 0, mvZ 10 1, mvZ 11 0, mvZ 12 1, boZ 13 .mul 3 11 12 3, rZ 14 (.makeSlice 43 (tZ 13) (tZ 13)), rZ 15 (.build 49 #[(0, (tZ 9)), (1, (tZ 10)), (2, (tZ 14))]), rZ 7 (.alloc 49), stZ 49 7 15]
def T_sFlat_r2 : List SO := [faZ 16 49 7 2, ldZ 17 43 16, rZ 18 (.call ⟨(.builtin .len), #[(tZ 17)], #[43]⟩), rZ 19 (.move (ciZ 0))]
def T_sFlat_r3 : List SO := [boZ 20 .lss 3 19 18 3]
def T_sFlat_r4 : List SO := [mvZ 21 19, asZ 8 21]
def T_sFlat_r5 : List SO := [faZ 22 49 7 2, ldZ 23 43 22, mvZ 24 8, mvZ 25 2, iaZ 26 43 23 24, stZ 5 26 25]
def T_sFlat_r6 : List SO := [bcZ 27 .add 3 19 1 3, mvZ 19 27]
def T_sFlat_r7 : List SO := [ldZ 28 49 7, stZ 49 6 28]
def T_sFlat_c : SF := ⟨29, (.seq (.reg T_sFlat_r0)
  (.seq (.reg T_sFlat_r1)
  (.seq (.seq (.reg T_sFlat_r2)
  (.block 0 (.loop (.seq (.reg T_sFlat_r3)
  (.seq (.cond (tZ 20) .skip (.exit 0))
  (.seq (.block 1 (.seq (.reg T_sFlat_r4)
  (.reg T_sFlat_r5)))
  (.reg T_sFlat_r6)))))))
  (.seq (.reg T_sFlat_r7)
  .ret)))), [.cell 6 49]⟩
theorem T_sFlat_s : slimF Try.prog 14 = some T_sFlat_c := by kernel_rfl
abbrev T_sFlat_f : Nat := 14
/-- printworks/printworkstop.sLine -/
def T_sLine_r0 : List SO := [rZ 0 (.alloc 63)]
def T_sLine_r1 : List SO := [rZ 1 (.build 61 #[]), rZ 2 (.build 61 #[(0, (ciZ 65280)), (1, (ciZ 65280))]), rZ 3 (.buildSlice 41 2 #[(0, (tZ 1)), (1, (tZ 2))]), rZ 4 (.build 63 #[(0, (tZ 3))]), stZ 63 0 4]
def T_sLine_c : SF := ⟨5, (.seq (.reg T_sLine_r0)
  (.seq (.reg T_sLine_r1)
  .ret)), [.cell 0 63]⟩
theorem T_sLine_s : slimF Try.prog 20 = some T_sLine_c := by kernel_rfl
abbrev T_sLine_f : Nat := 20

end Go.Proofs.Ytagfanbodglplaa
namespace Go.Proofs.Ytagfanbodglplaa
open Go Go.Lite
set_option linter.unusedVariables false

/-- printworks/printworkstop.TopCalibrated -/
def T_TopCalibrated_r0 : List SO := [rZ 3 (.box 40 (tZ 0)), rZ 6 (.assign (.const (.bool false)))]
def T_TopCalibrated_r1 : List SO := [rZ 24 (.call ⟨(.value (.func (11 : Nat))), #[], #[]⟩), rZ 25 (.unOp .not 4 (tZ 24))]
def T_TopCalibrated_r2 : List SO := [rZ 6 (.assign (.const (.bool false)))]
def T_TopCalibrated_r3 : List SO := [mvZ 26 1, rZ 27 (.call ⟨(.value (.func (12 : Nat))), #[(tZ 26), (ciZ 3)], #[3, 3]⟩), mvZ 28 2, rZ 29 (.call ⟨(.value (.func (12 : Nat))), #[(tZ 28), (ciZ 12)], #[3, 3]⟩), rZ 30 (.binOp .add 3 (ciZ 6) (tZ 29) 3), asZ 1 27, asZ 2 30]
def T_TopCalibrated_r4 : List SO := [rZ 7 (.assign (.const (.slice none 0 0)))]
def T_TopCalibrated_r5 : List SO := [rZ 8 (.alloc 42)]
def T_TopCalibrated_r6 : List SO := [rZ 31 (.move (ciZ 0))]
def T_TopCalibrated_r7 : List SO := [bcZ 32 .lss 3 31 18 3]
def T_TopCalibrated_r8 : List SO := [mvZ 33 31, asZ 9 33]
def T_TopCalibrated_r9 : List SO := [mvZ 35 2, mvZ 36 2, mvZ 37 9, rZ 38 (.binOp .mul 3 (ciZ 15) (tZ 37) 3), rZ 39 (.convert 3 5 (tZ 38)), rZ 40 (.call ⟨(.value (.func (14 : Nat))), #[(tZ 35), (tZ 36), (tZ 39)], #[3, 3, 5]⟩), ldZ 41 40 3, rZ 42 (.call ⟨(.value (.func (13 : Nat))), #[(tZ 40), (tZ 41)], #[49, 40]⟩), mvZ 34 42, exZ 43 34 0, exZ 44 34 1, rZ 10 (.alloc 45), stZ 45 10 43, asZ 11 44]
def T_TopCalibrated_a9 : List (List Nat) := [[], [], [], [2], [3], [0, 1, 4], [], [5, 6, 5], [7], [8], [8], [], [11, 9, 7, 0, 1, 2, 3, 4, 5, 6, 7, 8, 9, 11], [10, 12, 0, 1, 2, 3, 4, 5, 6, 7, 8, 9, 10, 11, 12]]
def T_TopCalibrated_r10 : List SO := [mvZ 45 11, bcZ 46 .neq 33 45 0 33]
def T_TopCalibrated_r11 : List SO := [mvZ 47 11, ldZ 48 40 3, rZ 49 (.call ⟨(.value (.func (15 : Nat))), #[(tZ 48)], #[40]⟩), boZ 50 .eql 33 47 49 33, asZ 6 50]
def T_TopCalibrated_r12 : List SO := [ldZ 52 45 10, rZ 53 (.buildSlice 55 1 #[(0, (tZ 52))]), mvZ 54 1, rZ 55 (.buildSlice 24 1 #[(0, (tZ 54))]), rZ 56 (.build 57 #[]), rZ 57 (.buildSlice 58 1 #[(0, (tZ 56))]), rZ 58 (.call ⟨(.value (.func (16 : Nat))), #[(tZ 53), (tZ 55), (tZ 57)], #[55, 24, 58]⟩), mvZ 51 58, exZ 59 51 0, exZ 60 51 1, rZ 12 (.alloc 52), stZ 52 12 59, asZ 13 60]
def T_TopCalibrated_r13 : List SO := [ldZ 62 52 12, rZ 63 (.call ⟨(.value (.func (17 : Nat))), #[(tZ 62), (ciZ 1)], #[52, 3]⟩), mvZ 61 63, exZ 64 61 0, exZ 65 61 1, asZ 14 64, asZ 15 65]
def T_TopCalibrated_r14 : List SO := [mvZ 66 13, bcZ 67 .neq 33 66 0 33, mvZ 68 67, gZ 68 false (mvZ 69 15), gZ 68 false (bcZ 70 .neq 33 69 0 33), rZ 71 (.pick (tZ 68) (.const (.bool true)) (tZ 70)), mvZ 72 71, gZ 72 false (mvZ 73 14), gZ 72 false (rZ 74 (.call ⟨(.builtin .len), #[(tZ 73)], #[24]⟩)), gZ 72 false (bcZ 75 .neq 3 74 2 3), rZ 76 (.pick (tZ 72) (.const (.bool true)) (tZ 75))]
def T_TopCalibrated_r15 : List SO := [rZ 6 (.assign (.const (.bool false)))]
def T_TopCalibrated_r16 : List SO := [mvZ 77 9, mvZ 78 14, rZ 79 (.indexAddr 24 (tZ 78) (ciZ 1)), ldZ 80 3 79, rZ 81 (.binOp .mul 3 (ciZ 65280) (tZ 80) 3), mvZ 82 2, mvZ 83 2, boZ 84 .mul 3 82 83 3, boZ 85 .quo 3 81 84 3, iaZ 86 42 8 77, stZ 3 86 85]
def T_TopCalibrated_r17 : List SO := [mvZ 87 7, mvZ 88 9, rZ 89 (.binOp .mul 3 (ciZ 3840) (tZ 88) 3), mvZ 90 9, iaZ 91 42 8 90, ldZ 92 3 91, rZ 93 (.build 61 #[(0, (tZ 89)), (1, (tZ 92))]), rZ 94 (.buildSlice 41 1 #[(0, (tZ 93))]), rZ 95 (.call ⟨(.builtin .append), #[(tZ 87), (tZ 94)], #[41, 41]⟩), asZ 7 95]
def T_TopCalibrated_r18 : List SO := [bcZ 96 .add 3 31 1 3, mvZ 31 96]
def T_TopCalibrated_r19 : List SO := [mvZ 98 7, rZ 99 (.call ⟨(.value (.func (18 : Nat))), #[(tZ 98)], #[41]⟩), mvZ 97 99, exZ 100 97 0, exZ 101 97 1, rZ 16 (.alloc 63), stZ 63 16 100, asZ 17 101]
def T_TopCalibrated_r20 : List SO := [ldZ 103 63 16, rZ 104 (.call ⟨(.value (.func (20 : Nat))), #[], #[]⟩), rZ 105 (.call ⟨(.value (.func (19 : Nat))), #[(tZ 103), (tZ 104)], #[63, 63]⟩), mvZ 102 105, exZ 106 102 0, exZ 107 102 1, rZ 18 (.alloc 63), stZ 63 18 106, asZ 19 107]
def T_TopCalibrated_a20 : List (List Nat) := [[], [], [0, 1, 1], [2], [3], [3], [], [6, 4, 2, 0, 1, 2, 3, 4, 6], [5, 7, 0, 1, 2, 3, 4, 5, 6, 7]]
def T_TopCalibrated_r21 : List SO := [mvZ 108 17, bcZ 109 .neq 33 108 0 33, mvZ 110 109, gZ 110 false (mvZ 111 19), gZ 110 false (bcZ 112 .neq 33 111 0 33), rZ 113 (.pick (tZ 110) (.const (.bool true)) (tZ 112)), mvZ 114 113, gZ 114 false (faZ 115 63 18 0), gZ 114 false (ldZ 116 41 115), gZ 114 false (rZ 117 (.call ⟨(.builtin .len), #[(tZ 116)], #[41]⟩)), gZ 114 false (bcZ 118 .neq 3 117 17 3), rZ 119 (.pick (tZ 114) (.const (.bool true)) (tZ 118))]
def T_TopCalibrated_r22 : List SO := [rZ 6 (.assign (.const (.bool false)))]
def T_TopCalibrated_r23 : List SO := [faZ 120 63 18 0, ldZ 121 41 120, rZ 122 (.call ⟨(.builtin .len), #[(tZ 121)], #[41]⟩), rZ 123 (.move (ciZ 0))]
def T_TopCalibrated_r24 : List SO := [boZ 124 .lss 3 123 122 3]
def T_TopCalibrated_r25 : List SO := [mvZ 125 123, iaZ 126 41 121 123, ldZ 127 61 126, rZ 21 (.alloc 61), asZ 20 125, stZ 61 21 127]
def T_TopCalibrated_r26 : List SO := [ldZ 128 42 8, rZ 129 (.move (ciZ 0))]
def T_TopCalibrated_r27 : List SO := [bcZ 130 .lss 3 129 18 3]
def T_TopCalibrated_r28 : List SO := [mvZ 131 129, rZ 132 (.index 42 (tZ 128) (tZ 129)), asZ 22 131, asZ 23 132]
def T_TopCalibrated_r29 : List SO := [mvZ 133 22, rZ 134 (.binOp .mul 3 (ciZ 3840) (tZ 133) 3), faZ 135 61 21 1, ldZ 136 3 135, boZ 137 .geq 3 134 136 3, mvZ 138 23, mvZ 139 20, rZ 140 (.binOp .mul 3 (ciZ 4080) (tZ 139) 3), boZ 141 .geq 3 138 140 3, boZ 142 .neq 4 137 141 4]
def T_TopCalibrated_r30 : List SO := [rZ 6 (.assign (.const (.bool false)))]
def T_TopCalibrated_r31 : List SO := [bcZ 143 .add 3 129 1 3, mvZ 129 143]
def T_TopCalibrated_r32 : List SO := [bcZ 144 .add 3 123 1 3, mvZ 123 144]
def T_TopCalibrated_r33 : List SO := [rZ 6 (.assign (.const (.bool true)))]
def T_TopCalibrated_c : SF := ⟨145, (.seq (.reg T_TopCalibrated_r0)
  (.seq (.seq (.reg T_TopCalibrated_r1)
  (.cond (tZ 25) (.seq (.reg T_TopCalibrated_r2)
  .ret) .skip))
  (.seq (.reg T_TopCalibrated_r3)
  (.seq (.reg T_TopCalibrated_r4)
  (.seq (.reg T_TopCalibrated_r5)
  (.seq (.seq (.reg T_TopCalibrated_r6)
  (.block 0 (.loop (.seq (.reg T_TopCalibrated_r7)
  (.seq (.cond (tZ 32) .skip (.exit 0))
  (.seq (.block 1 (.seq (.reg T_TopCalibrated_r8)
  (.seq (.regd T_TopCalibrated_r9 T_TopCalibrated_a9)
  (.seq (.seq (.reg T_TopCalibrated_r10)
  (.cond (tZ 46) (.seq (.reg T_TopCalibrated_r11)
  .ret) .skip))
  (.seq (.reg T_TopCalibrated_r12)
  (.seq (.reg T_TopCalibrated_r13)
  (.seq (.seq (.reg T_TopCalibrated_r14)
  (.cond (tZ 76) (.seq (.reg T_TopCalibrated_r15)
  .ret) .skip))
  (.seq (.reg T_TopCalibrated_r16)
  (.reg T_TopCalibrated_r17)))))))))
  (.reg T_TopCalibrated_r18)))))))
  (.seq (.reg T_TopCalibrated_r19)
  (.seq (.regd T_TopCalibrated_r20 T_TopCalibrated_a20)
  (.seq (.seq (.reg T_TopCalibrated_r21)
  (.cond (tZ 119) (.seq (.reg T_TopCalibrated_r22)
  .ret) .skip))
  (.seq (.seq (.reg T_TopCalibrated_r23)
  (.block 2 (.loop (.seq (.reg T_TopCalibrated_r24)
  (.seq (.cond (tZ 124) .skip (.exit 2))
  (.seq (.block 3 (.seq (.reg T_TopCalibrated_r25)
  (.seq (.reg T_TopCalibrated_r26)
  (.block 4 (.loop (.seq (.reg T_TopCalibrated_r27)
  (.seq (.cond (tZ 130) .skip (.exit 4))
  (.seq (.block 5 (.seq (.reg T_TopCalibrated_r28)
  (.seq (.reg T_TopCalibrated_r29)
  (.cond (tZ 142) (.seq (.reg T_TopCalibrated_r30)
  .ret) .skip))))
  (.reg T_TopCalibrated_r31)))))))))
  (.reg T_TopCalibrated_r32)))))))
  (.seq (.reg T_TopCalibrated_r33)
  .ret))))))))))), [.tmp 6]⟩
theorem T_TopCalibrated_s : slimF Try.prog 4 = some T_TopCalibrated_c := by kernel_rfl
abbrev T_TopCalibrated_f : Nat := 4

end Go.Proofs.Ytagfanbodglplaa
