/- Printed by program: the functions' code in few words; the kernel checks it against the translation. -/
import Derived.Test.YtihminfnphichaaRows
import Derived.Test.YtihminfnphichaaLists
namespace Go.Proofs.Ytihminfnphichaa
open Go Go.Lite
set_option linter.unusedVariables false

/-- Int -/
abbrev Ey : Nat := 0
/-- Int × Int × List (Int) -/
abbrev E2iLyJ : Nat := 1
/-- Int -/
abbrev Ei : Nat := 2
/-- Int × Int × Int × Int × Int × Int -/
abbrev E6i : Nat := 3
/-- Int × Int -/
abbrev E2i : Nat := 4
/-- List (Int) -/
abbrev ELiJ : Nat := 5
/-- Int × Int × List (Int × Int) × List (List (Int)) × Int -/
abbrev E2iL2iJLLiJJi : Nat := 6
@[reducible] def A (e : Nat) : Type := match e with
  | 0 => Int
  | 1 => Int × Int × List (Int)
  | 2 => Int
  | 3 => Int × Int × Int × Int × Int × Int
  | 4 => Int × Int
  | 5 => List (Int)
  | 6 => Int × Int × List (Int × Int) × List (List (Int)) × Int
  | 7 => Int × Int × Int × Int × Int × List (Int) × List (Int)
  | _ => Unit
def eSz (e : Nat) : Nat := match e with
  | 0 => 1
  | 1 => 3
  | 2 => 1
  | 3 => 6
  | 4 => 2
  | 5 => 1
  | 6 => 5
  | 7 => 7
  | _ => 1
def eD (e : Nat) : A e := match e with
  | 0 => (0 : Int)
  | 1 => ((0 : Int), (0 : Int), ([] : List (Int)))
  | 2 => (0 : Int)
  | 3 => ((0 : Int), (0 : Int), (0 : Int), (0 : Int), (0 : Int), (0 : Int))
  | 4 => ((0 : Int), (0 : Int))
  | 5 => ([] : List (Int))
  | 6 => ((0 : Int), (0 : Int), ([] : List (Int × Int)), ([] : List (List (Int))), (0 : Int))
  | 7 => ((0 : Int), (0 : Int), (0 : Int), (0 : Int), (0 : Int), ([] : List (Int)), ([] : List (Int)))
  | _ + 8 => ()
def encL0 (x : Int) : List LV := [.int .u8 (x)]
def enc0 (x : Int) : List (TV A) := [.int .u8 (x)]
def dec0 (cs : List (TV A)) : Option (Int) := match cs with
  | [.int .u8 x0] => some x0
  | _ => none
def encL1 (x : Int × Int × List (Int)) : List LV := [.int .i64 (x.1), .int .i64 (x.2.1), .ps 1 (List.length (x.2.2)) (List.flatMap encL0 (x.2.2))]
def enc1 (x : Int × Int × List (Int)) : List (TV A) := [.int .i64 (x.1), .int .i64 (x.2.1), .lst 0 (x.2.2)]
def dec1 (cs : List (TV A)) : Option (Int × Int × List (Int)) := match cs with
  | [.int .i64 x0, .int .i64 x1, .lst 0 x2] => some (x0, x1, x2)
  | _ => none
def encL2 (x : Int) : List LV := [.int .i64 (x)]
def enc2 (x : Int) : List (TV A) := [.int .i64 (x)]
def dec2 (cs : List (TV A)) : Option (Int) := match cs with
  | [.int .i64 x0] => some x0
  | _ => none
def encL3 (x : Int × Int × Int × Int × Int × Int) : List LV := [.int .i64 (x.1), .int .i64 (x.2.1), .int .i64 (x.2.2.1), .int .i64 (x.2.2.2.1), .int .i64 (x.2.2.2.2.1), .int .i64 (x.2.2.2.2.2)]
def enc3 (x : Int × Int × Int × Int × Int × Int) : List (TV A) := [.int .i64 (x.1), .int .i64 (x.2.1), .int .i64 (x.2.2.1), .int .i64 (x.2.2.2.1), .int .i64 (x.2.2.2.2.1), .int .i64 (x.2.2.2.2.2)]
def dec3 (cs : List (TV A)) : Option (Int × Int × Int × Int × Int × Int) := match cs with
  | [.int .i64 x0, .int .i64 x1, .int .i64 x2, .int .i64 x3, .int .i64 x4, .int .i64 x5] => some (x0, x1, x2, x3, x4, x5)
  | _ => none
def encL4 (x : Int × Int) : List LV := [.int .i64 (x.1), .int .i64 (x.2)]
def enc4 (x : Int × Int) : List (TV A) := [.int .i64 (x.1), .int .i64 (x.2)]
def dec4 (cs : List (TV A)) : Option (Int × Int) := match cs with
  | [.int .i64 x0, .int .i64 x1] => some (x0, x1)
  | _ => none
def encL5 (x : List (Int)) : List LV := [.ps 1 (List.length (x)) (List.flatMap encL2 (x))]
def enc5 (x : List (Int)) : List (TV A) := [.lst 2 (x)]
def dec5 (cs : List (TV A)) : Option (List (Int)) := match cs with
  | [.lst 2 x0] => some x0
  | _ => none
def encL6 (x : Int × Int × List (Int × Int) × List (List (Int)) × Int) : List LV := [.int .i64 (x.1), .int .i64 (x.2.1), .ps 2 (List.length (x.2.2.1)) (List.flatMap encL4 (x.2.2.1)), .ps 1 (List.length (x.2.2.2.1)) (List.flatMap encL5 (x.2.2.2.1)), .int .i64 (x.2.2.2.2)]
def enc6 (x : Int × Int × List (Int × Int) × List (List (Int)) × Int) : List (TV A) := [.int .i64 (x.1), .int .i64 (x.2.1), .lst 4 (x.2.2.1), .lst 5 (x.2.2.2.1), .int .i64 (x.2.2.2.2)]
def dec6 (cs : List (TV A)) : Option (Int × Int × List (Int × Int) × List (List (Int)) × Int) := match cs with
  | [.int .i64 x0, .int .i64 x1, .lst 4 x2, .lst 5 x3, .int .i64 x4] => some (x0, x1, x2, x3, x4)
  | _ => none
def encL7 (x : Int × Int × Int × Int × Int × List (Int) × List (Int)) : List LV := [.int .i64 (x.1), .int .i64 (x.2.1), .int .i64 (x.2.2.1), .int .i64 (x.2.2.2.1), .int .i64 (x.2.2.2.2.1), .ps 1 (List.length (x.2.2.2.2.2.1)) (List.flatMap encL2 (x.2.2.2.2.2.1)), .ps 1 (List.length (x.2.2.2.2.2.2)) (List.flatMap encL2 (x.2.2.2.2.2.2))]
def enc7 (x : Int × Int × Int × Int × Int × List (Int) × List (Int)) : List (TV A) := [.int .i64 (x.1), .int .i64 (x.2.1), .int .i64 (x.2.2.1), .int .i64 (x.2.2.2.1), .int .i64 (x.2.2.2.2.1), .lst 2 (x.2.2.2.2.2.1), .lst 2 (x.2.2.2.2.2.2)]
def dec7 (cs : List (TV A)) : Option (Int × Int × Int × Int × Int × List (Int) × List (Int)) := match cs with
  | [.int .i64 x0, .int .i64 x1, .int .i64 x2, .int .i64 x3, .int .i64 x4, .lst 2 x5, .lst 2 x6] => some (x0, x1, x2, x3, x4, x5, x6)
  | _ => none
def eEncL (e : Nat) (a : A e) : List LV := match e, a with
  | 0, a => encL0 a
  | 1, a => encL1 a
  | 2, a => encL2 a
  | 3, a => encL3 a
  | 4, a => encL4 a
  | 5, a => encL5 a
  | 6, a => encL6 a
  | 7, a => encL7 a
  | _ + 8, _ => [.nilp]
def eEnc (e : Nat) (a : A e) : List (TV A) := match e, a with
  | 0, a => enc0 a
  | 1, a => enc1 a
  | 2, a => enc2 a
  | 3, a => enc3 a
  | 4, a => enc4 a
  | 5, a => enc5 a
  | 6, a => enc6 a
  | 7, a => enc7 a
  | _ + 8, _ => [.nilp]
def eDec (e : Nat) (cs : List (TV A)) : Option (A e) := match e with
  | 0 => dec0 cs
  | 1 => dec1 cs
  | 2 => dec2 cs
  | 3 => dec3 cs
  | 4 => dec4 cs
  | 5 => dec5 cs
  | 6 => dec6 cs
  | 7 => dec7 cs
  | _ + 8 => none
def eEl (t : Nat) : Option Nat := match t with
  | 22 => some 1
  | 25 => some 2
  | 29 => some 0
  | 28 => some 1
  | 78 => some 3
  | 40 => some 6
  | 47 => some 4
  | 51 => some 4
  | 37 => some 5
  | 93 => some 4
  | 108 => some 7
  | 52 => some 2
  | 104 => some 2
  | _ => none
def fl (e : Nat) : Bool := match e with
  | 0 => true
  | 1 => false
  | 2 => true
  | 3 => true
  | 4 => true
  | 5 => false
  | 6 => false
  | 7 => false
  | _ => false
def eByt (e : Nat) : Option (List (A e) → List Int) := match e with
  | 0 => some fun xs => xs
  | _ => none
theorem flat1 : ∀ xs : List Int, xs.flatMap (fun x => [LV.int .u8 x]) = xs.map (LV.int .u8)
  | [] => rfl
  | x :: r => congrArg (LV.int .u8 x :: ·) (flat1 r)
def R : Reg A := ⟨eSz, eD, eEncL, eEnc, eDec, eEl, eByt⟩
theorem R_ok : R.Ok where
  pos e := by show 0 < eSz e; unfold eSz; split <;> decide
  len e a := match e, a with
    | 0, a => rfl
    | 1, a => rfl
    | 2, a => rfl
    | 3, a => rfl
    | 4, a => rfl
    | 5, a => rfl
    | 6, a => rfl
    | 7, a => rfl
    | e + 8, a => rfl
  ok e a := match e, a with
    | 0, a => rfl
    | 1, a => rfl
    | 2, a => rfl
    | 3, a => rfl
    | 4, a => rfl
    | 5, a => rfl
    | 6, a => rfl
    | 7, a => rfl
    | e + 8, a => rfl
  dec e cs a h := match e, a, h with
    | 0, a, h => by
      replace h : dec0 cs = some a := h
      unfold dec0 at h
      split at h
      · cases h; rfl
      · cases h
    | 1, a, h => by
      replace h : dec1 cs = some a := h
      unfold dec1 at h
      split at h
      · cases h; rfl
      · cases h
    | 2, a, h => by
      replace h : dec2 cs = some a := h
      unfold dec2 at h
      split at h
      · cases h; rfl
      · cases h
    | 3, a, h => by
      replace h : dec3 cs = some a := h
      unfold dec3 at h
      split at h
      · cases h; rfl
      · cases h
    | 4, a, h => by
      replace h : dec4 cs = some a := h
      unfold dec4 at h
      split at h
      · cases h; rfl
      · cases h
    | 5, a, h => by
      replace h : dec5 cs = some a := h
      unfold dec5 at h
      split at h
      · cases h; rfl
      · cases h
    | 6, a, h => by
      replace h : dec6 cs = some a := h
      unfold dec6 at h
      split at h
      · cases h; rfl
      · cases h
    | 7, a, h => by
      replace h : dec7 cs = some a := h
      unfold dec7 at h
      split at h
      · cases h; rfl
      · cases h
    | e + 8, a, h => by cases h
  free e a := match e, a with
    | 0, a => rfl
    | 1, a => rfl
    | 2, a => rfl
    | 3, a => rfl
    | 4, a => rfl
    | 5, a => rfl
    | 6, a => rfl
    | 7, a => rfl
    | e + 8, a => rfl
  sol e a := match e, a with
    | 0, a => rfl
    | 1, a => rfl
    | 2, a => rfl
    | 3, a => rfl
    | 4, a => rfl
    | 5, a => rfl
    | 6, a => rfl
    | 7, a => rfl
    | e + 8, a => rfl
  byt e f h xs := match e, f, h with
    | 0, f, h => by cases h; exact flat1 xs
    | 1, f, h => by cases h
    | 2, f, h => by cases h
    | 3, f, h => by cases h
    | 4, f, h => by cases h
    | 5, f, h => by cases h
    | 6, f, h => by cases h
    | 7, f, h => by cases h
    | e + 8, f, h => by cases h
theorem fl_ok : ∀ e, fl e = true → ∀ a, psfreeL (R.encL e a) = true := fun e h a => match e, h, a with
  | 0, h, a => rfl
  | 1, h, a => by cases h
  | 2, h, a => rfl
  | 3, h, a => rfl
  | 4, h, a => rfl
  | 5, h, a => by cases h
  | 6, h, a => by cases h
  | 7, h, a => by cases h
  | e + 8, h, a => rfl

def tyL : List (Nat × TI) := [(0, ⟨.other, 1, false, [.dead]⟩),
  (24, ⟨.struct [(0, 1, false), (1, 1, false), (2, 1, false)], 3, true, [.int .i64 0, .int .i64 0, .int .i64 0]⟩),
  (22, ⟨.slice 3 40 [.int .i64 0, .int .i64 0, .nils], 1, false, [.nils]⟩),
  (25, ⟨.slice 1 8 [.int .i64 0], 1, false, [.nils]⟩),
  (3, ⟨.int .i64, 1, false, [.int .i64 0]⟩),
  (31, ⟨.struct [(0, 1, false), (1, 1, false), (2, 1, false)], 3, true, [.int .i64 0, .int .i64 0, .nils]⟩),
  (29, ⟨.slice 1 1 [.int .u8 0], 1, false, [.nils]⟩),
  (33, ⟨.struct [(0, 1, false), (1, 1, false), (2, 1, false)], 3, true, [.int .i64 0, .int .i64 0, .nils]⟩),
  (34, ⟨.int .i64, 1, false, [.int .i64 0]⟩),
  (28, ⟨.slice 3 40 [.int .i64 0, .int .i64 0, .nils], 1, false, [.nils]⟩),
  (44, ⟨.struct [(0, 1, false), (1, 1, false), (2, 1, false), (3, 1, false), (4, 1, false), (5, 1, false), (6, 1, false)], 7, true, [.int .i64 0, .int .i64 0, .int .i64 0, .int .i64 0, .nils, .nils, .nils]⟩),
  (78, ⟨.slice 6 48 [.int .i64 0, .int .i64 0, .int .i64 0, .int .i64 0, .int .i64 0, .int .i64 0], 1, false, [.nils]⟩),
  (40, ⟨.slice 5 72 [.int .i64 0, .int .i64 0, .nils, .nils, .int .i64 0], 1, false, [.nils]⟩),
  (49, ⟨.struct [(0, 1, false), (1, 1, false), (2, 1, false), (3, 1, false), (4, 1, false)], 5, true, [.int .i64 0, .int .i64 0, .nils, .nils, .int .i64 0]⟩),
  (52, ⟨.arr 18 1 false, 18, true, [.int .i64 0, .int .i64 0, .int .i64 0, .int .i64 0, .int .i64 0, .int .i64 0, .int .i64 0, .int .i64 0, .int .i64 0, .int .i64 0, .int .i64 0, .int .i64 0, .int .i64 0, .int .i64 0, .int .i64 0, .int .i64 0, .int .i64 0, .int .i64 0]⟩),
  (5, ⟨.int .u8, 1, false, [.int .u8 0]⟩),
  (59, ⟨.struct [(0, 1, false), (1, 1, false)], 2, true, [.int .i64 0, .int .i64 0]⟩),
  (47, ⟨.slice 2 16 [.int .i64 0, .int .i64 0], 1, false, [.nils]⟩),
  (55, ⟨.struct [(0, 1, false), (1, 1, false), (2, 1, false)], 3, true, [.int .i64 0, .int .i64 0, .nils]⟩),
  (62, ⟨.struct [(0, 1, false), (1, 1, false)], 2, true, [.int .i64 0, .int .i64 0]⟩),
  (51, ⟨.slice 2 16 [.int .i64 0, .int .i64 0], 1, false, [.nils]⟩),
  (64, ⟨.struct [(0, 1, false)], 1, true, [.nils]⟩),
  (4, ⟨.bool, 1, false, [.bool false]⟩),
  (37, ⟨.slice 1 24 [.nils], 1, false, [.nils]⟩),
  (71, ⟨.other, 1, false, [.nilp]⟩),
  (77, ⟨.other, 1, false, [.nilp]⟩),
  (84, ⟨.struct [(0, 1, false), (1, 1, false), (2, 1, false), (3, 1, false), (4, 1, false), (5, 1, false)], 6, true, [.int .i64 0, .int .i64 0, .int .i64 0, .int .i64 0, .int .i64 0, .int .i64 0]⟩),
  (79, ⟨.other, 1, false, [.nilp]⟩),
  (95, ⟨.struct [(0, 1, false), (1, 1, false)], 2, true, [.int .i64 0, .int .i64 0]⟩),
  (93, ⟨.slice 2 16 [.int .i64 0, .int .i64 0], 1, false, [.nils]⟩),
  (101, ⟨.struct [(0, 1, false), (1, 1, false), (2, 1, false)], 3, true, [.int .i64 0, .int .i64 0, .int .i64 0]⟩),
  (104, ⟨.arr 256 1 false, 256, true, [.int .i64 0, .int .i64 0, .int .i64 0, .int .i64 0, .int .i64 0, .int .i64 0, .int .i64 0, .int .i64 0, .int .i64 0, .int .i64 0, .int .i64 0, .int .i64 0, .int .i64 0, .int .i64 0, .int .i64 0, .int .i64 0, .int .i64 0, .int .i64 0, .int .i64 0, .int .i64 0, .int .i64 0, .int .i64 0, .int .i64 0, .int .i64 0, .int .i64 0, .int .i64 0, .int .i64 0, .int .i64 0, .int .i64 0, .int .i64 0, .int .i64 0, .int .i64 0, .int .i64 0, .int .i64 0, .int .i64 0, .int .i64 0, .int .i64 0, .int .i64 0, .int .i64 0, .int .i64 0, .int .i64 0, .int .i64 0, .int .i64 0, .int .i64 0, .int .i64 0, .int .i64 0, .int .i64 0, .int .i64 0, .int .i64 0, .int .i64 0, .int .i64 0, .int .i64 0, .int .i64 0, .int .i64 0, .int .i64 0, .int .i64 0, .int .i64 0, .int .i64 0, .int .i64 0, .int .i64 0, .int .i64 0, .int .i64 0, .int .i64 0, .int .i64 0, .int .i64 0, .int .i64 0, .int .i64 0, .int .i64 0, .int .i64 0, .int .i64 0, .int .i64 0, .int .i64 0, .int .i64 0, .int .i64 0, .int .i64 0, .int .i64 0, .int .i64 0, .int .i64 0, .int .i64 0, .int .i64 0, .int .i64 0, .int .i64 0, .int .i64 0, .int .i64 0, .int .i64 0, .int .i64 0, .int .i64 0, .int .i64 0, .int .i64 0, .int .i64 0, .int .i64 0, .int .i64 0, .int .i64 0, .int .i64 0, .int .i64 0, .int .i64 0, .int .i64 0, .int .i64 0, .int .i64 0, .int .i64 0, .int .i64 0, .int .i64 0, .int .i64 0, .int .i64 0, .int .i64 0, .int .i64 0, .int .i64 0, .int .i64 0, .int .i64 0, .int .i64 0, .int .i64 0, .int .i64 0, .int .i64 0, .int .i64 0, .int .i64 0, .int .i64 0, .int .i64 0, .int .i64 0, .int .i64 0, .int .i64 0, .int .i64 0, .int .i64 0, .int .i64 0, .int .i64 0, .int .i64 0, .int .i64 0, .int .i64 0, .int .i64 0, .int .i64 0, .int .i64 0, .int .i64 0, .int .i64 0, .int .i64 0, .int .i64 0, .int .i64 0, .int .i64 0, .int .i64 0, .int .i64 0, .int .i64 0, .int .i64 0, .int .i64 0, .int .i64 0, .int .i64 0, .int .i64 0, .int .i64 0, .int .i64 0, .int .i64 0, .int .i64 0, .int .i64 0, .int .i64 0, .int .i64 0, .int .i64 0, .int .i64 0, .int .i64 0, .int .i64 0, .int .i64 0, .int .i64 0, .int .i64 0, .int .i64 0, .int .i64 0, .int .i64 0, .int .i64 0, .int .i64 0, .int .i64 0, .int .i64 0, .int .i64 0, .int .i64 0, .int .i64 0, .int .i64 0, .int .i64 0, .int .i64 0, .int .i64 0, .int .i64 0, .int .i64 0, .int .i64 0, .int .i64 0, .int .i64 0, .int .i64 0, .int .i64 0, .int .i64 0, .int .i64 0, .int .i64 0, .int .i64 0, .int .i64 0, .int .i64 0, .int .i64 0, .int .i64 0, .int .i64 0, .int .i64 0, .int .i64 0, .int .i64 0, .int .i64 0, .int .i64 0, .int .i64 0, .int .i64 0, .int .i64 0, .int .i64 0, .int .i64 0, .int .i64 0, .int .i64 0, .int .i64 0, .int .i64 0, .int .i64 0, .int .i64 0, .int .i64 0, .int .i64 0, .int .i64 0, .int .i64 0, .int .i64 0, .int .i64 0, .int .i64 0, .int .i64 0, .int .i64 0, .int .i64 0, .int .i64 0, .int .i64 0, .int .i64 0, .int .i64 0, .int .i64 0, .int .i64 0, .int .i64 0, .int .i64 0, .int .i64 0, .int .i64 0, .int .i64 0, .int .i64 0, .int .i64 0, .int .i64 0, .int .i64 0, .int .i64 0, .int .i64 0, .int .i64 0, .int .i64 0, .int .i64 0, .int .i64 0, .int .i64 0, .int .i64 0, .int .i64 0, .int .i64 0, .int .i64 0, .int .i64 0, .int .i64 0, .int .i64 0, .int .i64 0, .int .i64 0, .int .i64 0, .int .i64 0, .int .i64 0, .int .i64 0, .int .i64 0, .int .i64 0, .int .i64 0, .int .i64 0, .int .i64 0, .int .i64 0, .int .i64 0]⟩),
  (110, ⟨.struct [(0, 3, true), (3, 7, true), (10, 1, false)], 11, true, [.int .i64 0, .int .i64 0, .int .i64 0, .int .i64 0, .int .i64 0, .int .i64 0, .int .i64 0, .nils, .nils, .nils, .nils]⟩),
  (108, ⟨.slice 7 88 [.int .i64 0, .int .i64 0, .int .i64 0, .int .i64 0, .int .i64 0, .nils, .nils], 1, false, [.nils]⟩),
  (113, ⟨.struct [(0, 2, true), (2, 2, true), (4, 1, false), (5, 1, false), (6, 1, false)], 7, true, [.int .i64 0, .int .i64 0, .int .i64 0, .int .i64 0, .int .i64 0, .nils, .nils]⟩),
  (107, ⟨.struct [(0, 1, false), (1, 1, false), (2, 1, false)], 3, true, [.int .i64 0, .int .i64 0, .int .i64 0]⟩),
  (115, ⟨.other, 1, false, [.nilp]⟩),
  (120, ⟨.other, 1, false, [.nilf]⟩),
  (124, ⟨.other, 1, false, [.nilf]⟩),
  (27, ⟨.other, 1, false, [.nilf]⟩),
  (9, ⟨.str, 1, false, [.str ⟨([] : List UInt8).toArray⟩]⟩),
  (128, ⟨.int .u64, 1, false, [.int .u64 0]⟩),
  (141, ⟨.int .u32, 1, false, [.int .u32 0]⟩),
  (143, ⟨.int .u64, 1, false, [.int .u64 0]⟩),
  (133, ⟨.int .i64, 1, false, [.int .i64 0]⟩),
  (144, ⟨.int .u64, 1, false, [.int .u64 0]⟩),
  (148, ⟨.other, 1, false, [.nilp]⟩),
  (150, ⟨.other, 1, false, [.nilp]⟩)]
theorem tyL_ok : okL (tiOf Try.prog) tyL := ⟨by kernel_rfl, by kernel_rfl, by kernel_rfl, by kernel_rfl, by kernel_rfl, by kernel_rfl, by kernel_rfl, by kernel_rfl, by kernel_rfl, by kernel_rfl, by kernel_rfl, by kernel_rfl, by kernel_rfl, by kernel_rfl, by kernel_rfl, by kernel_rfl, by kernel_rfl, by kernel_rfl, by kernel_rfl, by kernel_rfl, by kernel_rfl, by kernel_rfl, by kernel_rfl, by kernel_rfl, by kernel_rfl, by kernel_rfl, by kernel_rfl, by kernel_rfl, by kernel_rfl, by kernel_rfl, by kernel_rfl, by kernel_rfl, by kernel_rfl, by kernel_rfl, by kernel_rfl, by kernel_rfl, by kernel_rfl, by kernel_rfl, by kernel_rfl, by kernel_rfl, by kernel_rfl, by kernel_rfl, by kernel_rfl, by kernel_rfl, by kernel_rfl, by kernel_rfl, by kernel_rfl, by kernel_rfl, trivial⟩
def eqL : List (Nat × List Nat) := [(84, [0, 0, 0, 0, 0, 0])]
theorem eqL_ok : okL (eqOf Try.prog) eqL := ⟨by kernel_rfl, trivial⟩
def nlL : List (Nat × Nat) := [(34, 0), (3, 0), (4, 0), (5, 0), (84, 0), (133, 0), (128, 0), (141, 0), (143, 0)]
theorem nlL_ok : okN (nilOf Try.prog) nlL := ⟨by kernel_rfl, by kernel_rfl, by kernel_rfl, by kernel_rfl, by kernel_rfl, by kernel_rfl, by kernel_rfl, by kernel_rfl, by kernel_rfl, trivial⟩
noncomputable def ty : TT := ⟨lookT tyL (tiOf Try.prog), lookT eqL (eqOf Try.prog), lookN nlL (nilOf Try.prog)⟩
theorem ty_ok : ty = ttOf Try.prog := by
  unfold ty ttOf
  rw [lookT_eq tyL_ok, lookT_eq eqL_ok, lookN_eq nlL_ok]
def Wy (x : Int) : Prop := rng .u8 x
def W2iLyJ (x : Int × Int × List (Int)) : Prop := rng .i64 x.1 ∧ rng .i64 x.2.1 ∧ (List.length x.2.2 ≤ 9223372036854775807 ∧ ∀ y ∈ x.2.2, Wy y)
def Wi (x : Int) : Prop := rng .i64 x
theorem rdy : R.d Ey = (0 : Int) := rfl
theorem rd2iLyJ : R.d E2iLyJ = ((0 : Int), (0 : Int), ([] : List (Int))) := rfl
theorem rdi : R.d Ei = (0 : Int) := rfl
theorem rd6i : R.d E6i = ((0 : Int), (0 : Int), (0 : Int), (0 : Int), (0 : Int), (0 : Int)) := rfl
theorem rdLiJ : R.d ELiJ = ([] : List (Int)) := rfl
theorem env : Env A R Try.prog ty fl := ⟨R_ok, ty_ok, fl_ok, by kernel_rfl⟩

abbrev tZ (a : Nat) : Operand := .tmp a
abbrev ciZ (k : Int) : Operand := .const (.int .i64 k)
abbrev mvZ (d a : Nat) : SO := ⟨some d, .move (.tmp a), none⟩
abbrev ldZ (d t a : Nat) : SO := ⟨some d, .load t (.tmp a), none⟩
abbrev faZ (d t a i : Nat) : SO := ⟨some d, .fieldAddr t (.tmp a) i, none⟩
abbrev iaZ (d t a b : Nat) : SO := ⟨some d, .indexAddr t (.tmp a) (.tmp b), none⟩
abbrev asZ (d a : Nat) : SO := ⟨some d, .assign (.tmp a), none⟩
abbrev exZ (d a i : Nat) : SO := ⟨some d, .extract (.tmp a) i, none⟩
abbrev boZ (d : Nat) (o : BinOp) (t a b r : Nat) : SO := ⟨some d, .binOp o t (.tmp a) (.tmp b) r, none⟩
abbrev bcZ (d : Nat) (o : BinOp) (t a : Nat) (k : Int) (r : Nat) : SO := ⟨some d, .binOp o t (.tmp a) (.const (.int .i64 k)) r, none⟩
abbrev stZ (t a b : Nat) : SO := ⟨none, .store t (.tmp a) (.tmp b), none⟩
abbrev gZ (g : Nat) (b : Bool) (s : SO) : SO := ⟨s.dst, s.op, some (g, b)⟩
abbrev rZ (d : Nat) (o : Op) : SO := ⟨some d, o, none⟩

end Go.Proofs.Ytihminfnphichaa
namespace Go.Proofs.Ytihminfnphichaa
open Go Go.Lite
set_option linter.unusedVariables false

/-- printworks/press.Presets -/
def press_Presets_r0 : List SO := [rZ 6 (.assign (.const (.slice none 0 0))), rZ 7 (.assign (.const (.slice none 0 0))), rZ 8 (.assign (ciZ 0))]
def press_Presets_r1 : List SO := [mvZ 25 0, rZ 26 (.call ⟨(.builtin .len), #[(tZ 25)], #[28]⟩), bcZ 27 .gtr 3 26 8 3, asZ 24 27]
def press_Presets_r2 : List SO := [rZ 6 (.assign (.const (.slice none 0 0))), rZ 7 (.assign (.const (.slice none 0 0))), rZ 8 (.assign (ciZ 2))]
def press_Presets_r3 : List SO := [mvZ 29 0, rZ 30 (.call ⟨(.builtin .len), #[(tZ 29)], #[28]⟩), bcZ 31 .eql 3 30 0 3, asZ 28 31]
def press_Presets_r4 : List SO := [rZ 6 (.assign (.const (.slice none 0 0))), rZ 7 (.assign (.const (.slice none 0 0))), rZ 8 (.assign (ciZ 1))]
def press_Presets_r5 : List SO := [mvZ 32 0, rZ 33 (.call ⟨(.builtin .len), #[(tZ 32)], #[28]⟩), rZ 34 (.move (ciZ 0))]
def press_Presets_r6 : List SO := [boZ 35 .lss 3 34 33 3]
def press_Presets_r7 : List SO := [iaZ 36 28 32 34, ldZ 37 33 36, rZ 10 (.alloc 33), stZ 33 10 37]
def press_Presets_r8 : List SO := [ldZ 38 33 10, rZ 39 (.call ⟨(.value (.func (22 : Nat))), #[(tZ 38)], #[33]⟩), asZ 11 39]
def press_Presets_r9 : List SO := [mvZ 40 11, bcZ 41 .neq 34 40 0 34]
def press_Presets_r10 : List SO := [mvZ 42 11, rZ 6 (.assign (.const (.slice none 0 0))), rZ 7 (.assign (.const (.slice none 0 0))), asZ 8 42]
def press_Presets_r11 : List SO := [bcZ 43 .add 3 34 1 3, mvZ 34 43]
def press_Presets_r12 : List SO := [mvZ 44 1, bcZ 45 .lss 3 44 1 3, mvZ 46 45, gZ 46 false (mvZ 47 1), gZ 46 false (bcZ 48 .gtr 3 47 16 3), rZ 49 (.pick (tZ 46) (.const (.bool true)) (tZ 48))]
def press_Presets_r13 : List SO := [rZ 6 (.assign (.const (.slice none 0 0))), rZ 7 (.assign (.const (.slice none 0 0))), rZ 8 (.assign (ciZ 3))]
def press_Presets_r14 : List SO := [mvZ 50 2, rZ 51 (.call ⟨(.builtin .len), #[(tZ 50)], #[25]⟩), mvZ 52 0, rZ 53 (.call ⟨(.builtin .len), #[(tZ 52)], #[28]⟩), boZ 54 .neq 3 51 53 3]
def press_Presets_r15 : List SO := [rZ 6 (.assign (.const (.slice none 0 0))), rZ 7 (.assign (.const (.slice none 0 0))), rZ 8 (.assign (ciZ 4))]
def press_Presets_r16 : List SO := [mvZ 55 2, rZ 56 (.call ⟨(.builtin .len), #[(tZ 55)], #[25]⟩), rZ 57 (.move (ciZ 0))]
def press_Presets_r17 : List SO := [boZ 58 .lss 3 57 56 3]
def press_Presets_r18 : List SO := [iaZ 59 25 55 57, ldZ 60 3 59, asZ 13 60]
def press_Presets_r19 : List SO := [mvZ 61 13, bcZ 62 .lss 3 61 0 3, mvZ 63 62, gZ 63 false (mvZ 64 13), gZ 63 false (bcZ 65 .gtr 3 64 24000 3), rZ 66 (.pick (tZ 63) (.const (.bool true)) (tZ 65))]
def press_Presets_r20 : List SO := [rZ 6 (.assign (.const (.slice none 0 0))), rZ 7 (.assign (.const (.slice none 0 0))), rZ 8 (.assign (ciZ 3))]
def press_Presets_r21 : List SO := [bcZ 67 .add 3 57 1 3, mvZ 57 67]
def press_Presets_r22 : List SO := [mvZ 68 0, rZ 69 (.call ⟨(.builtin .len), #[(tZ 68)], #[28]⟩), rZ 70 (.move (ciZ 0))]
def press_Presets_r23 : List SO := [boZ 71 .lss 3 70 69 3]
def press_Presets_r24 : List SO := [mvZ 72 70, asZ 14 72]
def press_Presets_r25 : List SO := [mvZ 73 0, mvZ 74 14, iaZ 75 28 73 74, faZ 76 33 75 0, ldZ 77 3 76, mvZ 78 1, boZ 79 .lss 3 77 78 3]
def press_Presets_r26 : List SO := [rZ 6 (.assign (.const (.slice none 0 0))), rZ 7 (.assign (.const (.slice none 0 0))), rZ 8 (.assign (ciZ 19))]
def press_Presets_r27 : List SO := [rZ 15 (.assign (.const (.slice none 0 0))), rZ 16 (.assign (.const (.slice none 0 0)))]
def press_Presets_r28 : List SO := [mvZ 80 1, rZ 81 (.move (ciZ 0))]
def press_Presets_r29 : List SO := [boZ 82 .lss 3 81 80 3]
def press_Presets_r30 : List SO := [mvZ 83 81, asZ 17 83]
def press_Presets_r31 : List SO := [mvZ 84 17, mvZ 85 0, mvZ 86 14, iaZ 87 28 85 86, faZ 88 33 87 0, ldZ 89 3 88, boZ 90 .mul 3 84 89 3, mvZ 91 1, boZ 92 .quo 3 90 91 3, mvZ 93 17, bcZ 94 .add 3 93 1 3, mvZ 95 0, mvZ 96 14, iaZ 97 28 95 96, faZ 98 33 97 0, ldZ 99 3 98, boZ 100 .mul 3 94 99 3, mvZ 101 1, boZ 102 .quo 3 100 101 3, asZ 18 92, asZ 19 102]
def press_Presets_a31 : List (List Nat) := [[], [], [], [1, 2], [3], [4], [0, 5], [], [6, 7], [], [9], [], [], [11, 12], [13], [14], [10, 15], [], [16, 17], [8, 0, 1, 2, 3, 4, 5, 6, 7, 8], [18, 19, 0, 1, 2, 3, 4, 5, 6, 7, 8, 9, 10, 11, 12, 13, 14, 15, 16, 17, 18, 19]]
def press_Presets_r32 : List SO := [rZ 20 (.assign (ciZ 0))]
def press_Presets_r33 : List SO := [mvZ 103 0, mvZ 104 14, iaZ 105 28 103 104, faZ 106 33 105 1, ldZ 107 3 106, rZ 108 (.move (ciZ 0))]
def press_Presets_r34 : List SO := [boZ 109 .lss 3 108 107 3]
def press_Presets_r35 : List SO := [mvZ 110 108, asZ 21 110]
def press_Presets_r36 : List SO := [mvZ 111 18, asZ 22 111]
def press_Presets_r37 : List SO := [mvZ 112 22, mvZ 113 19, boZ 114 .lss 3 112 113 3]
def press_Presets_r38 : List SO := [mvZ 117 0, mvZ 118 14, iaZ 119 28 117 118, mvZ 120 22, mvZ 121 21, rZ 122 (.call ⟨(.value (.func (23 : Nat))), #[(tZ 119), (tZ 120), (tZ 121)], #[77, 3, 3]⟩)]
def press_Presets_r39 : List SO := [mvZ 123 20, bcZ 124 .add 3 123 1 3, asZ 20 124]
def press_Presets_r40 : List SO := [mvZ 115 22, bcZ 116 .add 3 115 1 3, asZ 22 116]
def press_Presets_r41 : List SO := [bcZ 125 .add 3 108 1 3, mvZ 108 125]
def press_Presets_r42 : List SO := [mvZ 126 20, rZ 127 (.binOp .mul 3 (ciZ 8) (tZ 126) 3), mvZ 128 19, mvZ 129 18, boZ 130 .sub 3 128 129 3, mvZ 131 0, mvZ 132 14, iaZ 133 28 131 132, faZ 134 33 133 1, ldZ 135 3 134, boZ 136 .mul 3 130 135 3, rZ 137 (.call ⟨(.value (.func (24 : Nat))), #[(tZ 127), (tZ 136)], #[3, 3]⟩), asZ 23 137]
def press_Presets_r43 : List SO := [mvZ 138 15, mvZ 139 23, rZ 140 (.buildSlice 25 1 #[(0, (tZ 139))]), rZ 141 (.call ⟨(.builtin .append), #[(tZ 138), (tZ 140)], #[25, 25]⟩), asZ 15 141]
def press_Presets_r44 : List SO := [mvZ 142 16, mvZ 143 2, mvZ 144 14, iaZ 145 25 143 144, ldZ 146 3 145, mvZ 147 23, rZ 148 (.binOp .add 3 (ciZ 8) (tZ 147) 3), boZ 149 .mul 3 146 148 3, rZ 150 (.call ⟨(.value (.func (24 : Nat))), #[(tZ 149), (ciZ 128)], #[3, 3]⟩), rZ 151 (.call ⟨(.builtin .min), #[(ciZ 1000), (tZ 150)], #[3, 3]⟩), rZ 152 (.buildSlice 25 1 #[(0, (tZ 151))]), rZ 153 (.call ⟨(.builtin .append), #[(tZ 142), (tZ 152)], #[25, 25]⟩), asZ 16 153]
def press_Presets_r45 : List SO := [bcZ 154 .add 3 81 1 3, mvZ 81 154]
def press_Presets_r46 : List SO := [mvZ 155 6, mvZ 156 15, rZ 157 (.buildSlice 37 1 #[(0, (tZ 156))]), rZ 158 (.call ⟨(.builtin .append), #[(tZ 155), (tZ 157)], #[37, 37]⟩), mvZ 159 7, mvZ 160 16, rZ 161 (.buildSlice 37 1 #[(0, (tZ 160))]), rZ 162 (.call ⟨(.builtin .append), #[(tZ 159), (tZ 161)], #[37, 37]⟩), asZ 6 158, asZ 7 162]
def press_Presets_r47 : List SO := [bcZ 163 .add 3 70 1 3, mvZ 70 163]
def press_Presets_r48 : List SO := [mvZ 164 6, mvZ 165 7, asZ 6 164, asZ 7 165, rZ 8 (.assign (ciZ 0))]
def press_Presets_c : SF := ⟨166, (.seq (.reg press_Presets_r0)
  (.seq (.block 0 (.seq (.reg press_Presets_r1)
  (.cond (tZ 24) (.seq (.reg press_Presets_r2)
  .ret) (.seq (.reg press_Presets_r3)
  (.cond (tZ 28) (.seq (.reg press_Presets_r4)
  .ret) .skip)))))
  (.seq (.seq (.reg press_Presets_r5)
  (.block 1 (.loop (.seq (.reg press_Presets_r6)
  (.seq (.cond (tZ 35) .skip (.exit 1))
  (.seq (.block 2 (.seq (.reg press_Presets_r7)
  (.seq (.reg press_Presets_r8)
  (.seq (.reg press_Presets_r9)
  (.cond (tZ 41) (.seq (.reg press_Presets_r10)
  .ret) .skip)))))
  (.reg press_Presets_r11)))))))
  (.seq (.seq (.reg press_Presets_r12)
  (.cond (tZ 49) (.seq (.reg press_Presets_r13)
  .ret) .skip))
  (.seq (.seq (.reg press_Presets_r14)
  (.cond (tZ 54) (.seq (.reg press_Presets_r15)
  .ret) .skip))
  (.seq (.seq (.reg press_Presets_r16)
  (.block 3 (.loop (.seq (.reg press_Presets_r17)
  (.seq (.cond (tZ 58) .skip (.exit 3))
  (.seq (.block 4 (.seq (.reg press_Presets_r18)
  (.seq (.reg press_Presets_r19)
  (.cond (tZ 66) (.seq (.reg press_Presets_r20)
  .ret) .skip))))
  (.reg press_Presets_r21)))))))
  (.seq (.seq (.reg press_Presets_r22)
  (.block 5 (.loop (.seq (.reg press_Presets_r23)
  (.seq (.cond (tZ 71) .skip (.exit 5))
  (.seq (.block 6 (.seq (.reg press_Presets_r24)
  (.seq (.seq (.reg press_Presets_r25)
  (.cond (tZ 79) (.seq (.reg press_Presets_r26)
  .ret) .skip))
  (.seq (.reg press_Presets_r27)
  (.seq (.seq (.reg press_Presets_r28)
  (.block 7 (.loop (.seq (.reg press_Presets_r29)
  (.seq (.cond (tZ 82) .skip (.exit 7))
  (.seq (.block 8 (.seq (.reg press_Presets_r30)
  (.seq (.regd press_Presets_r31 press_Presets_a31)
  (.seq (.reg press_Presets_r32)
  (.seq (.seq (.reg press_Presets_r33)
  (.block 9 (.loop (.seq (.reg press_Presets_r34)
  (.seq (.cond (tZ 109) .skip (.exit 9))
  (.seq (.block 10 (.seq (.reg press_Presets_r35)
  (.seq (.reg press_Presets_r36)
  (.block 11 (.loop (.seq (.seq (.reg press_Presets_r37)
  (.cond (tZ 114) .skip (.exit 11)))
  (.seq (.block 12 (.seq (.reg press_Presets_r38)
  (.cond (tZ 122) (.reg press_Presets_r39) .skip)))
  (.reg press_Presets_r40))))))))
  (.reg press_Presets_r41)))))))
  (.seq (.reg press_Presets_r42)
  (.seq (.reg press_Presets_r43)
  (.reg press_Presets_r44))))))))
  (.reg press_Presets_r45)))))))
  (.reg press_Presets_r46))))))
  (.reg press_Presets_r47)))))))
  (.seq (.reg press_Presets_r48)
  .ret)))))))), [.tmp 6, .tmp 7, .tmp 8]⟩
theorem press_Presets_s : slimF Try.prog 8 = some press_Presets_c := by kernel_rfl
abbrev press_Presets_f : Nat := 8
/-- printworks/press.Run -/
def press_Run_r0 : List SO := [rZ 3 (.box 44 (tZ 0)), rZ 6 (.assign (.const (.slice none 0 0))), rZ 7 (.assign (ciZ 0))]
def press_Run_r1 : List SO := [ldZ 17 44 3, rZ 18 (.call ⟨(.value (.func (25 : Nat))), #[(tZ 17)], #[44]⟩), mvZ 16 18, exZ 19 16 0, exZ 20 16 1, asZ 8 19, asZ 9 20]
def press_Run_r2 : List SO := [mvZ 21 9, bcZ 22 .neq 34 21 0 34]
def press_Run_r3 : List SO := [mvZ 23 9, rZ 6 (.assign (.const (.slice none 0 0))), asZ 7 23]
def press_Run_r4 : List SO := [mvZ 24 1, faZ 25 44 3 4, ldZ 26 25 25, rZ 27 (.call ⟨(.builtin .len), #[(tZ 26)], #[25]⟩), faZ 28 44 3 0, ldZ 29 3 28, rZ 30 (.call ⟨(.value (.func (26 : Nat))), #[(tZ 24), (tZ 27), (tZ 29)], #[78, 3, 3]⟩), asZ 10 30]
def press_Run_r5 : List SO := [mvZ 31 10, bcZ 32 .neq 34 31 0 34]
def press_Run_r6 : List SO := [mvZ 33 10, rZ 6 (.assign (.const (.slice none 0 0))), asZ 7 33]
def press_Run_r7 : List SO := [mvZ 34 2, bcZ 35 .lss 3 34 0 3, mvZ 36 35, gZ 36 false (mvZ 37 2), gZ 36 false (bcZ 38 .gtr 3 37 4000 3), rZ 39 (.pick (tZ 36) (.const (.bool true)) (tZ 38))]
def press_Run_r8 : List SO := [rZ 6 (.assign (.const (.slice none 0 0))), rZ 7 (.assign (ciZ 3))]
def press_Run_r9 : List SO := [rZ 11 (.assign (.const (.slice none 0 0)))]
def press_Run_r10 : List SO := [rZ 12 (.assign (ciZ 1))]
def press_Run_r11 : List SO := [mvZ 40 12, mvZ 41 2, boZ 42 .leq 3 40 41 3]
def press_Run_r12 : List SO := [mvZ 45 1, rZ 46 (.call ⟨(.builtin .len), #[(tZ 45)], #[78]⟩), bcZ 47 .gtr 3 46 0 3, mvZ 48 47, gZ 48 true (mvZ 49 1), gZ 48 true (rZ 50 (.indexAddr 78 (tZ 49) (ciZ 0))), gZ 48 true (faZ 51 84 50 0), gZ 48 true (ldZ 52 3 51), gZ 48 true (mvZ 53 12), gZ 48 true (boZ 54 .eql 3 52 53 3), rZ 55 (.pick (tZ 48) (tZ 54) (.const (.bool false)))]
def press_Run_r13 : List SO := [mvZ 56 8, mvZ 57 1, rZ 58 (.indexAddr 78 (tZ 57) (ciZ 0)), ldZ 59 84 58, rZ 60 (.call ⟨(.value (.func (27 : Nat))), #[(tZ 56), (tZ 59)], #[79, 84]⟩), asZ 13 60]
def press_Run_r14 : List SO := [mvZ 61 13, bcZ 62 .neq 34 61 0 34]
def press_Run_r15 : List SO := [mvZ 63 13, rZ 6 (.assign (.const (.slice none 0 0))), asZ 7 63]
def press_Run_r16 : List SO := [mvZ 64 1, rZ 65 (.slice 78 (tZ 64) (some (ciZ 1)) none none), asZ 1 65]
def press_Run_r17 : List SO := [mvZ 67 8, rZ 68 (.call ⟨(.value (.func (28 : Nat))), #[(tZ 67)], #[79]⟩), mvZ 66 68, exZ 69 66 0, exZ 70 66 1, rZ 14 (.alloc 49), stZ 49 14 69, asZ 15 70]
def press_Run_r18 : List SO := [mvZ 71 15, bcZ 72 .neq 34 71 0 34]
def press_Run_r19 : List SO := [mvZ 73 15, rZ 6 (.assign (.const (.slice none 0 0))), asZ 7 73]
def press_Run_r20 : List SO := [mvZ 74 11, ldZ 75 49 14, rZ 76 (.buildSlice 40 1 #[(0, (tZ 75))]), rZ 77 (.call ⟨(.builtin .append), #[(tZ 74), (tZ 76)], #[40, 40]⟩), asZ 11 77]
def press_Run_r21 : List SO := [mvZ 43 12, bcZ 44 .add 3 43 1 3, asZ 12 44]
def press_Run_r22 : List SO := [mvZ 78 11, asZ 6 78, rZ 7 (.assign (ciZ 0))]
def press_Run_c : SF := ⟨79, (.seq (.reg press_Run_r0)
  (.seq (.reg press_Run_r1)
  (.seq (.seq (.reg press_Run_r2)
  (.cond (tZ 22) (.seq (.reg press_Run_r3)
  .ret) .skip))
  (.seq (.seq (.reg press_Run_r4)
  (.seq (.reg press_Run_r5)
  (.cond (tZ 32) (.seq (.reg press_Run_r6)
  .ret) .skip)))
  (.seq (.seq (.reg press_Run_r7)
  (.cond (tZ 39) (.seq (.reg press_Run_r8)
  .ret) .skip))
  (.seq (.reg press_Run_r9)
  (.seq (.seq (.reg press_Run_r10)
  (.block 0 (.loop (.seq (.seq (.reg press_Run_r11)
  (.cond (tZ 42) .skip (.exit 0)))
  (.seq (.block 1 (.seq (.block 2 (.loop (.seq (.seq (.reg press_Run_r12)
  (.cond (tZ 55) .skip (.exit 2)))
  (.block 3 (.seq (.seq (.reg press_Run_r13)
  (.seq (.reg press_Run_r14)
  (.cond (tZ 62) (.seq (.reg press_Run_r15)
  .ret) .skip)))
  (.reg press_Run_r16))))))
  (.seq (.reg press_Run_r17)
  (.seq (.seq (.reg press_Run_r18)
  (.cond (tZ 72) (.seq (.reg press_Run_r19)
  .ret) .skip))
  (.reg press_Run_r20)))))
  (.reg press_Run_r21))))))
  (.seq (.reg press_Run_r22)
  .ret)))))))), [.tmp 6, .tmp 7]⟩
theorem press_Run_s : slimF Try.prog 9 = some press_Run_c := by kernel_rfl
abbrev press_Run_f : Nat := 9
/-- printworks/press.Tally -/
def press_Tally_r0 : List SO := [rZ 2 (.assign (ciZ 0)), rZ 3 (.assign (ciZ 0)), rZ 4 (.assign (ciZ 0))]
def press_Tally_r1 : List SO := [mvZ 7 0, rZ 8 (.call ⟨(.builtin .len), #[(tZ 7)], #[40]⟩), rZ 9 (.move (ciZ 0))]
def press_Tally_r2 : List SO := [boZ 10 .lss 3 9 8 3]
def press_Tally_r3 : List SO := [iaZ 11 40 7 9, ldZ 12 49 11, rZ 6 (.alloc 49), stZ 49 6 12]
def press_Tally_r4 : List SO := [faZ 13 49 6 1, ldZ 14 3 13]
def press_Tally_r5 : List SO := [bcZ 16 .eql 3 14 0 3, asZ 15 16]
def press_Tally_r6 : List SO := [mvZ 17 2, bcZ 18 .add 3 17 1 3, asZ 2 18]
def press_Tally_r7 : List SO := [bcZ 20 .eql 3 14 1 3, asZ 19 20]
def press_Tally_r8 : List SO := [mvZ 21 3, bcZ 22 .add 3 21 1 3, asZ 3 22]
def press_Tally_r9 : List SO := [bcZ 24 .eql 3 14 2 3, asZ 23 24]
def press_Tally_r10 : List SO := [mvZ 25 4, bcZ 26 .add 3 25 1 3, asZ 4 26]
def press_Tally_r11 : List SO := [bcZ 27 .add 3 9 1 3, mvZ 9 27]
def press_Tally_r12 : List SO := [mvZ 28 2, mvZ 29 3, mvZ 30 4, asZ 2 28, asZ 3 29, asZ 4 30]
def press_Tally_c : SF := ⟨31, (.seq (.reg press_Tally_r0)
  (.seq (.seq (.reg press_Tally_r1)
  (.block 0 (.loop (.seq (.reg press_Tally_r2)
  (.seq (.cond (tZ 10) .skip (.exit 0))
  (.seq (.block 1 (.seq (.reg press_Tally_r3)
  (.seq (.reg press_Tally_r4)
  (.block 2 (.seq (.reg press_Tally_r5)
  (.cond (tZ 15) (.reg press_Tally_r6) (.seq (.reg press_Tally_r7)
  (.cond (tZ 19) (.reg press_Tally_r8) (.seq (.reg press_Tally_r9)
  (.cond (tZ 23) (.reg press_Tally_r10) .skip))))))))))
  (.reg press_Tally_r11)))))))
  (.seq (.reg press_Tally_r12)
  .ret))), [.tmp 2, .tmp 3, .tmp 4]⟩
theorem press_Tally_s : slimF Try.prog 10 = some press_Tally_c := by kernel_rfl
abbrev press_Tally_f : Nat := 10
/-- printworks/press.New -/
def press_New_r0 : List SO := [rZ 1 (.box 44 (tZ 0)), rZ 2 (.assign (.const (.pointer none))), rZ 3 (.assign (ciZ 0))]
def press_New_r1 : List SO := [ldZ 8 44 1, rZ 9 (.call ⟨(.value (.func (42 : Nat))), #[(tZ 8)], #[44]⟩), asZ 4 9]
def press_New_r2 : List SO := [mvZ 10 4, bcZ 11 .neq 34 10 0 34]
def press_New_r3 : List SO := [mvZ 12 4, rZ 2 (.assign (.const (.pointer none))), asZ 3 12]
def press_New_r4 : List SO := [ldZ 13 44 1, rZ 14 (.build 110 #[(1, (tZ 13))]), rZ 15 (.box 110 (tZ 14)), asZ 5 15]
def press_New_r5 : List SO := [mvZ 16 5, faZ 17 44 1 4, ldZ 18 25 17, rZ 19 (.call ⟨(.builtin .append), #[(.const (.slice none 0 0)), (tZ 18)], #[25, 25]⟩), rZ 20 (.nilCheck (tZ 16)), faZ 21 110 20 1, faZ 22 44 21 4, stZ 25 22 19]
def press_New_r6 : List SO := [mvZ 23 5, faZ 24 44 1 6, ldZ 25 37 24, rZ 26 (.call ⟨(.value (.func (43 : Nat))), #[(tZ 25)], #[37]⟩), rZ 27 (.nilCheck (tZ 23)), faZ 28 110 27 1, faZ 29 44 28 6, stZ 37 29 26]
def press_New_r7 : List SO := [faZ 30 44 1 5, ldZ 31 37 30, rZ 32 (.call ⟨(.value (.func (43 : Nat))), #[(tZ 31)], #[37]⟩), rZ 33 (.call ⟨(.builtin .len), #[(tZ 32)], #[37]⟩), rZ 34 (.move (ciZ 0))]
def press_New_r8 : List SO := [boZ 35 .lss 3 34 33 3]
def press_New_r9 : List SO := [iaZ 36 37 32 34, ldZ 37 25 36, asZ 7 37]
def press_New_r10 : List SO := [mvZ 38 5, mvZ 39 5, rZ 40 (.nilCheck (tZ 39)), faZ 41 110 40 2, ldZ 42 108 41, mvZ 43 7, faZ 44 44 1 0, ldZ 45 3 44, rZ 46 (.makeSlice 25 (tZ 45) (tZ 45)), rZ 47 (.build 113 #[(2, (ciZ 8)), (3, (tZ 43)), (4, (tZ 46))]), rZ 48 (.buildSlice 108 1 #[(0, (tZ 47))]), rZ 49 (.call ⟨(.builtin .append), #[(tZ 42), (tZ 48)], #[108, 108]⟩), rZ 50 (.nilCheck (tZ 38)), faZ 51 110 50 2, stZ 108 51 49]
def press_New_a10 : List (List Nat) := [[], [], [1], [2], [3], [], [], [6], [7, 7], [5, 8], [9], [4, 10], [0, 0, 1, 2, 3, 4, 5, 6, 7, 8, 9, 10, 11], [12, 0, 1, 2, 3, 4, 5, 6, 7, 8, 9, 10, 11], [13, 11, 11, 0, 1, 2, 3, 4, 5, 6, 7, 8, 9, 10, 11]]
def press_New_r11 : List SO := [bcZ 52 .add 3 34 1 3, mvZ 34 52]
def press_New_r12 : List SO := [mvZ 53 5, asZ 2 53, rZ 3 (.assign (ciZ 0))]
def press_New_c : SF := ⟨54, (.seq (.reg press_New_r0)
  (.seq (.seq (.reg press_New_r1)
  (.seq (.reg press_New_r2)
  (.cond (tZ 11) (.seq (.reg press_New_r3)
  .ret) .skip)))
  (.seq (.reg press_New_r4)
  (.seq (.reg press_New_r5)
  (.seq (.reg press_New_r6)
  (.seq (.seq (.reg press_New_r7)
  (.block 0 (.loop (.seq (.reg press_New_r8)
  (.seq (.cond (tZ 35) .skip (.exit 0))
  (.seq (.block 1 (.seq (.reg press_New_r9)
  (.regd press_New_r10 press_New_a10)))
  (.reg press_New_r11)))))))
  (.seq (.reg press_New_r12)
  .ret))))))), [.tmp 2, .tmp 3]⟩
theorem press_New_s : slimF Try.prog 25 = some press_New_c := by kernel_rfl
abbrev press_New_f : Nat := 25
/-- printworks/press.CheckScript -/
def press_CheckScript_r0 : List SO := [rZ 6 (.assign (ciZ 0))]
def press_CheckScript_r1 : List SO := [mvZ 10 0, rZ 11 (.call ⟨(.builtin .len), #[(tZ 10)], #[78]⟩), bcZ 12 .gtr 3 11 200 3]
def press_CheckScript_r2 : List SO := [rZ 6 (.assign (ciZ 2))]
def press_CheckScript_r3 : List SO := [mvZ 13 0, rZ 14 (.call ⟨(.builtin .len), #[(tZ 13)], #[78]⟩), rZ 15 (.move (ciZ 0))]
def press_CheckScript_r4 : List SO := [boZ 16 .lss 3 15 14 3]
def press_CheckScript_r5 : List SO := [mvZ 17 15, iaZ 18 78 13 15, ldZ 19 84 18, rZ 8 (.alloc 84), asZ 7 17, stZ 84 8 19]
def press_CheckScript_r6 : List SO := [ldZ 20 84 8, mvZ 21 1, mvZ 22 2, rZ 23 (.call ⟨(.value (.func (44 : Nat))), #[(tZ 20), (tZ 21), (tZ 22)], #[84, 3, 3]⟩), asZ 9 23]
def press_CheckScript_r7 : List SO := [mvZ 24 9, bcZ 25 .neq 34 24 0 34]
def press_CheckScript_r8 : List SO := [mvZ 26 9, asZ 6 26]
def press_CheckScript_r9 : List SO := [mvZ 27 7, bcZ 28 .gtr 3 27 0 3, mvZ 29 28, gZ 29 true (faZ 30 84 8 0), gZ 29 true (ldZ 31 3 30), gZ 29 true (mvZ 32 0), gZ 29 true (mvZ 33 7), gZ 29 true (bcZ 34 .sub 3 33 1 3), gZ 29 true (iaZ 35 78 32 34), gZ 29 true (faZ 36 84 35 0), gZ 29 true (ldZ 37 3 36), gZ 29 true (boZ 38 .lss 3 31 37 3), rZ 39 (.pick (tZ 29) (tZ 38) (.const (.bool false)))]
def press_CheckScript_a9 : List (List Nat) := [[], [0], [1], [2], [3, 2], [2], [2], [6, 2], [5, 7, 2], [8, 2], [9, 2], [4, 10, 2], [2, 11]]
def press_CheckScript_r10 : List SO := [rZ 6 (.assign (ciZ 18))]
def press_CheckScript_r11 : List SO := [bcZ 40 .add 3 15 1 3, mvZ 15 40]
def press_CheckScript_r12 : List SO := [rZ 6 (.assign (ciZ 0))]
def press_CheckScript_c : SF := ⟨41, (.seq (.reg press_CheckScript_r0)
  (.seq (.seq (.reg press_CheckScript_r1)
  (.cond (tZ 12) (.seq (.reg press_CheckScript_r2)
  .ret) .skip))
  (.seq (.seq (.reg press_CheckScript_r3)
  (.block 0 (.loop (.seq (.reg press_CheckScript_r4)
  (.seq (.cond (tZ 16) .skip (.exit 0))
  (.seq (.block 1 (.seq (.reg press_CheckScript_r5)
  (.seq (.seq (.reg press_CheckScript_r6)
  (.seq (.reg press_CheckScript_r7)
  (.cond (tZ 25) (.seq (.reg press_CheckScript_r8)
  .ret) .skip)))
  (.seq (.regd press_CheckScript_r9 press_CheckScript_a9)
  (.cond (tZ 39) (.seq (.reg press_CheckScript_r10)
  .ret) .skip)))))
  (.reg press_CheckScript_r11)))))))
  (.seq (.reg press_CheckScript_r12)
  .ret)))), [.tmp 6]⟩
theorem press_CheckScript_s : slimF Try.prog 26 = some press_CheckScript_c := by kernel_rfl
abbrev press_CheckScript_f : Nat := 26
/-- (*printworks/press.Press).Event -/
def __press_Press__Event_r0 : List SO := [rZ 3 (.box 84 (tZ 1)), rZ 4 (.assign (ciZ 0))]
def __press_Press__Event_r1 : List SO := [ldZ 9 84 3, mvZ 10 0, rZ 11 (.nilCheck (tZ 10)), faZ 12 110 11 2, ldZ 13 108 12, rZ 14 (.call ⟨(.builtin .len), #[(tZ 13)], #[108]⟩), mvZ 15 0, rZ 16 (.nilCheck (tZ 15)), faZ 17 110 16 1, faZ 18 44 17 0, ldZ 19 3 18, rZ 20 (.call ⟨(.value (.func (44 : Nat))), #[(tZ 9), (tZ 14), (tZ 19)], #[84, 3, 3]⟩), asZ 5 20]
def __press_Press__Event_a1 : List (List Nat) := [[], [], [1], [2], [3], [4], [], [6], [7], [8], [9], [0, 5, 10], [11, 11, 0, 1, 2, 3, 4, 5, 6, 7, 8, 9, 10, 11]]
def __press_Press__Event_r2 : List SO := [mvZ 21 5, bcZ 22 .neq 34 21 0 34]
def __press_Press__Event_r3 : List SO := [mvZ 23 5, asZ 4 23]
def __press_Press__Event_r4 : List SO := [faZ 24 84 3 0, ldZ 25 3 24, mvZ 26 0, rZ 27 (.nilCheck (tZ 26)), faZ 28 110 27 0, faZ 29 107 28 0, ldZ 30 3 29, bcZ 31 .add 3 30 1 3, boZ 32 .neq 3 25 31 3]
def __press_Press__Event_a4 : List (List Nat) := [[], [0], [], [2], [3], [4], [5], [6], [1, 7]]
def __press_Press__Event_r5 : List SO := [rZ 4 (.assign (ciZ 18))]
def __press_Press__Event_r6 : List SO := [mvZ 33 0, rZ 34 (.nilCheck (tZ 33)), faZ 35 110 34 2, ldZ 36 108 35, faZ 37 84 3 2, ldZ 38 3 37, iaZ 39 108 36 38, asZ 6 39]
def __press_Press__Event_a6 : List (List Nat) := [[], [0], [1], [2], [], [4], [3, 5], [6, 0, 1, 2, 3, 4, 5, 6]]
def __press_Press__Event_r7 : List SO := [faZ 40 84 3 1, ldZ 41 3 40]
def __press_Press__Event_r8 : List SO := [bcZ 43 .eql 3 41 0 3, asZ 42 43]
def __press_Press__Event_r9 : List SO := [mvZ 44 6, faZ 45 84 3 4, ldZ 46 3 45, faZ 47 84 3 5, ldZ 48 3 47, rZ 49 (.build 59 #[(0, (tZ 46)), (1, (tZ 48))]), rZ 50 (.nilCheck (tZ 44)), faZ 51 113 50 1, stZ 59 51 49]
def __press_Press__Event_r10 : List SO := [bcZ 53 .eql 3 41 1 3, asZ 52 53]
def __press_Press__Event_r11 : List SO := [mvZ 54 6, rZ 55 (.nilCheck (tZ 54)), faZ 56 113 55 3, ldZ 57 25 56, faZ 58 84 3 3, ldZ 59 3 58, faZ 60 84 3 4, ldZ 61 3 60, iaZ 62 25 57 59, stZ 3 62 61]
def __press_Press__Event_a11 : List (List Nat) := [[], [0], [1], [2], [], [4], [], [6], [3, 5, 0, 1, 2, 3, 4, 5, 6, 7], [8, 7, 0, 1, 2, 3, 4, 5, 6, 7]]
def __press_Press__Event_r12 : List SO := [bcZ 64 .eql 3 41 2 3, asZ 63 64]
def __press_Press__Event_r13 : List SO := [mvZ 65 6, faZ 66 84 3 4, ldZ 67 3 66, rZ 68 (.nilCheck (tZ 65)), faZ 69 113 68 2, stZ 3 69 67]
def __press_Press__Event_r14 : List SO := [bcZ 71 .eql 3 41 3 3, asZ 70 71]
def __press_Press__Event_r15 : List SO := [mvZ 72 0, mvZ 73 0, rZ 74 (.nilCheck (tZ 73)), faZ 75 110 74 0, faZ 76 107 75 2, ldZ 77 3 76, faZ 78 84 3 4, ldZ 79 3 78, rZ 80 (.call ⟨(.builtin .max), #[(tZ 77), (tZ 79)], #[3, 3]⟩), rZ 81 (.nilCheck (tZ 72)), faZ 82 110 81 0, faZ 83 107 82 2, stZ 3 83 80]
def __press_Press__Event_a15 : List (List Nat) := [[], [], [1], [2], [3], [4], [], [6], [5, 7], [0, 0, 1, 2, 3, 4, 5, 6, 7, 8], [9, 0, 1, 2, 3, 4, 5, 6, 7, 8], [10, 0, 1, 2, 3, 4, 5, 6, 7, 8], [11, 8, 0, 1, 2, 3, 4, 5, 6, 7, 8]]
def __press_Press__Event_r16 : List SO := [bcZ 85 .eql 3 41 4 3, asZ 84 85]
def __press_Press__Event_r17 : List SO := [mvZ 86 6, faZ 87 84 3 4, ldZ 88 3 87, faZ 89 84 3 5, ldZ 90 3 89, rZ 91 (.build 59 #[(0, (tZ 88)), (1, (tZ 90))]), rZ 92 (.call ⟨(.value (.func (45 : Nat))), #[(tZ 86), (tZ 91)], #[115, 59]⟩)]
def __press_Press__Event_r18 : List SO := [bcZ 94 .eql 3 41 5 3, asZ 93 94]
def __press_Press__Event_r19 : List SO := [mvZ 95 6, rZ 96 (.nilCheck (tZ 95)), faZ 97 113 96 4, ldZ 98 25 97, ⟨none, .call ⟨(.builtin .clear), #[(tZ 98)], #[25]⟩, none⟩]
def __press_Press__Event_r20 : List SO := [mvZ 99 0, rZ 100 (.nilCheck (tZ 99)), faZ 101 110 100 0, faZ 102 107 101 1, ⟨none, .store 3 (tZ 102) (ciZ 0), none⟩]
def __press_Press__Event_r21 : List SO := [bcZ 104 .eql 3 41 6 3, asZ 103 104]
def __press_Press__Event_r22 : List SO := [mvZ 105 0, rZ 106 (.nilCheck (tZ 105)), faZ 107 110 106 2, ldZ 108 108 107, rZ 109 (.call ⟨(.builtin .len), #[(tZ 108)], #[108]⟩), rZ 110 (.move (ciZ 0))]
def __press_Press__Event_r23 : List SO := [boZ 111 .lss 3 110 109 3]
def __press_Press__Event_r24 : List SO := [mvZ 112 110, asZ 7 112]
def __press_Press__Event_r25 : List SO := [mvZ 113 0, rZ 114 (.nilCheck (tZ 113)), faZ 115 110 114 2, ldZ 116 108 115, mvZ 117 7, iaZ 118 108 116 117, faZ 119 113 118 4, ldZ 120 25 119, rZ 121 (.call ⟨(.builtin .len), #[(tZ 120)], #[25]⟩), rZ 122 (.move (ciZ 0))]
def __press_Press__Event_r26 : List SO := [boZ 123 .lss 3 122 121 3]
def __press_Press__Event_r27 : List SO := [mvZ 124 122, asZ 8 124]
def __press_Press__Event_r28 : List SO := [mvZ 125 0, rZ 126 (.nilCheck (tZ 125)), faZ 127 110 126 2, ldZ 128 108 127, mvZ 129 7, iaZ 130 108 128 129, faZ 131 113 130 4, ldZ 132 25 131, mvZ 133 8, iaZ 134 25 132 133, ldZ 135 3 134, bcZ 136 .quo 3 135 2 3, iaZ 137 25 132 133, stZ 3 137 136]
def __press_Press__Event_r29 : List SO := [bcZ 138 .add 3 122 1 3, mvZ 122 138]
def __press_Press__Event_r30 : List SO := [bcZ 139 .add 3 110 1 3, mvZ 110 139]
def __press_Press__Event_r31 : List SO := [rZ 4 (.assign (ciZ 0))]
def __press_Press__Event_c : SF := ⟨140, (.seq (.reg __press_Press__Event_r0)
  (.seq (.seq (.regd __press_Press__Event_r1 __press_Press__Event_a1)
  (.seq (.reg __press_Press__Event_r2)
  (.cond (tZ 22) (.seq (.reg __press_Press__Event_r3)
  .ret) .skip)))
  (.seq (.seq (.regd __press_Press__Event_r4 __press_Press__Event_a4)
  (.cond (tZ 32) (.seq (.reg __press_Press__Event_r5)
  .ret) .skip))
  (.seq (.regd __press_Press__Event_r6 __press_Press__Event_a6)
  (.seq (.seq (.reg __press_Press__Event_r7)
  (.block 0 (.seq (.reg __press_Press__Event_r8)
  (.cond (tZ 42) (.reg __press_Press__Event_r9) (.seq (.reg __press_Press__Event_r10)
  (.cond (tZ 52) (.regd __press_Press__Event_r11 __press_Press__Event_a11) (.seq (.reg __press_Press__Event_r12)
  (.cond (tZ 63) (.reg __press_Press__Event_r13) (.seq (.reg __press_Press__Event_r14)
  (.cond (tZ 70) (.regd __press_Press__Event_r15 __press_Press__Event_a15) (.seq (.reg __press_Press__Event_r16)
  (.cond (tZ 84) (.reg __press_Press__Event_r17) (.seq (.reg __press_Press__Event_r18)
  (.cond (tZ 93) (.seq (.reg __press_Press__Event_r19)
  (.reg __press_Press__Event_r20)) (.seq (.reg __press_Press__Event_r21)
  (.cond (tZ 103) (.seq (.reg __press_Press__Event_r22)
  (.block 1 (.loop (.seq (.reg __press_Press__Event_r23)
  (.seq (.cond (tZ 111) .skip (.exit 1))
  (.seq (.block 2 (.seq (.reg __press_Press__Event_r24)
  (.seq (.reg __press_Press__Event_r25)
  (.block 3 (.loop (.seq (.reg __press_Press__Event_r26)
  (.seq (.cond (tZ 123) .skip (.exit 3))
  (.seq (.block 4 (.seq (.reg __press_Press__Event_r27)
  (.reg __press_Press__Event_r28)))
  (.reg __press_Press__Event_r29)))))))))
  (.reg __press_Press__Event_r30))))))) .skip))))))))))))))))
  (.seq (.reg __press_Press__Event_r31)
  .ret)))))), [.tmp 4]⟩
theorem __press_Press__Event_s : slimF Try.prog 27 = some __press_Press__Event_c := by kernel_rfl
abbrev __press_Press__Event_f : Nat := 27
/-- (*printworks/press.Press).Feed -/
def __press_Press__Feed_r0 : List SO := [rZ 2 (.alloc 49), rZ 3 (.assign (ciZ 0))]
def __press_Press__Feed_r1 : List SO := [mvZ 12 0, rZ 13 (.nilCheck (tZ 12)), faZ 14 110 13 0, faZ 15 107 14 0, ldZ 16 3 15, bcZ 17 .eql 3 16 4000 3]
def __press_Press__Feed_r2 : List SO := [rZ 18 (.build 49 #[]), stZ 49 2 18, rZ 3 (.assign (ciZ 16))]
def __press_Press__Feed_r3 : List SO := [mvZ 19 0, rZ 20 (.nilCheck (tZ 19)), faZ 21 110 20 0, faZ 22 107 21 0, ldZ 23 3 22, bcZ 24 .add 3 23 1 3, rZ 25 (.nilCheck (tZ 19)), faZ 26 110 25 0, faZ 27 107 26 0, stZ 3 27 24]
def __press_Press__Feed_r4 : List SO := [mvZ 28 0, rZ 29 (.nilCheck (tZ 28)), faZ 30 110 29 0, faZ 31 107 30 1, ldZ 32 3 31, bcZ 33 .add 3 32 1 3, rZ 34 (.nilCheck (tZ 28)), faZ 35 110 34 0, faZ 36 107 35 1, stZ 3 36 33]
def __press_Press__Feed_r5 : List SO := [mvZ 37 0, rZ 38 (.nilCheck (tZ 37)), faZ 39 110 38 0, faZ 40 107 39 0, ldZ 41 3 40, rZ 42 (.build 49 #[(0, (tZ 41)), (1, (ciZ 1))]), rZ 4 (.alloc 49), stZ 49 4 42]
def __press_Press__Feed_r6 : List SO := [mvZ 43 0, rZ 44 (.nilCheck (tZ 43)), faZ 45 110 44 1, faZ 46 44 45 0, ldZ 47 3 46, rZ 48 (.makeSlice 25 (tZ 47) (tZ 47)), asZ 5 48]
def __press_Press__Feed_r7 : List SO := [mvZ 49 0, rZ 50 (.nilCheck (tZ 49)), faZ 51 110 50 2, ldZ 52 108 51, rZ 53 (.call ⟨(.builtin .len), #[(tZ 52)], #[108]⟩), rZ 54 (.move (ciZ 0))]
def __press_Press__Feed_r8 : List SO := [boZ 55 .lss 3 54 53 3]
def __press_Press__Feed_r9 : List SO := [mvZ 56 54, asZ 6 56]
def __press_Press__Feed_r10 : List SO := [mvZ 57 0, rZ 58 (.nilCheck (tZ 57)), faZ 59 110 58 2, ldZ 60 108 59, mvZ 61 6, iaZ 62 108 60 61, asZ 7 62]
def __press_Press__Feed_r11 : List SO := [mvZ 63 7, mvZ 64 7, rZ 65 (.nilCheck (tZ 64)), faZ 66 113 65 1, ldZ 67 59 66, rZ 68 (.call ⟨(.value (.func (45 : Nat))), #[(tZ 63), (tZ 67)], #[115, 59]⟩)]
def __press_Press__Feed_r12 : List SO := [mvZ 69 7, rZ 70 (.nilCheck (tZ 69)), faZ 71 113 70 4, ldZ 72 25 71, rZ 73 (.call ⟨(.builtin .len), #[(tZ 72)], #[25]⟩), rZ 74 (.move (ciZ 0))]
def __press_Press__Feed_r13 : List SO := [boZ 75 .lss 3 74 73 3]
def __press_Press__Feed_r14 : List SO := [mvZ 76 74, asZ 8 76]
def __press_Press__Feed_r15 : List SO := [mvZ 77 7, mvZ 78 8, mvZ 79 0, rZ 80 (.nilCheck (tZ 79)), faZ 81 110 80 1, faZ 82 44 81 6, ldZ 83 37 82, mvZ 84 6, iaZ 85 37 83 84, ldZ 86 25 85, mvZ 87 8, iaZ 88 25 86 87, ldZ 89 3 88, rZ 90 (.call ⟨(.value (.func (46 : Nat))), #[(tZ 77), (tZ 78), (tZ 89)], #[115, 3, 3]⟩)]
def __press_Press__Feed_r16 : List SO := [mvZ 91 5, mvZ 92 8, iaZ 93 25 91 92, ldZ 94 3 93, mvZ 95 7, rZ 96 (.nilCheck (tZ 95)), faZ 97 113 96 4, ldZ 98 25 97, mvZ 99 8, iaZ 100 25 98 99, ldZ 101 3 100, boZ 102 .add 3 94 101 3, iaZ 103 25 91 92, stZ 3 103 102]
def __press_Press__Feed_a16 : List (List Nat) := [[], [], [0, 1], [2], [], [4], [5], [6], [], [7, 8], [9], [3, 10], [0, 1, 0, 1, 2, 3, 4, 5, 6, 7, 8, 9, 10, 11], [12, 11, 0, 1, 2, 3, 4, 5, 6, 7, 8, 9, 10, 11]]
def __press_Press__Feed_r17 : List SO := [bcZ 104 .add 3 74 1 3, mvZ 74 104]
def __press_Press__Feed_r18 : List SO := [faZ 105 49 4 2, ldZ 106 47 105, mvZ 107 7, rZ 108 (.nilCheck (tZ 107)), faZ 109 113 108 0, ldZ 110 59 109, rZ 111 (.buildSlice 47 1 #[(0, (tZ 110))]), rZ 112 (.call ⟨(.builtin .append), #[(tZ 106), (tZ 111)], #[47, 47]⟩), faZ 113 49 4 2, stZ 47 113 112]
def __press_Press__Feed_a18 : List (List Nat) := [[], [0], [], [2], [3], [4], [5], [1, 6], [0, 1, 2, 3, 4, 5, 6, 7], [8, 7, 7, 0, 1, 2, 3, 4, 5, 6, 7]]
def __press_Press__Feed_r19 : List SO := [faZ 114 49 4 3, ldZ 115 37 114, mvZ 116 7, rZ 117 (.nilCheck (tZ 116)), faZ 118 113 117 4, ldZ 119 25 118, rZ 120 (.call ⟨(.builtin .append), #[(.const (.slice none 0 0)), (tZ 119)], #[25, 25]⟩), rZ 121 (.buildSlice 37 1 #[(0, (tZ 120))]), rZ 122 (.call ⟨(.builtin .append), #[(tZ 115), (tZ 121)], #[37, 37]⟩), faZ 123 49 4 3, stZ 37 123 122]
def __press_Press__Feed_a19 : List (List Nat) := [[], [0], [], [2], [3], [4], [5], [6], [1, 7, 6], [0, 1, 2, 3, 4, 5, 6, 7, 8], [9, 8, 8, 0, 1, 2, 3, 4, 5, 6, 7, 8]]
def __press_Press__Feed_r20 : List SO := [bcZ 124 .add 3 54 1 3, mvZ 54 124]
def __press_Press__Feed_r21 : List SO := [rZ 9 (.assign (ciZ 0))]
def __press_Press__Feed_r22 : List SO := [mvZ 125 5, rZ 126 (.call ⟨(.builtin .len), #[(tZ 125)], #[25]⟩), rZ 127 (.move (ciZ 0))]
def __press_Press__Feed_r23 : List SO := [boZ 128 .lss 3 127 126 3]
def __press_Press__Feed_r24 : List SO := [iaZ 129 25 125 127, ldZ 130 3 129, asZ 11 130]
def __press_Press__Feed_r25 : List SO := [mvZ 131 9, mvZ 132 11, rZ 133 (.call ⟨(.builtin .max), #[(tZ 131), (tZ 132)], #[3, 3]⟩), asZ 9 133]
def __press_Press__Feed_r26 : List SO := [bcZ 134 .add 3 127 1 3, mvZ 127 134]
def __press_Press__Feed_r27 : List SO := [mvZ 135 0, rZ 136 (.nilCheck (tZ 135)), faZ 137 110 136 0, faZ 138 107 137 0, ldZ 139 3 138, bcZ 140 .add 3 139 50 3, mvZ 141 9, bcZ 142 .quo 3 141 500 3, boZ 143 .add 3 140 142 3, faZ 144 49 4 4, stZ 3 144 143]
def __press_Press__Feed_r28 : List SO := [mvZ 146 0, rZ 147 (.nilCheck (tZ 146)), faZ 148 110 147 0, faZ 149 107 148 2, ldZ 150 3 149, bcZ 151 .gtr 3 150 0 3, asZ 145 151]
def __press_Press__Feed_r29 : List SO := [mvZ 152 0, rZ 153 (.nilCheck (tZ 152)), faZ 154 110 153 0, faZ 155 107 154 2, ldZ 156 3 155, bcZ 157 .sub 3 156 1 3, rZ 158 (.nilCheck (tZ 152)), faZ 159 110 158 0, faZ 160 107 159 2, stZ 3 160 157]
def __press_Press__Feed_r30 : List SO := [faZ 161 49 4 1, ⟨none, .store 3 (tZ 161) (ciZ 2), none⟩]
def __press_Press__Feed_r31 : List SO := [mvZ 163 0, rZ 164 (.call ⟨(.value (.func (47 : Nat))), #[(tZ 163)], #[79]⟩), asZ 162 164]
def __press_Press__Feed_r32 : List SO := [faZ 165 49 4 1, ⟨none, .store 3 (tZ 165) (ciZ 0), none⟩]
def __press_Press__Feed_r33 : List SO := [ldZ 166 49 4, stZ 49 2 166, rZ 3 (.assign (ciZ 0))]
def __press_Press__Feed_c : SF := ⟨167, (.seq (.reg __press_Press__Feed_r0)
  (.seq (.seq (.reg __press_Press__Feed_r1)
  (.cond (tZ 17) (.seq (.reg __press_Press__Feed_r2)
  .ret) .skip))
  (.seq (.reg __press_Press__Feed_r3)
  (.seq (.reg __press_Press__Feed_r4)
  (.seq (.reg __press_Press__Feed_r5)
  (.seq (.reg __press_Press__Feed_r6)
  (.seq (.seq (.reg __press_Press__Feed_r7)
  (.block 0 (.loop (.seq (.reg __press_Press__Feed_r8)
  (.seq (.cond (tZ 55) .skip (.exit 0))
  (.seq (.block 1 (.seq (.reg __press_Press__Feed_r9)
  (.seq (.reg __press_Press__Feed_r10)
  (.seq (.reg __press_Press__Feed_r11)
  (.seq (.seq (.reg __press_Press__Feed_r12)
  (.block 2 (.loop (.seq (.reg __press_Press__Feed_r13)
  (.seq (.cond (tZ 75) .skip (.exit 2))
  (.seq (.block 3 (.seq (.reg __press_Press__Feed_r14)
  (.seq (.reg __press_Press__Feed_r15)
  (.regd __press_Press__Feed_r16 __press_Press__Feed_a16))))
  (.reg __press_Press__Feed_r17)))))))
  (.seq (.regd __press_Press__Feed_r18 __press_Press__Feed_a18)
  (.regd __press_Press__Feed_r19 __press_Press__Feed_a19)))))))
  (.reg __press_Press__Feed_r20)))))))
  (.seq (.reg __press_Press__Feed_r21)
  (.seq (.seq (.reg __press_Press__Feed_r22)
  (.block 4 (.loop (.seq (.reg __press_Press__Feed_r23)
  (.seq (.cond (tZ 128) .skip (.exit 4))
  (.seq (.block 5 (.seq (.reg __press_Press__Feed_r24)
  (.reg __press_Press__Feed_r25)))
  (.reg __press_Press__Feed_r26)))))))
  (.seq (.reg __press_Press__Feed_r27)
  (.seq (.block 6 (.seq (.reg __press_Press__Feed_r28)
  (.cond (tZ 145) (.seq (.reg __press_Press__Feed_r29)
  (.reg __press_Press__Feed_r30)) (.seq (.reg __press_Press__Feed_r31)
  (.cond (tZ 162) (.reg __press_Press__Feed_r32) .skip)))))
  (.seq (.reg __press_Press__Feed_r33)
  .ret)))))))))))), [.cell 2 49, .tmp 3]⟩
theorem __press_Press__Feed_s : slimF Try.prog 28 = some __press_Press__Feed_c := by kernel_rfl
abbrev __press_Press__Feed_f : Nat := 28
/-- printworks/press.Check -/
def press_Check_r0 : List SO := [rZ 1 (.box 44 (tZ 0)), rZ 2 (.assign (ciZ 0))]
def press_Check_r1 : List SO := [faZ 7 44 1 4, ldZ 8 25 7, rZ 9 (.call ⟨(.builtin .len), #[(tZ 8)], #[25]⟩), asZ 3 9]
def press_Check_r2 : List SO := [mvZ 11 3, bcZ 12 .gtr 3 11 8 3, asZ 10 12]
def press_Check_r3 : List SO := [rZ 2 (.assign (ciZ 2))]
def press_Check_r4 : List SO := [mvZ 14 3, bcZ 15 .eql 3 14 0 3, asZ 13 15]
def press_Check_r5 : List SO := [rZ 2 (.assign (ciZ 1))]
def press_Check_r6 : List SO := [faZ 16 44 1 0, ldZ 17 3 16, bcZ 18 .lss 3 17 1 3, mvZ 19 18, gZ 19 false (faZ 20 44 1 0), gZ 19 false (ldZ 21 3 20), gZ 19 false (bcZ 22 .gtr 3 21 16 3), rZ 23 (.pick (tZ 19) (.const (.bool true)) (tZ 22)), mvZ 24 23, gZ 24 false (faZ 25 44 1 1), gZ 24 false (ldZ 26 3 25), gZ 24 false (bcZ 27 .lss 3 26 0 3), rZ 28 (.pick (tZ 24) (.const (.bool true)) (tZ 27)), mvZ 29 28, gZ 29 false (faZ 30 44 1 1), gZ 29 false (ldZ 31 3 30), gZ 29 false (bcZ 32 .gtr 3 31 4000 3), rZ 33 (.pick (tZ 29) (.const (.bool true)) (tZ 32)), mvZ 34 33, gZ 34 false (faZ 35 44 1 2), gZ 34 false (ldZ 36 3 35), gZ 34 false (bcZ 37 .lss 3 36 0 3), rZ 38 (.pick (tZ 34) (.const (.bool true)) (tZ 37)), mvZ 39 38, gZ 39 false (faZ 40 44 1 2), gZ 39 false (ldZ 41 3 40), gZ 39 false (bcZ 42 .gtr 3 41 1000 3), rZ 43 (.pick (tZ 39) (.const (.bool true)) (tZ 42)), mvZ 44 43, gZ 44 false (faZ 45 44 1 3), gZ 44 false (ldZ 46 3 45), gZ 44 false (bcZ 47 .lss 3 46 0 3), rZ 48 (.pick (tZ 44) (.const (.bool true)) (tZ 47)), mvZ 49 48, gZ 49 false (faZ 50 44 1 3), gZ 49 false (ldZ 51 3 50), gZ 49 false (bcZ 52 .gtr 3 51 24000 3), rZ 53 (.pick (tZ 49) (.const (.bool true)) (tZ 52))]
def press_Check_r7 : List SO := [rZ 2 (.assign (ciZ 3))]
def press_Check_r8 : List SO := [faZ 54 44 1 4, ldZ 55 25 54, rZ 56 (.call ⟨(.builtin .len), #[(tZ 55)], #[25]⟩), rZ 57 (.move (ciZ 0))]
def press_Check_r9 : List SO := [boZ 58 .lss 3 57 56 3]
def press_Check_r10 : List SO := [iaZ 59 25 55 57, ldZ 60 3 59, asZ 5 60]
def press_Check_r11 : List SO := [mvZ 61 5, bcZ 62 .lss 3 61 0 3, mvZ 63 62, gZ 63 false (mvZ 64 5), gZ 63 false (bcZ 65 .gtr 3 64 24000 3), rZ 66 (.pick (tZ 63) (.const (.bool true)) (tZ 65))]
def press_Check_r12 : List SO := [rZ 2 (.assign (ciZ 3))]
def press_Check_r13 : List SO := [bcZ 67 .add 3 57 1 3, mvZ 57 67]
def press_Check_r14 : List SO := [faZ 68 44 1 5, ldZ 69 37 68, faZ 70 44 1 4, ldZ 71 25 70, rZ 72 (.call ⟨(.builtin .len), #[(tZ 71)], #[25]⟩), faZ 73 44 1 0, ldZ 74 3 73, rZ 75 (.call ⟨(.value (.func (58 : Nat))), #[(tZ 69), (tZ 72), (tZ 74), (ciZ 1000)], #[37, 3, 3, 3]⟩), asZ 6 75]
def press_Check_r15 : List SO := [mvZ 76 6, bcZ 77 .neq 34 76 0 34]
def press_Check_r16 : List SO := [mvZ 78 6, asZ 2 78]
def press_Check_r17 : List SO := [faZ 79 44 1 6, ldZ 80 37 79, faZ 81 44 1 4, ldZ 82 25 81, rZ 83 (.call ⟨(.builtin .len), #[(tZ 82)], #[25]⟩), faZ 84 44 1 0, ldZ 85 3 84, rZ 86 (.call ⟨(.value (.func (58 : Nat))), #[(tZ 80), (tZ 83), (tZ 85), (ciZ 8)], #[37, 3, 3, 3]⟩), asZ 2 86]
def press_Check_c : SF := ⟨87, (.seq (.reg press_Check_r0)
  (.seq (.seq (.reg press_Check_r1)
  (.block 0 (.seq (.reg press_Check_r2)
  (.cond (tZ 10) (.seq (.reg press_Check_r3)
  .ret) (.seq (.reg press_Check_r4)
  (.cond (tZ 13) (.seq (.reg press_Check_r5)
  .ret) .skip))))))
  (.seq (.seq (.reg press_Check_r6)
  (.cond (tZ 53) (.seq (.reg press_Check_r7)
  .ret) .skip))
  (.seq (.seq (.reg press_Check_r8)
  (.block 1 (.loop (.seq (.reg press_Check_r9)
  (.seq (.cond (tZ 58) .skip (.exit 1))
  (.seq (.block 2 (.seq (.reg press_Check_r10)
  (.seq (.reg press_Check_r11)
  (.cond (tZ 66) (.seq (.reg press_Check_r12)
  .ret) .skip))))
  (.reg press_Check_r13)))))))
  (.seq (.seq (.reg press_Check_r14)
  (.seq (.reg press_Check_r15)
  (.cond (tZ 77) (.seq (.reg press_Check_r16)
  .ret) .skip)))
  (.seq (.reg press_Check_r17)
  .ret)))))), [.tmp 2]⟩
theorem press_Check_s : slimF Try.prog 42 = some press_Check_c := by kernel_rfl
abbrev press_Check_f : Nat := 42
/-- printworks/press.copied -/
def press_copied_r0 : List SO := [rZ 2 (.assign (.const (.slice none 0 0)))]
def press_copied_r1 : List SO := [mvZ 5 0, rZ 6 (.call ⟨(.builtin .len), #[(tZ 5)], #[37]⟩), rZ 7 (.makeSlice 37 (tZ 6) (tZ 6)), asZ 3 7]
def press_copied_r2 : List SO := [mvZ 8 0, rZ 9 (.call ⟨(.builtin .len), #[(tZ 8)], #[37]⟩), rZ 10 (.move (ciZ 0))]
def press_copied_r3 : List SO := [boZ 11 .lss 3 10 9 3]
def press_copied_r4 : List SO := [mvZ 12 10, asZ 4 12]
def press_copied_r5 : List SO := [mvZ 13 3, mvZ 14 4, mvZ 15 0, mvZ 16 4, iaZ 17 37 15 16, ldZ 18 25 17, rZ 19 (.call ⟨(.builtin .append), #[(.const (.slice none 0 0)), (tZ 18)], #[25, 25]⟩), iaZ 20 37 13 14, stZ 25 20 19]
def press_copied_r6 : List SO := [bcZ 21 .add 3 10 1 3, mvZ 10 21]
def press_copied_r7 : List SO := [mvZ 22 3, asZ 2 22]
def press_copied_c : SF := ⟨23, (.seq (.reg press_copied_r0)
  (.seq (.reg press_copied_r1)
  (.seq (.seq (.reg press_copied_r2)
  (.block 0 (.loop (.seq (.reg press_copied_r3)
  (.seq (.cond (tZ 11) .skip (.exit 0))
  (.seq (.block 1 (.seq (.reg press_copied_r4)
  (.reg press_copied_r5)))
  (.reg press_copied_r6)))))))
  (.seq (.reg press_copied_r7)
  .ret)))), [.tmp 2]⟩
theorem press_copied_s : slimF Try.prog 43 = some press_copied_c := by kernel_rfl
abbrev press_copied_f : Nat := 43
/-- printworks/press.CheckEvent -/
def press_CheckEvent_r0 : List SO := [rZ 3 (.box 84 (tZ 0)), rZ 6 (.assign (ciZ 0))]
def press_CheckEvent_r1 : List SO := [faZ 10 84 3 0, ldZ 11 3 10, bcZ 12 .lss 3 11 1 3, mvZ 13 12, gZ 13 false (faZ 14 84 3 0), gZ 13 false (ldZ 15 3 14), gZ 13 false (bcZ 16 .gtr 3 15 4000 3), rZ 17 (.pick (tZ 13) (.const (.bool true)) (tZ 16)), mvZ 18 17, gZ 18 false (faZ 19 84 3 1), gZ 18 false (ldZ 20 3 19), gZ 18 false (bcZ 21 .lss 3 20 0 3), rZ 22 (.pick (tZ 18) (.const (.bool true)) (tZ 21)), mvZ 23 22, gZ 23 false (faZ 24 84 3 1), gZ 23 false (ldZ 25 3 24), gZ 23 false (bcZ 26 .gtr 3 25 6 3), rZ 27 (.pick (tZ 23) (.const (.bool true)) (tZ 26))]
def press_CheckEvent_r2 : List SO := [rZ 6 (.assign (ciZ 3))]
def press_CheckEvent_r3 : List SO := [faZ 28 84 3 0, ldZ 29 3 28, faZ 30 84 3 1, ldZ 31 3 30, rZ 32 (.build 84 #[(0, (tZ 29)), (1, (tZ 31))]), rZ 7 (.alloc 84), stZ 84 7 32]
def press_CheckEvent_r4 : List SO := [rZ 8 (.assign (ciZ 0)), rZ 9 (.assign (ciZ 0))]
def press_CheckEvent_r5 : List SO := [faZ 33 84 3 1, ldZ 34 3 33]
def press_CheckEvent_r6 : List SO := [bcZ 36 .eql 3 34 0 3, asZ 35 36]
def press_CheckEvent_r7 : List SO := [faZ 37 84 3 2, ldZ 38 3 37, faZ 39 84 3 4, ldZ 40 3 39, faZ 41 84 3 5, ldZ 42 3 41, faZ 43 84 7 2, stZ 3 43 38, faZ 44 84 7 4, stZ 3 44 40, faZ 45 84 7 5, stZ 3 45 42, rZ 8 (.assign (.const (.int .i64 (-16)))), rZ 9 (.assign (ciZ 16))]
def press_CheckEvent_a7 : List (List Nat) := [[], [0], [], [2], [], [4], [0, 1], [6, 1, 0, 1], [0, 1, 2, 3, 6, 7], [8, 3, 7, 0, 1, 2, 3, 6, 7], [0, 1, 2, 3, 4, 5, 6, 7, 8, 9], [10, 5, 9, 0, 1, 2, 3, 4, 5, 6, 7, 8, 9], [11, 0, 1, 2, 3, 4, 5, 6, 7, 8, 9, 10, 11], [12, 0, 1, 2, 3, 4, 5, 6, 7, 8, 9, 10, 11, 12]]
def press_CheckEvent_r8 : List SO := [bcZ 47 .eql 3 34 1 3, asZ 46 47]
def press_CheckEvent_r9 : List SO := [faZ 48 84 3 2, ldZ 49 3 48, faZ 50 84 3 3, ldZ 51 3 50, faZ 52 84 3 4, ldZ 53 3 52, faZ 54 84 7 2, stZ 3 54 49, faZ 55 84 7 3, stZ 3 55 51, faZ 56 84 7 4, stZ 3 56 53, rZ 9 (.assign (ciZ 1000))]
def press_CheckEvent_a9 : List (List Nat) := [[], [0], [], [2], [], [4], [0, 1], [6, 1, 0, 1], [0, 1, 2, 3, 6, 7], [8, 3, 7, 0, 1, 2, 3, 6, 7], [0, 1, 2, 3, 4, 5, 6, 7, 8, 9], [10, 5, 9, 0, 1, 2, 3, 4, 5, 6, 7, 8, 9], [11, 0, 1, 2, 3, 4, 5, 6, 7, 8, 9, 10, 11]]
def press_CheckEvent_r10 : List SO := [bcZ 58 .eql 3 34 2 3, asZ 57 58]
def press_CheckEvent_r11 : List SO := [faZ 59 84 3 2, ldZ 60 3 59, faZ 61 84 3 4, ldZ 62 3 61, faZ 63 84 7 2, stZ 3 63 60, faZ 64 84 7 4, stZ 3 64 62, rZ 8 (.assign (ciZ 4)), rZ 9 (.assign (ciZ 12))]
def press_CheckEvent_a11 : List (List Nat) := [[], [0], [], [2], [0, 1], [4, 1, 0, 1], [0, 1, 2, 3, 4, 5], [6, 3, 5, 0, 1, 2, 3, 4, 5], [7, 0, 1, 2, 3, 4, 5, 6, 7], [8, 0, 1, 2, 3, 4, 5, 6, 7, 8]]
def press_CheckEvent_r12 : List SO := [bcZ 66 .eql 3 34 3 3, asZ 65 66]
def press_CheckEvent_r13 : List SO := [faZ 67 84 3 4, ldZ 68 3 67, faZ 69 84 7 4, stZ 3 69 68, rZ 8 (.assign (ciZ 1)), rZ 9 (.assign (ciZ 20))]
def press_CheckEvent_r14 : List SO := [bcZ 71 .eql 3 34 4 3, asZ 70 71]
def press_CheckEvent_r15 : List SO := [faZ 72 84 3 2, ldZ 73 3 72, faZ 74 84 3 4, ldZ 75 3 74, faZ 76 84 3 5, ldZ 77 3 76, faZ 78 84 7 2, stZ 3 78 73, faZ 79 84 7 4, stZ 3 79 75, faZ 80 84 7 5, stZ 3 80 77, rZ 8 (.assign (.const (.int .i64 (-1000)))), rZ 9 (.assign (ciZ 1000))]
def press_CheckEvent_a15 : List (List Nat) := [[], [0], [], [2], [], [4], [0, 1], [6, 1, 0, 1], [0, 1, 2, 3, 6, 7], [8, 3, 7, 0, 1, 2, 3, 6, 7], [0, 1, 2, 3, 4, 5, 6, 7, 8, 9], [10, 5, 9, 0, 1, 2, 3, 4, 5, 6, 7, 8, 9], [11, 0, 1, 2, 3, 4, 5, 6, 7, 8, 9, 10, 11], [12, 0, 1, 2, 3, 4, 5, 6, 7, 8, 9, 10, 11, 12]]
def press_CheckEvent_r16 : List SO := [bcZ 82 .eql 3 34 5 3, asZ 81 82]
def press_CheckEvent_r17 : List SO := [faZ 83 84 3 2, ldZ 84 3 83, faZ 85 84 7 2, stZ 3 85 84]
def press_CheckEvent_r18 : List SO := [ldZ 86 84 3, ldZ 87 84 7, boZ 88 .neq 84 86 87 84]
def press_CheckEvent_r19 : List SO := [rZ 6 (.assign (ciZ 4))]
def press_CheckEvent_r20 : List SO := [faZ 89 84 3 1, ldZ 90 3 89, bcZ 91 .neq 3 90 3 3, mvZ 92 91, gZ 92 true (faZ 93 84 3 1), gZ 92 true (ldZ 94 3 93), gZ 92 true (bcZ 95 .neq 3 94 6 3), rZ 96 (.pick (tZ 92) (tZ 95) (.const (.bool false))), mvZ 97 96, gZ 97 true (faZ 98 84 3 2), gZ 97 true (ldZ 99 3 98), gZ 97 true (bcZ 100 .lss 3 99 0 3), gZ 97 true (mvZ 101 100), gZ 101 false (faZ 102 84 3 2), gZ 101 false (ldZ 103 3 102), gZ 101 false (mvZ 104 1), gZ 101 false (boZ 105 .geq 3 103 104 3), gZ 97 true (rZ 106 (.pick (tZ 101) (.const (.bool true)) (tZ 105))), rZ 107 (.pick (tZ 97) (tZ 106) (.const (.bool false))), mvZ 108 107, gZ 108 false (faZ 109 84 3 1), gZ 108 false (ldZ 110 3 109), gZ 108 false (bcZ 111 .eql 3 110 1 3), gZ 108 false (mvZ 112 111), gZ 112 true (faZ 113 84 3 3), gZ 112 true (ldZ 114 3 113), gZ 112 true (bcZ 115 .lss 3 114 0 3), gZ 112 true (mvZ 116 115), gZ 116 false (faZ 117 84 3 3), gZ 116 false (ldZ 118 3 117), gZ 116 false (mvZ 119 2), gZ 116 false (boZ 120 .geq 3 118 119 3), gZ 112 true (rZ 121 (.pick (tZ 116) (.const (.bool true)) (tZ 120))), gZ 108 false (rZ 122 (.pick (tZ 112) (tZ 121) (.const (.bool false)))), rZ 123 (.pick (tZ 108) (.const (.bool true)) (tZ 122)), mvZ 124 123, gZ 124 false (faZ 125 84 3 4), gZ 124 false (ldZ 126 3 125), gZ 124 false (mvZ 127 8), gZ 124 false (boZ 128 .lss 3 126 127 3), rZ 129 (.pick (tZ 124) (.const (.bool true)) (tZ 128)), mvZ 130 129, gZ 130 false (faZ 131 84 3 4), gZ 130 false (ldZ 132 3 131), gZ 130 false (mvZ 133 9), gZ 130 false (boZ 134 .gtr 3 132 133 3), rZ 135 (.pick (tZ 130) (.const (.bool true)) (tZ 134))]
def press_CheckEvent_r21 : List SO := [rZ 6 (.assign (ciZ 3))]
def press_CheckEvent_r22 : List SO := [faZ 136 84 3 1, ldZ 137 3 136, bcZ 138 .eql 3 137 0 3, mvZ 139 138, gZ 139 false (faZ 140 84 3 1), gZ 139 false (ldZ 141 3 140), gZ 139 false (bcZ 142 .eql 3 141 4 3), rZ 143 (.pick (tZ 139) (.const (.bool true)) (tZ 142)), mvZ 144 143, gZ 144 true (faZ 145 84 3 5), gZ 144 true (ldZ 146 3 145), gZ 144 true (mvZ 147 8), gZ 144 true (boZ 148 .lss 3 146 147 3), gZ 144 true (mvZ 149 148), gZ 149 false (faZ 150 84 3 5), gZ 149 false (ldZ 151 3 150), gZ 149 false (mvZ 152 9), gZ 149 false (boZ 153 .gtr 3 151 152 3), gZ 144 true (rZ 154 (.pick (tZ 149) (.const (.bool true)) (tZ 153))), rZ 155 (.pick (tZ 144) (tZ 154) (.const (.bool false)))]
def press_CheckEvent_r23 : List SO := [rZ 6 (.assign (ciZ 3))]
def press_CheckEvent_r24 : List SO := [rZ 6 (.assign (ciZ 0))]
def press_CheckEvent_c : SF := ⟨156, (.seq (.reg press_CheckEvent_r0)
  (.seq (.seq (.reg press_CheckEvent_r1)
  (.cond (tZ 27) (.seq (.reg press_CheckEvent_r2)
  .ret) .skip))
  (.seq (.reg press_CheckEvent_r3)
  (.seq (.reg press_CheckEvent_r4)
  (.seq (.seq (.reg press_CheckEvent_r5)
  (.block 0 (.seq (.reg press_CheckEvent_r6)
  (.cond (tZ 35) (.regd press_CheckEvent_r7 press_CheckEvent_a7) (.seq (.reg press_CheckEvent_r8)
  (.cond (tZ 46) (.regd press_CheckEvent_r9 press_CheckEvent_a9) (.seq (.reg press_CheckEvent_r10)
  (.cond (tZ 57) (.regd press_CheckEvent_r11 press_CheckEvent_a11) (.seq (.reg press_CheckEvent_r12)
  (.cond (tZ 65) (.reg press_CheckEvent_r13) (.seq (.reg press_CheckEvent_r14)
  (.cond (tZ 70) (.regd press_CheckEvent_r15 press_CheckEvent_a15) (.seq (.reg press_CheckEvent_r16)
  (.cond (tZ 81) (.reg press_CheckEvent_r17) .skip))))))))))))))
  (.seq (.seq (.reg press_CheckEvent_r18)
  (.cond (tZ 88) (.seq (.reg press_CheckEvent_r19)
  .ret) .skip))
  (.seq (.seq (.reg press_CheckEvent_r20)
  (.cond (tZ 135) (.seq (.reg press_CheckEvent_r21)
  .ret) .skip))
  (.seq (.seq (.reg press_CheckEvent_r22)
  (.cond (tZ 155) (.seq (.reg press_CheckEvent_r23)
  .ret) .skip))
  (.seq (.reg press_CheckEvent_r24)
  .ret))))))))), [.tmp 6]⟩
theorem press_CheckEvent_s : slimF Try.prog 44 = some press_CheckEvent_c := by kernel_rfl
abbrev press_CheckEvent_f : Nat := 44
/-- (*printworks/press.unit).move -/
def __press_unit__move_r0 : List SO := [rZ 3 (.box 59 (tZ 1))]
def __press_unit__move_r1 : List SO := [mvZ 4 0, mvZ 5 0, rZ 6 (.nilCheck (tZ 5)), faZ 7 113 6 0, faZ 8 59 7 0, ldZ 9 3 8, faZ 10 59 3 0, ldZ 11 3 10, boZ 12 .add 3 9 11 3, rZ 13 (.call ⟨(.value (.func (59 : Nat))), #[(tZ 12)], #[3]⟩), mvZ 14 0, rZ 15 (.nilCheck (tZ 14)), faZ 16 113 15 0, faZ 17 59 16 1, ldZ 18 3 17, faZ 19 59 3 1, ldZ 20 3 19, boZ 21 .add 3 18 20 3, rZ 22 (.call ⟨(.value (.func (59 : Nat))), #[(tZ 21)], #[3]⟩), rZ 23 (.build 59 #[(0, (tZ 13)), (1, (tZ 22))]), rZ 24 (.nilCheck (tZ 4)), faZ 25 113 24 0, stZ 59 25 23]
def __press_unit__move_a1 : List (List Nat) := [[], [], [1], [2], [3], [4], [], [6], [5, 7], [8], [], [10], [11], [12], [13], [], [15], [14, 16], [17, 9], [9, 18], [0, 0, 1, 2, 3, 4, 5, 6, 7, 8, 9, 10, 11, 12, 13, 14, 15, 16, 17, 18, 19], [20, 0, 1, 2, 3, 4, 5, 6, 7, 8, 9, 10, 11, 12, 13, 14, 15, 16, 17, 18, 19], [21, 19, 18, 0, 1, 2, 3, 4, 5, 6, 7, 8, 9, 10, 11, 12, 13, 14, 15, 16, 17, 18, 19]]
def __press_unit__move_c : SF := ⟨26, (.seq (.reg __press_unit__move_r0)
  (.regd __press_unit__move_r1 __press_unit__move_a1)), []⟩
theorem __press_unit__move_s : slimF Try.prog 45 = some __press_unit__move_c := by kernel_rfl
abbrev __press_unit__move_f : Nat := 45
/-- (*printworks/press.unit).ink -/
def __press_unit__ink_r0 : List SO := [mvZ 7 0, rZ 8 (.nilCheck (tZ 7)), faZ 9 113 8 4, ldZ 10 25 9, mvZ 11 1, iaZ 12 25 10 11, ldZ 13 3 12, mvZ 14 2, rZ 15 (.binOp .add 3 (ciZ 8) (tZ 14) 3), boZ 16 .mul 3 13 15 3, bcZ 17 .quo 3 16 8 3, asZ 6 17]
def __press_unit__ink_r1 : List SO := [mvZ 18 0, rZ 19 (.nilCheck (tZ 18)), faZ 20 113 19 4, ldZ 21 25 20, mvZ 22 1, iaZ 23 25 21 22, ldZ 24 3 23, mvZ 25 0, rZ 26 (.nilCheck (tZ 25)), faZ 27 113 26 3, ldZ 28 25 27, mvZ 29 1, iaZ 30 25 28 29, ldZ 31 3 30, rZ 32 (.binOp .mul 3 (ciZ 2) (tZ 31) 3), mvZ 33 0, rZ 34 (.nilCheck (tZ 33)), faZ 35 113 34 2, ldZ 36 3 35, boZ 37 .mul 3 32 36 3, mvZ 38 6, boZ 39 .sub 3 37 38 3, rZ 40 (.binOp .shr 3 (tZ 39) (.const (.int .u64 3)) 128), boZ 41 .add 3 24 40 3, iaZ 42 25 21 22, stZ 3 42 41]
def __press_unit__ink_a1 : List (List Nat) := [[], [0], [1], [2], [], [3, 4], [5], [], [7], [8], [9], [], [10, 11], [12], [13], [], [15], [16], [17], [14, 18], [], [19, 20], [21], [6, 22], [3, 4, 0, 1, 2, 3, 4, 5, 6, 7, 8, 9, 10, 11, 12, 13, 14, 15, 16, 17, 18, 19, 20, 21, 22, 23], [24, 23, 0, 1, 2, 3, 4, 5, 6, 7, 8, 9, 10, 11, 12, 13, 14, 15, 16, 17, 18, 19, 20, 21, 22, 23]]
def __press_unit__ink_c : SF := ⟨43, (.seq (.reg __press_unit__ink_r0)
  (.regd __press_unit__ink_r1 __press_unit__ink_a1)), []⟩
theorem __press_unit__ink_s : slimF Try.prog 46 = some __press_unit__ink_c := by kernel_rfl
abbrev __press_unit__ink_f : Nat := 46
/-- (*printworks/press.Press).good -/
def __press_Press__good_r0 : List SO := [rZ 2 (.assign (.const (.bool false)))]
def __press_Press__good_r1 : List SO := [mvZ 8 0, rZ 9 (.nilCheck (tZ 8)), faZ 10 110 9 0, faZ 11 107 10 1, ldZ 12 3 11, mvZ 13 0, rZ 14 (.nilCheck (tZ 13)), faZ 15 110 14 1, faZ 16 44 15 1, ldZ 17 3 16, boZ 18 .leq 3 12 17 3]
def __press_Press__good_a1 : List (List Nat) := [[], [0], [1], [2], [3], [], [5], [6], [7], [8], [4, 9]]
def __press_Press__good_r2 : List SO := [rZ 2 (.assign (.const (.bool false)))]
def __press_Press__good_r3 : List SO := [mvZ 19 0, rZ 20 (.nilCheck (tZ 19)), faZ 21 110 20 2, ldZ 22 108 21, rZ 23 (.call ⟨(.builtin .len), #[(tZ 22)], #[108]⟩), rZ 24 (.move (ciZ 0))]
def __press_Press__good_r4 : List SO := [boZ 25 .lss 3 24 23 3]
def __press_Press__good_r5 : List SO := [mvZ 26 24, iaZ 27 108 22 24, ldZ 28 113 27, rZ 4 (.alloc 113), asZ 3 26, stZ 113 4 28]
def __press_Press__good_r6 : List SO := [faZ 29 113 4 0, faZ 30 59 29 0, ldZ 31 3 30, faZ 32 113 4 0, faZ 33 59 32 0, ldZ 34 3 33, rZ 35 (.unOp .neg 3 (tZ 34)), faZ 36 113 4 0, faZ 37 59 36 1, ldZ 38 3 37, faZ 39 113 4 0, faZ 40 59 39 1, ldZ 41 3 40, rZ 42 (.unOp .neg 3 (tZ 41)), rZ 43 (.call ⟨(.builtin .max), #[(tZ 31), (tZ 35), (tZ 38), (tZ 42)], #[3, 3, 3, 3]⟩), mvZ 44 0, rZ 45 (.nilCheck (tZ 44)), faZ 46 110 45 1, faZ 47 44 46 2, ldZ 48 3 47, boZ 49 .gtr 3 43 48 3]
def __press_Press__good_a6 : List (List Nat) := [[], [0], [1], [], [3], [4], [5], [], [7], [8], [], [10], [11], [12], [2, 6, 9, 13], [], [15], [16], [17], [18], [14, 19]]
def __press_Press__good_r7 : List SO := [rZ 2 (.assign (.const (.bool false)))]
def __press_Press__good_r8 : List SO := [faZ 50 113 4 4, ldZ 51 25 50, rZ 52 (.call ⟨(.builtin .len), #[(tZ 51)], #[25]⟩), rZ 53 (.move (ciZ 0))]
def __press_Press__good_r9 : List SO := [boZ 54 .lss 3 53 52 3]
def __press_Press__good_r10 : List SO := [iaZ 55 25 51 53, ldZ 56 3 55, asZ 6 56]
def __press_Press__good_r11 : List SO := [mvZ 57 6, mvZ 58 0, rZ 59 (.nilCheck (tZ 58)), faZ 60 110 59 1, faZ 61 44 60 4, ldZ 62 25 61, mvZ 63 3, iaZ 64 25 62 63, ldZ 65 3 64, boZ 66 .sub 3 57 65 3, asZ 7 66]
def __press_Press__good_r12 : List SO := [mvZ 67 7, mvZ 68 7, rZ 69 (.unOp .neg 3 (tZ 68)), rZ 70 (.call ⟨(.builtin .max), #[(tZ 67), (tZ 69)], #[3, 3]⟩), mvZ 71 0, rZ 72 (.nilCheck (tZ 71)), faZ 73 110 72 1, faZ 74 44 73 3, ldZ 75 3 74, boZ 76 .gtr 3 70 75 3]
def __press_Press__good_r13 : List SO := [rZ 2 (.assign (.const (.bool false)))]
def __press_Press__good_r14 : List SO := [bcZ 77 .add 3 53 1 3, mvZ 53 77]
def __press_Press__good_r15 : List SO := [bcZ 78 .add 3 24 1 3, mvZ 24 78]
def __press_Press__good_r16 : List SO := [rZ 2 (.assign (.const (.bool true)))]
def __press_Press__good_c : SF := ⟨79, (.seq (.reg __press_Press__good_r0)
  (.seq (.seq (.regd __press_Press__good_r1 __press_Press__good_a1)
  (.cond (tZ 18) (.seq (.reg __press_Press__good_r2)
  .ret) .skip))
  (.seq (.seq (.reg __press_Press__good_r3)
  (.block 0 (.loop (.seq (.reg __press_Press__good_r4)
  (.seq (.cond (tZ 25) .skip (.exit 0))
  (.seq (.block 1 (.seq (.reg __press_Press__good_r5)
  (.seq (.seq (.regd __press_Press__good_r6 __press_Press__good_a6)
  (.cond (tZ 49) (.seq (.reg __press_Press__good_r7)
  .ret) .skip))
  (.seq (.reg __press_Press__good_r8)
  (.block 2 (.loop (.seq (.reg __press_Press__good_r9)
  (.seq (.cond (tZ 54) .skip (.exit 2))
  (.seq (.block 3 (.seq (.reg __press_Press__good_r10)
  (.seq (.reg __press_Press__good_r11)
  (.seq (.reg __press_Press__good_r12)
  (.cond (tZ 76) (.seq (.reg __press_Press__good_r13)
  .ret) .skip)))))
  (.reg __press_Press__good_r14))))))))))
  (.reg __press_Press__good_r15)))))))
  (.seq (.reg __press_Press__good_r16)
  .ret)))), [.tmp 2]⟩
theorem __press_Press__good_s : slimF Try.prog 47 = some __press_Press__good_c := by kernel_rfl
abbrev __press_Press__good_f : Nat := 47
/-- printworks/press.table -/
def press_table_r0 : List SO := [rZ 8 (.assign (ciZ 0))]
def press_table_r1 : List SO := [mvZ 13 0, rZ 14 (.call ⟨(.builtin .len), #[(tZ 13)], #[37]⟩), mvZ 15 1, boZ 16 .neq 3 14 15 3]
def press_table_r2 : List SO := [rZ 8 (.assign (ciZ 4))]
def press_table_r3 : List SO := [mvZ 17 0, rZ 18 (.call ⟨(.builtin .len), #[(tZ 17)], #[37]⟩), rZ 19 (.move (ciZ 0))]
def press_table_r4 : List SO := [boZ 20 .lss 3 19 18 3]
def press_table_r5 : List SO := [iaZ 21 37 17 19, ldZ 22 25 21, asZ 10 22]
def press_table_r6 : List SO := [mvZ 23 10, rZ 24 (.call ⟨(.builtin .len), #[(tZ 23)], #[25]⟩), mvZ 25 2, boZ 26 .neq 3 24 25 3]
def press_table_r7 : List SO := [rZ 8 (.assign (ciZ 4))]
def press_table_r8 : List SO := [mvZ 27 10, rZ 28 (.call ⟨(.builtin .len), #[(tZ 27)], #[25]⟩), rZ 29 (.move (ciZ 0))]
def press_table_r9 : List SO := [boZ 30 .lss 3 29 28 3]
def press_table_r10 : List SO := [iaZ 31 25 27 29, ldZ 32 3 31, asZ 12 32]
def press_table_r11 : List SO := [mvZ 33 12, bcZ 34 .lss 3 33 0 3, mvZ 35 34, gZ 35 false (mvZ 36 12), gZ 35 false (mvZ 37 3), gZ 35 false (boZ 38 .gtr 3 36 37 3), rZ 39 (.pick (tZ 35) (.const (.bool true)) (tZ 38))]
def press_table_r12 : List SO := [rZ 8 (.assign (ciZ 3))]
def press_table_r13 : List SO := [bcZ 40 .add 3 29 1 3, mvZ 29 40]
def press_table_r14 : List SO := [bcZ 41 .add 3 19 1 3, mvZ 19 41]
def press_table_r15 : List SO := [rZ 8 (.assign (ciZ 0))]
def press_table_c : SF := ⟨42, (.seq (.reg press_table_r0)
  (.seq (.seq (.reg press_table_r1)
  (.cond (tZ 16) (.seq (.reg press_table_r2)
  .ret) .skip))
  (.seq (.seq (.reg press_table_r3)
  (.block 0 (.loop (.seq (.reg press_table_r4)
  (.seq (.cond (tZ 20) .skip (.exit 0))
  (.seq (.block 1 (.seq (.reg press_table_r5)
  (.seq (.seq (.reg press_table_r6)
  (.cond (tZ 26) (.seq (.reg press_table_r7)
  .ret) .skip))
  (.seq (.reg press_table_r8)
  (.block 2 (.loop (.seq (.reg press_table_r9)
  (.seq (.cond (tZ 30) .skip (.exit 2))
  (.seq (.block 3 (.seq (.reg press_table_r10)
  (.seq (.reg press_table_r11)
  (.cond (tZ 39) (.seq (.reg press_table_r12)
  .ret) .skip))))
  (.reg press_table_r13))))))))))
  (.reg press_table_r14)))))))
  (.seq (.reg press_table_r15)
  .ret)))), [.tmp 8]⟩
theorem press_table_s : slimF Try.prog 58 = some press_table_c := by kernel_rfl
abbrev press_table_f : Nat := 58
/-- printworks/press.cut -/
def press_cut_r0 : List SO := [rZ 2 (.assign (ciZ 0))]
def press_cut_r1 : List SO := [mvZ 3 0, rZ 4 (.call ⟨(.builtin .min), #[(ciZ 1000), (tZ 3)], #[3, 3]⟩), rZ 5 (.call ⟨(.builtin .max), #[(.const (.int .i64 (-1000))), (tZ 4)], #[3, 3]⟩), asZ 2 5]
def press_cut_c : SF := ⟨6, (.seq (.reg press_cut_r0)
  (.seq (.reg press_cut_r1)
  .ret)), [.tmp 2]⟩
theorem press_cut_s : slimF Try.prog 59 = some press_cut_c := by kernel_rfl
abbrev press_cut_f : Nat := 59

def tbl_press : List (Nat × SF) := [(8, press_Presets_c), (9, press_Run_c), (10, press_Tally_c), (25, press_New_c), (26, press_CheckScript_c), (27, __press_Press__Event_c), (28, __press_Press__Feed_c), (42, press_Check_c), (43, press_copied_c), (44, press_CheckEvent_c), (45, __press_unit__move_c), (46, __press_unit__ink_c), (47, __press_Press__good_c), (58, press_table_c), (59, press_cut_c)]
theorem tbl_press_ok : okT Try.prog tbl_press := ⟨press_Presets_s, press_Run_s, press_Tally_s, press_New_s, press_CheckScript_s, __press_Press__Event_s, __press_Press__Feed_s, press_Check_s, press_copied_s, press_CheckEvent_s, __press_unit__move_s, __press_unit__ink_s, __press_Press__good_s, press_table_s, press_cut_s, trivial⟩

end Go.Proofs.Ytihminfnphichaa
namespace Go.Proofs.Ytihminfnphichaa
open Go Go.Lite
set_option linter.unusedVariables false

/-- printworks/curve.Fit -/
def curve_Fit_r0 : List SO := [rZ 2 (.alloc 64), rZ 3 (.assign (ciZ 0))]
def curve_Fit_r1 : List SO := [mvZ 18 0, rZ 19 (.call ⟨(.builtin .len), #[(tZ 18)], #[51]⟩), bcZ 20 .gtr 3 19 31 3]
def curve_Fit_r2 : List SO := [rZ 21 (.build 64 #[]), stZ 64 2 21, rZ 3 (.assign (ciZ 2))]
def curve_Fit_r3 : List SO := [mvZ 22 0, rZ 23 (.call ⟨(.builtin .len), #[(tZ 22)], #[51]⟩), bcZ 24 .eql 3 23 0 3]
def curve_Fit_r4 : List SO := [rZ 25 (.build 64 #[]), stZ 64 2 25, rZ 3 (.assign (ciZ 1))]
def curve_Fit_r5 : List SO := [mvZ 26 0, rZ 27 (.call ⟨(.builtin .len), #[(tZ 26)], #[51]⟩), rZ 28 (.move (ciZ 0))]
def curve_Fit_r6 : List SO := [boZ 29 .lss 3 28 27 3]
def curve_Fit_r7 : List SO := [mvZ 30 28, iaZ 31 51 26 28, ldZ 32 62 31, rZ 5 (.alloc 62), asZ 4 30, stZ 62 5 32]
def curve_Fit_r8 : List SO := [faZ 33 62 5 0, ldZ 34 3 33, bcZ 35 .lss 3 34 0 3, mvZ 36 35, gZ 36 false (faZ 37 62 5 0), gZ 36 false (ldZ 38 3 37), gZ 36 false (bcZ 39 .gtr 3 38 65280 3), rZ 40 (.pick (tZ 36) (.const (.bool true)) (tZ 39)), mvZ 41 40, gZ 41 false (faZ 42 62 5 1), gZ 41 false (ldZ 43 3 42), gZ 41 false (bcZ 44 .lss 3 43 0 3), rZ 45 (.pick (tZ 41) (.const (.bool true)) (tZ 44)), mvZ 46 45, gZ 46 false (faZ 47 62 5 1), gZ 46 false (ldZ 48 3 47), gZ 46 false (bcZ 49 .gtr 3 48 65280 3), rZ 50 (.pick (tZ 46) (.const (.bool true)) (tZ 49))]
def curve_Fit_r9 : List SO := [rZ 51 (.build 64 #[]), stZ 64 2 51, rZ 3 (.assign (ciZ 3))]
def curve_Fit_r10 : List SO := [mvZ 52 4, bcZ 53 .gtr 3 52 0 3, mvZ 54 53, gZ 54 true (faZ 55 62 5 0), gZ 54 true (ldZ 56 3 55), gZ 54 true (mvZ 57 0), gZ 54 true (mvZ 58 4), gZ 54 true (bcZ 59 .sub 3 58 1 3), gZ 54 true (iaZ 60 51 57 59), gZ 54 true (faZ 61 62 60 0), gZ 54 true (ldZ 62 3 61), gZ 54 true (boZ 63 .leq 3 56 62 3), rZ 64 (.pick (tZ 54) (tZ 63) (.const (.bool false)))]
def curve_Fit_a10 : List (List Nat) := [[], [0], [1], [2], [3, 2], [2], [2], [6, 2], [5, 7, 2], [8, 2], [9, 2], [4, 10, 2], [2, 11]]
def curve_Fit_r11 : List SO := [rZ 65 (.build 64 #[]), stZ 64 2 65, rZ 3 (.assign (ciZ 18))]
def curve_Fit_r12 : List SO := [bcZ 66 .add 3 28 1 3, mvZ 28 66]
def curve_Fit_r13 : List SO := [rZ 6 (.assign (.const (.slice none 0 0)))]
def curve_Fit_r14 : List SO := [mvZ 67 0, rZ 68 (.call ⟨(.builtin .len), #[(tZ 67)], #[51]⟩), rZ 69 (.move (ciZ 0))]
def curve_Fit_r15 : List SO := [boZ 70 .lss 3 69 68 3]
def curve_Fit_r16 : List SO := [iaZ 71 51 67 69, ldZ 72 62 71, rZ 8 (.alloc 62), stZ 62 8 72]
def curve_Fit_r17 : List SO := [faZ 73 62 8 1, ldZ 74 3 73, rZ 75 (.build 95 #[(0, (tZ 74)), (1, (ciZ 1))]), rZ 9 (.alloc 95), stZ 95 9 75]
def curve_Fit_r18 : List SO := [mvZ 76 6, rZ 77 (.call ⟨(.builtin .len), #[(tZ 76)], #[93]⟩), bcZ 78 .gtr 3 77 0 3]
def curve_Fit_r19 : List SO := [mvZ 79 6, mvZ 80 6, rZ 81 (.call ⟨(.builtin .len), #[(tZ 80)], #[93]⟩), bcZ 82 .sub 3 81 1 3, iaZ 83 93 79 82, ldZ 84 95 83, rZ 10 (.alloc 95), stZ 95 10 84]
def curve_Fit_r20 : List SO := [faZ 85 95 10 0, ldZ 86 3 85, faZ 87 95 9 1, ldZ 88 3 87, boZ 89 .mul 3 86 88 3, faZ 90 95 9 0, ldZ 91 3 90, faZ 92 95 10 1, ldZ 93 3 92, boZ 94 .mul 3 91 93 3, boZ 95 .leq 3 89 94 3]
def curve_Fit_r21 : List SO := [faZ 96 95 10 0, ldZ 97 3 96, faZ 98 95 9 0, ldZ 99 3 98, boZ 100 .add 3 97 99 3, faZ 101 95 10 1, ldZ 102 3 101, faZ 103 95 9 1, ldZ 104 3 103, boZ 105 .add 3 102 104 3, rZ 106 (.build 95 #[(0, (tZ 100)), (1, (tZ 105))]), stZ 95 9 106]
def curve_Fit_r22 : List SO := [mvZ 107 6, mvZ 108 6, rZ 109 (.call ⟨(.builtin .len), #[(tZ 108)], #[93]⟩), bcZ 110 .sub 3 109 1 3, rZ 111 (.slice 93 (tZ 107) none (some (tZ 110)) none), asZ 6 111]
def curve_Fit_r23 : List SO := [mvZ 112 6, ldZ 113 95 9, rZ 114 (.buildSlice 93 1 #[(0, (tZ 113))]), rZ 115 (.call ⟨(.builtin .append), #[(tZ 112), (tZ 114)], #[93, 93]⟩), asZ 6 115]
def curve_Fit_r24 : List SO := [bcZ 116 .add 3 69 1 3, mvZ 69 116]
def curve_Fit_r25 : List SO := [rZ 11 (.assign (.const (.slice none 0 0)))]
def curve_Fit_r26 : List SO := [rZ 12 (.assign (ciZ 0))]
def curve_Fit_r27 : List SO := [mvZ 117 6, rZ 118 (.call ⟨(.builtin .len), #[(tZ 117)], #[93]⟩), rZ 119 (.move (ciZ 0))]
def curve_Fit_r28 : List SO := [boZ 120 .lss 3 119 118 3]
def curve_Fit_r29 : List SO := [iaZ 121 93 117 119, ldZ 122 95 121, rZ 14 (.alloc 95), stZ 95 14 122]
def curve_Fit_r30 : List SO := [faZ 123 95 14 0, ldZ 124 3 123, faZ 125 95 14 1, ldZ 126 3 125, rZ 127 (.call ⟨(.value (.func (24 : Nat))), #[(tZ 124), (tZ 126)], #[3, 3]⟩), asZ 15 127]
def curve_Fit_r31 : List SO := [faZ 128 95 14 1, ldZ 129 3 128, rZ 130 (.move (ciZ 0))]
def curve_Fit_r32 : List SO := [boZ 131 .lss 3 130 129 3]
def curve_Fit_r33 : List SO := [mvZ 132 11, mvZ 133 0, mvZ 134 12, iaZ 135 51 133 134, faZ 136 62 135 0, ldZ 137 3 136, mvZ 138 15, rZ 139 (.build 62 #[(0, (tZ 137)), (1, (tZ 138))]), rZ 140 (.buildSlice 51 1 #[(0, (tZ 139))]), rZ 141 (.call ⟨(.builtin .append), #[(tZ 132), (tZ 140)], #[51, 51]⟩), asZ 11 141]
def curve_Fit_r34 : List SO := [mvZ 142 12, bcZ 143 .add 3 142 1 3, asZ 12 143]
def curve_Fit_r35 : List SO := [bcZ 144 .add 3 130 1 3, mvZ 130 144]
def curve_Fit_r36 : List SO := [bcZ 145 .add 3 119 1 3, mvZ 119 145]
def curve_Fit_r37 : List SO := [mvZ 146 11, rZ 147 (.indexAddr 51 (tZ 146) (ciZ 0)), ldZ 148 62 147, rZ 16 (.alloc 62), stZ 62 16 148]
def curve_Fit_r38 : List SO := [faZ 149 62 16 0, ldZ 150 3 149, bcZ 151 .gtr 3 150 0 3]
def curve_Fit_r39 : List SO := [faZ 152 62 16 1, ldZ 153 3 152, rZ 154 (.build 62 #[(0, (ciZ 0)), (1, (tZ 153))]), rZ 155 (.buildSlice 51 1 #[(0, (tZ 154))]), mvZ 156 11, rZ 157 (.call ⟨(.builtin .append), #[(tZ 155), (tZ 156)], #[51, 51]⟩), asZ 11 157]
def curve_Fit_r40 : List SO := [mvZ 158 11, mvZ 159 11, rZ 160 (.call ⟨(.builtin .len), #[(tZ 159)], #[51]⟩), bcZ 161 .sub 3 160 1 3, iaZ 162 51 158 161, ldZ 163 62 162, rZ 17 (.alloc 62), stZ 62 17 163]
def curve_Fit_r41 : List SO := [faZ 164 62 17 0, ldZ 165 3 164, bcZ 166 .lss 3 165 65280 3]
def curve_Fit_r42 : List SO := [mvZ 167 11, faZ 168 62 17 1, ldZ 169 3 168, rZ 170 (.build 62 #[(0, (ciZ 65280)), (1, (tZ 169))]), rZ 171 (.buildSlice 51 1 #[(0, (tZ 170))]), rZ 172 (.call ⟨(.builtin .append), #[(tZ 167), (tZ 171)], #[51, 51]⟩), asZ 11 172]
def curve_Fit_r43 : List SO := [mvZ 173 11, rZ 174 (.build 64 #[(0, (tZ 173))]), stZ 64 2 174, rZ 3 (.assign (ciZ 0))]
def curve_Fit_c : SF := ⟨175, (.seq (.reg curve_Fit_r0)
  (.seq (.seq (.reg curve_Fit_r1)
  (.cond (tZ 20) (.seq (.reg curve_Fit_r2)
  .ret) .skip))
  (.seq (.seq (.reg curve_Fit_r3)
  (.cond (tZ 24) (.seq (.reg curve_Fit_r4)
  .ret) .skip))
  (.seq (.seq (.reg curve_Fit_r5)
  (.block 0 (.loop (.seq (.reg curve_Fit_r6)
  (.seq (.cond (tZ 29) .skip (.exit 0))
  (.seq (.block 1 (.seq (.reg curve_Fit_r7)
  (.seq (.seq (.reg curve_Fit_r8)
  (.cond (tZ 50) (.seq (.reg curve_Fit_r9)
  .ret) .skip))
  (.seq (.regd curve_Fit_r10 curve_Fit_a10)
  (.cond (tZ 64) (.seq (.reg curve_Fit_r11)
  .ret) .skip)))))
  (.reg curve_Fit_r12)))))))
  (.seq (.reg curve_Fit_r13)
  (.seq (.seq (.reg curve_Fit_r14)
  (.block 2 (.loop (.seq (.reg curve_Fit_r15)
  (.seq (.cond (tZ 70) .skip (.exit 2))
  (.seq (.block 3 (.seq (.reg curve_Fit_r16)
  (.seq (.reg curve_Fit_r17)
  (.seq (.block 4 (.loop (.seq (.seq (.reg curve_Fit_r18)
  (.cond (tZ 78) .skip (.exit 4)))
  (.block 5 (.seq (.reg curve_Fit_r19)
  (.seq (.seq (.reg curve_Fit_r20)
  (.cond (tZ 95) (.exit 4) .skip))
  (.seq (.reg curve_Fit_r21)
  (.reg curve_Fit_r22))))))))
  (.reg curve_Fit_r23)))))
  (.reg curve_Fit_r24)))))))
  (.seq (.reg curve_Fit_r25)
  (.seq (.reg curve_Fit_r26)
  (.seq (.seq (.reg curve_Fit_r27)
  (.block 6 (.loop (.seq (.reg curve_Fit_r28)
  (.seq (.cond (tZ 120) .skip (.exit 6))
  (.seq (.block 7 (.seq (.reg curve_Fit_r29)
  (.seq (.reg curve_Fit_r30)
  (.seq (.reg curve_Fit_r31)
  (.block 8 (.loop (.seq (.reg curve_Fit_r32)
  (.seq (.cond (tZ 131) .skip (.exit 8))
  (.seq (.block 9 (.seq (.reg curve_Fit_r33)
  (.reg curve_Fit_r34)))
  (.reg curve_Fit_r35))))))))))
  (.reg curve_Fit_r36)))))))
  (.seq (.seq (.reg curve_Fit_r37)
  (.seq (.reg curve_Fit_r38)
  (.cond (tZ 151) (.reg curve_Fit_r39) .skip)))
  (.seq (.seq (.reg curve_Fit_r40)
  (.seq (.reg curve_Fit_r41)
  (.cond (tZ 166) (.reg curve_Fit_r42) .skip)))
  (.seq (.reg curve_Fit_r43)
  .ret)))))))))))), [.cell 2 64, .tmp 3]⟩
theorem curve_Fit_s : slimF Try.prog 16 = some curve_Fit_c := by kernel_rfl
/-- printworks/curve.Calibrate -/
def curve_Calibrate_r0 : List SO := [rZ 2 (.box 64 (tZ 0)), rZ 3 (.box 64 (tZ 1)), rZ 4 (.alloc 64), rZ 5 (.assign (ciZ 0))]
def curve_Calibrate_r1 : List SO := [ldZ 11 64 2, rZ 12 (.call ⟨(.value (.func (33 : Nat))), #[(tZ 11)], #[64]⟩), asZ 6 12]
def curve_Calibrate_r2 : List SO := [mvZ 13 6, bcZ 14 .neq 34 13 0 34]
def curve_Calibrate_r3 : List SO := [rZ 15 (.build 64 #[]), mvZ 16 6, stZ 64 4 15, asZ 5 16]
def curve_Calibrate_r4 : List SO := [ldZ 17 64 3, rZ 18 (.call ⟨(.value (.func (33 : Nat))), #[(tZ 17)], #[64]⟩), asZ 7 18]
def curve_Calibrate_r5 : List SO := [mvZ 19 7, bcZ 20 .neq 34 19 0 34]
def curve_Calibrate_r6 : List SO := [rZ 21 (.build 64 #[]), mvZ 22 7, stZ 64 4 21, asZ 5 22]
def curve_Calibrate_r7 : List SO := [faZ 23 64 2 0, ldZ 24 51 23, faZ 25 64 2 0, ldZ 26 51 25, rZ 27 (.call ⟨(.builtin .len), #[(tZ 26)], #[51]⟩), bcZ 28 .sub 3 27 1 3, iaZ 29 51 24 28, faZ 30 62 29 1, ldZ 31 3 30, faZ 32 64 3 0, ldZ 33 51 32, faZ 34 64 3 0, ldZ 35 51 34, rZ 36 (.call ⟨(.builtin .len), #[(tZ 35)], #[51]⟩), bcZ 37 .sub 3 36 1 3, iaZ 38 51 33 37, faZ 39 62 38 1, ldZ 40 3 39, boZ 41 .lss 3 31 40 3]
def curve_Calibrate_a7 : List (List Nat) := [[], [0], [], [2], [3], [4], [1, 5], [6], [7], [], [9], [], [11], [12], [13], [10, 14], [15], [16], [8, 17]]
def curve_Calibrate_r8 : List SO := [rZ 42 (.build 64 #[]), stZ 64 4 42, rZ 5 (.assign (ciZ 8))]
def curve_Calibrate_r9 : List SO := [rZ 43 (.makeSlice 51 (ciZ 0) (ciZ 17)), asZ 8 43]
def curve_Calibrate_r10 : List SO := [rZ 44 (.move (ciZ 0))]
def curve_Calibrate_r11 : List SO := [bcZ 45 .lss 3 44 17 3]
def curve_Calibrate_r12 : List SO := [mvZ 46 44, asZ 9 46]
def curve_Calibrate_r13 : List SO := [mvZ 47 9, bcZ 48 .mul 3 47 4080 3, asZ 10 48]
def curve_Calibrate_r14 : List SO := [mvZ 49 8, mvZ 50 10, ldZ 51 64 2, ldZ 52 64 3, mvZ 53 10, rZ 54 (.call ⟨(.value (.func (35 : Nat))), #[(tZ 52), (tZ 53)], #[64, 3]⟩), rZ 55 (.call ⟨(.value (.func (34 : Nat))), #[(tZ 51), (tZ 54)], #[64, 3]⟩), rZ 56 (.build 62 #[(0, (tZ 50)), (1, (tZ 55))]), rZ 57 (.buildSlice 51 1 #[(0, (tZ 56))]), rZ 58 (.call ⟨(.builtin .append), #[(tZ 49), (tZ 57)], #[51, 51]⟩), asZ 8 58]
def curve_Calibrate_a14 : List (List Nat) := [[], [], [], [], [], [3, 4], [2, 5, 5], [1, 6], [7], [0, 8, 6], [9, 9, 0, 1, 2, 3, 4, 5, 6, 7, 8, 9]]
def curve_Calibrate_r15 : List SO := [bcZ 59 .add 3 44 1 3, mvZ 44 59]
def curve_Calibrate_r16 : List SO := [mvZ 60 8, rZ 61 (.build 64 #[(0, (tZ 60))]), stZ 64 4 61, rZ 5 (.assign (ciZ 0))]
def curve_Calibrate_c : SF := ⟨62, (.seq (.reg curve_Calibrate_r0)
  (.seq (.seq (.reg curve_Calibrate_r1)
  (.seq (.reg curve_Calibrate_r2)
  (.cond (tZ 14) (.seq (.reg curve_Calibrate_r3)
  .ret) .skip)))
  (.seq (.seq (.reg curve_Calibrate_r4)
  (.seq (.reg curve_Calibrate_r5)
  (.cond (tZ 20) (.seq (.reg curve_Calibrate_r6)
  .ret) .skip)))
  (.seq (.seq (.regd curve_Calibrate_r7 curve_Calibrate_a7)
  (.cond (tZ 41) (.seq (.reg curve_Calibrate_r8)
  .ret) .skip))
  (.seq (.reg curve_Calibrate_r9)
  (.seq (.seq (.reg curve_Calibrate_r10)
  (.block 0 (.loop (.seq (.reg curve_Calibrate_r11)
  (.seq (.cond (tZ 45) .skip (.exit 0))
  (.seq (.block 1 (.seq (.reg curve_Calibrate_r12)
  (.seq (.reg curve_Calibrate_r13)
  (.regd curve_Calibrate_r14 curve_Calibrate_a14))))
  (.reg curve_Calibrate_r15)))))))
  (.seq (.reg curve_Calibrate_r16)
  .ret))))))), [.cell 4 64, .tmp 5]⟩
theorem curve_Calibrate_s : slimF Try.prog 17 = some curve_Calibrate_c := by kernel_rfl
/-- printworks/curve.Nearest -/
def curve_Nearest_r0 : List SO := [rZ 4 (.assign (ciZ 0))]
def curve_Nearest_r1 : List SO := [mvZ 6 0, rZ 7 (.binOp .mul 3 (ciZ 2) (tZ 6) 3), mvZ 8 1, boZ 9 .add 3 7 8 3, mvZ 10 1, rZ 11 (.binOp .mul 3 (ciZ 2) (tZ 10) 3), asZ 0 9, asZ 1 11]
def curve_Nearest_r2 : List SO := [mvZ 12 0, mvZ 13 1, boZ 14 .quo 3 12 13 3, asZ 5 14]
def curve_Nearest_r3 : List SO := [mvZ 15 0, mvZ 16 1, boZ 17 .rem 3 15 16 3, bcZ 18 .lss 3 17 0 3]
def curve_Nearest_r4 : List SO := [mvZ 19 5, bcZ 20 .sub 3 19 1 3, asZ 5 20]
def curve_Nearest_r5 : List SO := [mvZ 21 5, asZ 4 21]
def curve_Nearest_c : SF := ⟨22, (.seq (.reg curve_Nearest_r0)
  (.seq (.reg curve_Nearest_r1)
  (.seq (.reg curve_Nearest_r2)
  (.seq (.seq (.reg curve_Nearest_r3)
  (.cond (tZ 18) (.reg curve_Nearest_r4) .skip))
  (.seq (.reg curve_Nearest_r5)
  .ret))))), [.tmp 4]⟩
theorem curve_Nearest_s : slimF Try.prog 24 = some curve_Nearest_c := by kernel_rfl
abbrev curve_Nearest_f : Nat := 24
/-- printworks/curve.Check -/
def curve_Check_r0 : List SO := [rZ 1 (.box 64 (tZ 0)), rZ 2 (.assign (ciZ 0))]
def curve_Check_r1 : List SO := [faZ 6 64 1 0, ldZ 7 51 6, rZ 8 (.call ⟨(.builtin .len), #[(tZ 7)], #[51]⟩), asZ 3 8]
def curve_Check_r2 : List SO := [mvZ 10 3, bcZ 11 .gtr 3 10 33 3, asZ 9 11]
def curve_Check_r3 : List SO := [rZ 2 (.assign (ciZ 2))]
def curve_Check_r4 : List SO := [mvZ 13 3, bcZ 14 .lss 3 13 2 3, asZ 12 14]
def curve_Check_r5 : List SO := [rZ 2 (.assign (ciZ 1))]
def curve_Check_r6 : List SO := [faZ 15 64 1 0, ldZ 16 51 15, rZ 17 (.call ⟨(.builtin .len), #[(tZ 16)], #[51]⟩), rZ 18 (.move (ciZ 0))]
def curve_Check_r7 : List SO := [boZ 19 .lss 3 18 17 3]
def curve_Check_r8 : List SO := [mvZ 20 18, iaZ 21 51 16 18, ldZ 22 62 21, rZ 5 (.alloc 62), asZ 4 20, stZ 62 5 22]
def curve_Check_r9 : List SO := [faZ 23 62 5 0, ldZ 24 3 23, bcZ 25 .lss 3 24 0 3, mvZ 26 25, gZ 26 false (faZ 27 62 5 0), gZ 26 false (ldZ 28 3 27), gZ 26 false (bcZ 29 .gtr 3 28 65280 3), rZ 30 (.pick (tZ 26) (.const (.bool true)) (tZ 29)), mvZ 31 30, gZ 31 false (faZ 32 62 5 1), gZ 31 false (ldZ 33 3 32), gZ 31 false (bcZ 34 .lss 3 33 0 3), rZ 35 (.pick (tZ 31) (.const (.bool true)) (tZ 34)), mvZ 36 35, gZ 36 false (faZ 37 62 5 1), gZ 36 false (ldZ 38 3 37), gZ 36 false (bcZ 39 .gtr 3 38 65280 3), rZ 40 (.pick (tZ 36) (.const (.bool true)) (tZ 39))]
def curve_Check_r10 : List SO := [rZ 2 (.assign (ciZ 3))]
def curve_Check_r11 : List SO := [mvZ 41 4, bcZ 42 .gtr 3 41 0 3, mvZ 43 42, gZ 43 true (faZ 44 62 5 0), gZ 43 true (ldZ 45 3 44), gZ 43 true (faZ 46 64 1 0), gZ 43 true (ldZ 47 51 46), gZ 43 true (mvZ 48 4), gZ 43 true (bcZ 49 .sub 3 48 1 3), gZ 43 true (iaZ 50 51 47 49), gZ 43 true (faZ 51 62 50 0), gZ 43 true (ldZ 52 3 51), gZ 43 true (boZ 53 .leq 3 45 52 3), gZ 43 true (mvZ 54 53), gZ 54 false (faZ 55 62 5 1), gZ 54 false (ldZ 56 3 55), gZ 54 false (faZ 57 64 1 0), gZ 54 false (ldZ 58 51 57), gZ 54 false (mvZ 59 4), gZ 54 false (bcZ 60 .sub 3 59 1 3), gZ 54 false (iaZ 61 51 58 60), gZ 54 false (faZ 62 62 61 1), gZ 54 false (ldZ 63 3 62), gZ 54 false (boZ 64 .lss 3 56 63 3), gZ 43 true (rZ 65 (.pick (tZ 54) (.const (.bool true)) (tZ 64))), rZ 66 (.pick (tZ 43) (tZ 65) (.const (.bool false)))]
def curve_Check_a11 : List (List Nat) := [[], [0], [1], [2], [3, 2], [2], [5, 2], [2], [7, 2], [6, 8, 2], [9, 2], [10, 2], [4, 11, 2], [12, 2, 2], [13], [14, 13], [13], [16, 13], [13], [18, 13], [17, 19, 13], [20, 13], [21, 13], [15, 22, 13], [13, 23, 2], [2, 24]]
def curve_Check_r12 : List SO := [rZ 2 (.assign (ciZ 18))]
def curve_Check_r13 : List SO := [bcZ 67 .add 3 18 1 3, mvZ 18 67]
def curve_Check_r14 : List SO := [faZ 68 64 1 0, ldZ 69 51 68, rZ 70 (.indexAddr 51 (tZ 69) (ciZ 0)), faZ 71 62 70 0, ldZ 72 3 71, bcZ 73 .neq 3 72 0 3, mvZ 74 73, gZ 74 false (faZ 75 64 1 0), gZ 74 false (ldZ 76 51 75), gZ 74 false (faZ 77 64 1 0), gZ 74 false (ldZ 78 51 77), gZ 74 false (rZ 79 (.call ⟨(.builtin .len), #[(tZ 78)], #[51]⟩)), gZ 74 false (bcZ 80 .sub 3 79 1 3), gZ 74 false (iaZ 81 51 76 80), gZ 74 false (faZ 82 62 81 0), gZ 74 false (ldZ 83 3 82), gZ 74 false (bcZ 84 .neq 3 83 65280 3), rZ 85 (.pick (tZ 74) (.const (.bool true)) (tZ 84))]
def curve_Check_r15 : List SO := [rZ 2 (.assign (ciZ 4))]
def curve_Check_r16 : List SO := [rZ 2 (.assign (ciZ 0))]
def curve_Check_c : SF := ⟨86, (.seq (.reg curve_Check_r0)
  (.seq (.seq (.reg curve_Check_r1)
  (.block 0 (.seq (.reg curve_Check_r2)
  (.cond (tZ 9) (.seq (.reg curve_Check_r3)
  .ret) (.seq (.reg curve_Check_r4)
  (.cond (tZ 12) (.seq (.reg curve_Check_r5)
  .ret) .skip))))))
  (.seq (.seq (.reg curve_Check_r6)
  (.block 1 (.loop (.seq (.reg curve_Check_r7)
  (.seq (.cond (tZ 19) .skip (.exit 1))
  (.seq (.block 2 (.seq (.reg curve_Check_r8)
  (.seq (.seq (.reg curve_Check_r9)
  (.cond (tZ 40) (.seq (.reg curve_Check_r10)
  .ret) .skip))
  (.seq (.regd curve_Check_r11 curve_Check_a11)
  (.cond (tZ 66) (.seq (.reg curve_Check_r12)
  .ret) .skip)))))
  (.reg curve_Check_r13)))))))
  (.seq (.seq (.reg curve_Check_r14)
  (.cond (tZ 85) (.seq (.reg curve_Check_r15)
  .ret) .skip))
  (.seq (.reg curve_Check_r16)
  .ret))))), [.tmp 2]⟩
theorem curve_Check_s : slimF Try.prog 33 = some curve_Check_c := by kernel_rfl
/-- printworks/curve.Raw -/
def curve_Raw_r0 : List SO := [rZ 2 (.box 64 (tZ 0)), rZ 4 (.assign (ciZ 0))]
def curve_Raw_r1 : List SO := [faZ 10 64 2 0, ldZ 11 51 10, rZ 12 (.call ⟨(.builtin .len), #[(tZ 11)], #[51]⟩), bcZ 13 .sub 3 12 1 3, rZ 5 (.assign (ciZ 0)), asZ 6 13]
def curve_Raw_a1 : List (List Nat) := [[], [0], [1], [2], [], [3, 4, 0, 1, 2, 3, 4]]
def curve_Raw_r2 : List SO := [mvZ 14 6, mvZ 15 5, boZ 16 .sub 3 14 15 3, bcZ 17 .gtr 3 16 1 3]
def curve_Raw_r3 : List SO := [mvZ 18 5, mvZ 19 6, boZ 20 .add 3 18 19 3, bcZ 21 .quo 3 20 2 3, asZ 7 21]
def curve_Raw_r4 : List SO := [faZ 22 64 2 0, ldZ 23 51 22, mvZ 24 7, iaZ 25 51 23 24, faZ 26 62 25 0, ldZ 27 3 26, mvZ 28 1, boZ 29 .leq 3 27 28 3]
def curve_Raw_r5 : List SO := [mvZ 30 7, asZ 5 30]
def curve_Raw_r6 : List SO := [mvZ 31 7, asZ 6 31]
def curve_Raw_r7 : List SO := [faZ 32 64 2 0, ldZ 33 51 32, mvZ 34 5, iaZ 35 51 33 34, ldZ 36 62 35, faZ 37 64 2 0, ldZ 38 51 37, mvZ 39 6, iaZ 40 51 38 39, ldZ 41 62 40, rZ 8 (.alloc 62), rZ 9 (.alloc 62), stZ 62 8 36, stZ 62 9 41]
def curve_Raw_a7 : List (List Nat) := [[], [0], [], [1, 2], [3], [], [5], [], [6, 7], [8], [], [], [10, 4, 0, 1, 2, 3, 4, 10, 11], [11, 9, 12, 0, 1, 2, 3, 4, 5, 6, 7, 8, 9, 10, 11, 12]]
def curve_Raw_r8 : List SO := [faZ 42 62 8 1, ldZ 43 3 42, faZ 44 62 9 1, ldZ 45 3 44, faZ 46 62 8 1, ldZ 47 3 46, boZ 48 .sub 3 45 47 3, mvZ 49 1, faZ 50 62 8 0, ldZ 51 3 50, boZ 52 .sub 3 49 51 3, boZ 53 .mul 3 48 52 3, faZ 54 62 9 0, ldZ 55 3 54, faZ 56 62 8 0, ldZ 57 3 56, boZ 58 .sub 3 55 57 3, rZ 59 (.call ⟨(.value (.func (24 : Nat))), #[(tZ 53), (tZ 58)], #[3, 3]⟩), boZ 60 .add 3 43 59 3, asZ 4 60]
def curve_Raw_a8 : List (List Nat) := [[], [0], [], [2], [], [4], [3, 5], [], [], [8], [7, 9], [6, 10], [], [12], [], [14], [13, 15], [11, 16], [1, 17], [18, 17, 0, 1, 2, 3, 4, 5, 6, 7, 8, 9, 10, 11, 12, 13, 14, 15, 16, 17, 18]]
def curve_Raw_c : SF := ⟨61, (.seq (.reg curve_Raw_r0)
  (.seq (.regd curve_Raw_r1 curve_Raw_a1)
  (.seq (.block 0 (.loop (.seq (.seq (.reg curve_Raw_r2)
  (.cond (tZ 17) .skip (.exit 0)))
  (.block 1 (.seq (.reg curve_Raw_r3)
  (.seq (.reg curve_Raw_r4)
  (.cond (tZ 29) (.reg curve_Raw_r5) (.reg curve_Raw_r6))))))))
  (.seq (.regd curve_Raw_r7 curve_Raw_a7)
  (.seq (.regd curve_Raw_r8 curve_Raw_a8)
  .ret))))), [.tmp 4]⟩
theorem curve_Raw_s : slimF Try.prog 35 = some curve_Raw_c := by kernel_rfl
/-- printworks/curve.least -/
def curve_least_r0 : List SO := [rZ 2 (.box 64 (tZ 0)), rZ 4 (.assign (ciZ 0))]
def curve_least_r1 : List SO := [rZ 5 (.assign (.const (.int .i64 (-1)))), rZ 6 (.assign (ciZ 65280))]
def curve_least_r2 : List SO := [mvZ 8 6, mvZ 9 5, boZ 10 .sub 3 8 9 3, bcZ 11 .gtr 3 10 1 3]
def curve_least_r3 : List SO := [mvZ 12 5, mvZ 13 6, boZ 14 .add 3 12 13 3, bcZ 15 .quo 3 14 2 3, asZ 7 15]
def curve_least_r4 : List SO := [ldZ 16 64 2, mvZ 17 7, rZ 18 (.call ⟨(.value (.func (35 : Nat))), #[(tZ 16), (tZ 17)], #[64, 3]⟩), mvZ 19 1, boZ 20 .geq 3 18 19 3]
def curve_least_r5 : List SO := [mvZ 21 7, asZ 6 21]
def curve_least_r6 : List SO := [mvZ 22 7, asZ 5 22]
def curve_least_r7 : List SO := [mvZ 23 6, asZ 4 23]
def curve_least_c : SF := ⟨24, (.seq (.reg curve_least_r0)
  (.seq (.reg curve_least_r1)
  (.seq (.block 0 (.loop (.seq (.seq (.reg curve_least_r2)
  (.cond (tZ 11) .skip (.exit 0)))
  (.block 1 (.seq (.reg curve_least_r3)
  (.seq (.reg curve_least_r4)
  (.cond (tZ 20) (.reg curve_least_r5) (.reg curve_least_r6))))))))
  (.seq (.reg curve_least_r7)
  .ret)))), [.tmp 4]⟩
theorem curve_least_s : slimF Try.prog 34 = some curve_least_c := by kernel_rfl
def tbl_curve : List (Nat × SF) := [(16, curve_Fit_c), (17, curve_Calibrate_c), (24, curve_Nearest_c), (33, curve_Check_c), (35, curve_Raw_c), (34, curve_least_c)]
theorem tbl_curve_ok : okT Try.prog tbl_curve := ⟨curve_Fit_s, curve_Calibrate_s, curve_Nearest_s, curve_Check_s, curve_Raw_s, curve_least_s, trivial⟩

end Go.Proofs.Ytihminfnphichaa
namespace Go.Proofs.Ytihminfnphichaa
open Go Go.Lite
set_option linter.unusedVariables false

/-- printworks/bitmap.Blank -/
def bitmap_Blank_r0 : List SO := [rZ 4 (.alloc 33)]
def bitmap_Blank_r1 : List SO := [mvZ 5 0, mvZ 6 1, mvZ 7 0, rZ 8 (.call ⟨(.value (.func (37 : Nat))), #[(tZ 7)], #[3]⟩), mvZ 9 1, boZ 10 .mul 3 8 9 3, rZ 11 (.makeSlice 29 (tZ 10) (tZ 10)), rZ 12 (.build 33 #[(0, (tZ 5)), (1, (tZ 6)), (2, (tZ 11))]), stZ 33 4 12]
def bitmap_Blank_c : SF := ⟨13, (.seq (.reg bitmap_Blank_r0)
  (.seq (.reg bitmap_Blank_r1)
  .ret)), [.cell 4 33]⟩
theorem bitmap_Blank_s : slimF Try.prog 20 = some bitmap_Blank_c := by kernel_rfl
abbrev bitmap_Blank_f : Nat := 20
/-- printworks/bitmap.Check -/
def bitmap_Check_r0 : List SO := [rZ 1 (.box 33 (tZ 0)), rZ 2 (.assign (ciZ 0))]
def bitmap_Check_r1 : List SO := [faZ 6 33 1 0, ldZ 7 3 6, bcZ 8 .lss 3 7 1 3, mvZ 9 8, gZ 9 false (faZ 10 33 1 0), gZ 9 false (ldZ 11 3 10), gZ 9 false (bcZ 12 .gtr 3 11 1024 3), rZ 13 (.pick (tZ 9) (.const (.bool true)) (tZ 12)), mvZ 14 13, gZ 14 false (faZ 15 33 1 1), gZ 14 false (ldZ 16 3 15), gZ 14 false (bcZ 17 .lss 3 16 1 3), rZ 18 (.pick (tZ 14) (.const (.bool true)) (tZ 17)), mvZ 19 18, gZ 19 false (faZ 20 33 1 1), gZ 19 false (ldZ 21 3 20), gZ 19 false (bcZ 22 .gtr 3 21 1024 3), rZ 23 (.pick (tZ 19) (.const (.bool true)) (tZ 22))]
def bitmap_Check_r2 : List SO := [rZ 2 (.assign (ciZ 3))]
def bitmap_Check_r3 : List SO := [faZ 24 33 1 0, ldZ 25 3 24, rZ 26 (.call ⟨(.value (.func (37 : Nat))), #[(tZ 25)], #[3]⟩), asZ 3 26]
def bitmap_Check_r4 : List SO := [faZ 27 33 1 2, ldZ 28 29 27, rZ 29 (.call ⟨(.builtin .len), #[(tZ 28)], #[29]⟩), mvZ 30 3, faZ 31 33 1 1, ldZ 32 3 31, boZ 33 .mul 3 30 32 3, boZ 34 .neq 3 29 33 3]
def bitmap_Check_r5 : List SO := [rZ 2 (.assign (ciZ 4))]
def bitmap_Check_r6 : List SO := [mvZ 35 3, rZ 36 (.binOp .mul 3 (ciZ 8) (tZ 35) 3), faZ 37 33 1 0, ldZ 38 3 37, boZ 39 .sub 3 36 38 3, rZ 40 (.binOp .shl 5 (.const (.int .u8 1)) (tZ 39) 3), rZ 41 (.binOp .sub 5 (tZ 40) (.const (.int .u8 1)) 5), asZ 4 41]
def bitmap_Check_r7 : List SO := [mvZ 42 4, rZ 43 (.binOp .neq 5 (tZ 42) (.const (.int .u8 0)) 5)]
def bitmap_Check_r8 : List SO := [faZ 44 33 1 1, ldZ 45 3 44, rZ 46 (.move (ciZ 0))]
def bitmap_Check_r9 : List SO := [boZ 47 .lss 3 46 45 3]
def bitmap_Check_r10 : List SO := [mvZ 48 46, asZ 5 48]
def bitmap_Check_r11 : List SO := [faZ 49 33 1 2, ldZ 50 29 49, mvZ 51 5, mvZ 52 3, boZ 53 .mul 3 51 52 3, mvZ 54 3, boZ 55 .add 3 53 54 3, bcZ 56 .sub 3 55 1 3, iaZ 57 29 50 56, ldZ 58 5 57, mvZ 59 4, boZ 60 .and 5 58 59 5, rZ 61 (.binOp .neq 5 (tZ 60) (.const (.int .u8 0)) 5)]
def bitmap_Check_r12 : List SO := [rZ 2 (.assign (ciZ 4))]
def bitmap_Check_r13 : List SO := [bcZ 62 .add 3 46 1 3, mvZ 46 62]
def bitmap_Check_r14 : List SO := [rZ 2 (.assign (ciZ 0))]
def bitmap_Check_c : SF := ⟨63, (.seq (.reg bitmap_Check_r0)
  (.seq (.seq (.reg bitmap_Check_r1)
  (.cond (tZ 23) (.seq (.reg bitmap_Check_r2)
  .ret) .skip))
  (.seq (.reg bitmap_Check_r3)
  (.seq (.seq (.reg bitmap_Check_r4)
  (.cond (tZ 34) (.seq (.reg bitmap_Check_r5)
  .ret) .skip))
  (.seq (.seq (.reg bitmap_Check_r6)
  (.seq (.reg bitmap_Check_r7)
  (.cond (tZ 43) (.seq (.reg bitmap_Check_r8)
  (.block 0 (.loop (.seq (.reg bitmap_Check_r9)
  (.seq (.cond (tZ 47) .skip (.exit 0))
  (.seq (.block 1 (.seq (.reg bitmap_Check_r10)
  (.seq (.reg bitmap_Check_r11)
  (.cond (tZ 61) (.seq (.reg bitmap_Check_r12)
  .ret) .skip))))
  (.reg bitmap_Check_r13))))))) .skip)))
  (.seq (.reg bitmap_Check_r14)
  .ret)))))), [.tmp 2]⟩
theorem bitmap_Check_s : slimF Try.prog 22 = some bitmap_Check_c := by kernel_rfl
abbrev bitmap_Check_f : Nat := 22
/-- printworks/bitmap.Is -/
def bitmap_Is_r0 : List SO := [rZ 6 (.assign (.const (.bool false)))]
def bitmap_Is_r1 : List SO := [mvZ 7 1, bcZ 8 .geq 3 7 0 3, mvZ 9 8, gZ 9 true (mvZ 10 1), gZ 9 true (mvZ 11 0), gZ 9 true (rZ 12 (.nilCheck (tZ 11))), gZ 9 true (faZ 13 33 12 0), gZ 9 true (ldZ 14 3 13), gZ 9 true (boZ 15 .lss 3 10 14 3), rZ 16 (.pick (tZ 9) (tZ 15) (.const (.bool false))), mvZ 17 16, gZ 17 true (mvZ 18 2), gZ 17 true (bcZ 19 .geq 3 18 0 3), rZ 20 (.pick (tZ 17) (tZ 19) (.const (.bool false))), mvZ 21 20, gZ 21 true (mvZ 22 2), gZ 21 true (mvZ 23 0), gZ 21 true (rZ 24 (.nilCheck (tZ 23))), gZ 21 true (faZ 25 33 24 1), gZ 21 true (ldZ 26 3 25), gZ 21 true (boZ 27 .lss 3 22 26 3), rZ 28 (.pick (tZ 21) (tZ 27) (.const (.bool false))), mvZ 29 28, gZ 29 true (mvZ 30 0), gZ 29 true (rZ 31 (.nilCheck (tZ 30))), gZ 29 true (faZ 32 33 31 2), gZ 29 true (ldZ 33 29 32), gZ 29 true (mvZ 34 2), gZ 29 true (mvZ 35 0), gZ 29 true (rZ 36 (.nilCheck (tZ 35))), gZ 29 true (faZ 37 33 36 0), gZ 29 true (ldZ 38 3 37), gZ 29 true (rZ 39 (.call ⟨(.value (.func (37 : Nat))), #[(tZ 38)], #[3]⟩)), gZ 29 true (boZ 40 .mul 3 34 39 3), gZ 29 true (mvZ 41 1), gZ 29 true (bcZ 42 .quo 3 41 8 3), gZ 29 true (boZ 43 .add 3 40 42 3), gZ 29 true (iaZ 44 29 33 43), gZ 29 true (ldZ 45 5 44), gZ 29 true (mvZ 46 1), gZ 29 true (bcZ 47 .rem 3 46 8 3), gZ 29 true (rZ 48 (.binOp .shr 5 (.const (.int .u8 128)) (tZ 47) 3)), gZ 29 true (boZ 49 .and 5 45 48 5), gZ 29 true (rZ 50 (.binOp .neq 5 (tZ 49) (.const (.int .u8 0)) 5)), rZ 51 (.pick (tZ 29) (tZ 50) (.const (.bool false))), asZ 6 51]
def bitmap_Is_a1 : List (List Nat) := [[], [0], [1], [2], [2], [4, 2], [5, 2], [6, 2], [3, 7, 2], [2, 8], [9, 2], [10], [11, 10], [10, 12], [13, 10], [14], [14], [16, 14], [17, 14], [18, 14], [15, 19, 14], [14, 20], [21, 14], [22], [23, 22], [24, 22], [25, 22], [22], [22], [28, 22], [29, 22], [30, 22], [31, 22, 22], [27, 32, 22], [22], [34, 22], [33, 35, 22], [26, 36, 22], [37, 22], [22], [39, 22], [40, 22], [38, 41, 22], [42, 22], [22, 43], [44, 32, 0, 1, 2, 3, 4, 5, 6, 7, 8, 9, 10, 11, 12, 13, 14, 15, 16, 17, 18, 19, 20, 21, 22, 23, 24, 25, 26, 27, 28, 29, 30, 31, 32, 33, 34, 35, 36, 37, 38, 39, 40, 41, 42, 43, 44]]
def bitmap_Is_c : SF := ⟨52, (.seq (.reg bitmap_Is_r0)
  (.seq (.regd bitmap_Is_r1 bitmap_Is_a1)
  .ret)), [.tmp 6]⟩
theorem bitmap_Is_s : slimF Try.prog 23 = some bitmap_Is_c := by kernel_rfl
abbrev bitmap_Is_f : Nat := 23
/-- printworks/bitmap.Count -/
def bitmap_Count_r0 : List SO := [rZ 1 (.box 33 (tZ 0)), rZ 2 (.assign (ciZ 0)), rZ 3 (.assign (ciZ 0))]
def bitmap_Count_r1 : List SO := [ldZ 8 33 1, rZ 9 (.call ⟨(.value (.func (22 : Nat))), #[(tZ 8)], #[33]⟩), asZ 4 9]
def bitmap_Count_r2 : List SO := [mvZ 10 4, bcZ 11 .neq 34 10 0 34]
def bitmap_Count_r3 : List SO := [mvZ 12 4, rZ 2 (.assign (ciZ 0)), asZ 3 12]
def bitmap_Count_r4 : List SO := [rZ 5 (.assign (ciZ 0))]
def bitmap_Count_r5 : List SO := [faZ 13 33 1 2, ldZ 14 29 13, rZ 15 (.call ⟨(.builtin .len), #[(tZ 14)], #[29]⟩), rZ 16 (.move (ciZ 0))]
def bitmap_Count_r6 : List SO := [boZ 17 .lss 3 16 15 3]
def bitmap_Count_r7 : List SO := [iaZ 18 29 14 16, ldZ 19 5 18, asZ 7 19]
def bitmap_Count_r8 : List SO := [mvZ 20 5, mvZ 21 7, rZ 22 (.call ⟨(.value (.func (48 : Nat))), #[(tZ 21)], #[5]⟩), boZ 23 .add 3 20 22 3, asZ 5 23]
def bitmap_Count_r9 : List SO := [bcZ 24 .add 3 16 1 3, mvZ 16 24]
def bitmap_Count_r10 : List SO := [mvZ 25 5, asZ 2 25, rZ 3 (.assign (ciZ 0))]
def bitmap_Count_c : SF := ⟨26, (.seq (.reg bitmap_Count_r0)
  (.seq (.seq (.reg bitmap_Count_r1)
  (.seq (.reg bitmap_Count_r2)
  (.cond (tZ 11) (.seq (.reg bitmap_Count_r3)
  .ret) .skip)))
  (.seq (.reg bitmap_Count_r4)
  (.seq (.seq (.reg bitmap_Count_r5)
  (.block 0 (.loop (.seq (.reg bitmap_Count_r6)
  (.seq (.cond (tZ 17) .skip (.exit 0))
  (.seq (.block 1 (.seq (.reg bitmap_Count_r7)
  (.reg bitmap_Count_r8)))
  (.reg bitmap_Count_r9)))))))
  (.seq (.reg bitmap_Count_r10)
  .ret))))), [.tmp 2, .tmp 3]⟩
theorem bitmap_Count_s : slimF Try.prog 29 = some bitmap_Count_c := by kernel_rfl
/-- printworks/bitmap.Grown -/
def bitmap_Grown_r0 : List SO := [rZ 4 (.alloc 33)]
def bitmap_Grown_r1 : List SO := [mvZ 7 0, rZ 8 (.nilCheck (tZ 7)), ldZ 9 33 8, rZ 5 (.alloc 33), stZ 33 5 9]
def bitmap_Grown_r2 : List SO := [mvZ 10 0, rZ 11 (.nilCheck (tZ 10)), faZ 12 33 11 2, ldZ 13 29 12, rZ 14 (.call ⟨(.builtin .append), #[(.const (.slice none 0 0)), (tZ 13)], #[29, 29]⟩), faZ 15 33 5 2, stZ 29 15 14]
def bitmap_Grown_r3 : List SO := [mvZ 16 1, rZ 17 (.move (ciZ 0))]
def bitmap_Grown_r4 : List SO := [boZ 18 .lss 3 17 16 3]
def bitmap_Grown_r5 : List SO := [ldZ 19 33 5, rZ 6 (.alloc 33), stZ 33 6 19]
def bitmap_Grown_r6 : List SO := [faZ 20 33 6 0, ldZ 21 3 20, faZ 22 33 6 1, ldZ 23 3 22, rZ 24 (.makeFunc (.func (50 : Nat)) #[] #[(tZ 6)]), rZ 25 (.call ⟨(.value (.func (49 : Nat))), #[(tZ 21), (tZ 23), (tZ 24)], #[3, 3, 120]⟩), stZ 33 5 25]
def bitmap_Grown_r7 : List SO := [bcZ 26 .add 3 17 1 3, mvZ 17 26]
def bitmap_Grown_r8 : List SO := [ldZ 27 33 5, stZ 33 4 27]
def bitmap_Grown_c : SF := ⟨28, (.seq (.reg bitmap_Grown_r0)
  (.seq (.reg bitmap_Grown_r1)
  (.seq (.reg bitmap_Grown_r2)
  (.seq (.seq (.reg bitmap_Grown_r3)
  (.block 0 (.loop (.seq (.reg bitmap_Grown_r4)
  (.seq (.cond (tZ 18) .skip (.exit 0))
  (.seq (.block 1 (.seq (.reg bitmap_Grown_r5)
  (.reg bitmap_Grown_r6)))
  (.reg bitmap_Grown_r7)))))))
  (.seq (.reg bitmap_Grown_r8)
  .ret))))), [.cell 4 33]⟩
theorem bitmap_Grown_s : slimF Try.prog 31 = some bitmap_Grown_c := by kernel_rfl
/-- printworks/bitmap.stride -/
def bitmap_stride_r0 : List SO := [rZ 2 (.assign (ciZ 0))]
def bitmap_stride_r1 : List SO := [mvZ 3 0, bcZ 4 .add 3 3 7 3, bcZ 5 .quo 3 4 8 3, asZ 2 5]
def bitmap_stride_c : SF := ⟨6, (.seq (.reg bitmap_stride_r0)
  (.seq (.reg bitmap_stride_r1)
  .ret)), [.tmp 2]⟩
theorem bitmap_stride_s : slimF Try.prog 37 = some bitmap_stride_c := by kernel_rfl
abbrev bitmap_stride_f : Nat := 37
/-- printworks/bitmap.Grown$1 -/
def bitmap_Grown_1_r0 : List SO := [rZ 5 (.assign (.const (.bool false)))]
def bitmap_Grown_1_r1 : List SO := [mvZ 6 0, mvZ 7 1, rZ 8 (.call ⟨(.value (.func (23 : Nat))), #[(tZ 2), (tZ 6), (tZ 7)], #[77, 3, 3]⟩), mvZ 9 8, gZ 9 false (mvZ 10 0), gZ 9 false (bcZ 11 .sub 3 10 1 3), gZ 9 false (mvZ 12 1), gZ 9 false (rZ 13 (.call ⟨(.value (.func (23 : Nat))), #[(tZ 2), (tZ 11), (tZ 12)], #[77, 3, 3]⟩)), rZ 14 (.pick (tZ 9) (.const (.bool true)) (tZ 13)), mvZ 15 14, gZ 15 false (mvZ 16 0), gZ 15 false (bcZ 17 .add 3 16 1 3), gZ 15 false (mvZ 18 1), gZ 15 false (rZ 19 (.call ⟨(.value (.func (23 : Nat))), #[(tZ 2), (tZ 17), (tZ 18)], #[77, 3, 3]⟩)), rZ 20 (.pick (tZ 15) (.const (.bool true)) (tZ 19)), mvZ 21 20, gZ 21 false (mvZ 22 0), gZ 21 false (mvZ 23 1), gZ 21 false (bcZ 24 .sub 3 23 1 3), gZ 21 false (rZ 25 (.call ⟨(.value (.func (23 : Nat))), #[(tZ 2), (tZ 22), (tZ 24)], #[77, 3, 3]⟩)), rZ 26 (.pick (tZ 21) (.const (.bool true)) (tZ 25)), mvZ 27 26, gZ 27 false (mvZ 28 0), gZ 27 false (mvZ 29 1), gZ 27 false (bcZ 30 .add 3 29 1 3), gZ 27 false (rZ 31 (.call ⟨(.value (.func (23 : Nat))), #[(tZ 2), (tZ 28), (tZ 30)], #[77, 3, 3]⟩)), rZ 32 (.pick (tZ 27) (.const (.bool true)) (tZ 31)), asZ 5 32]
def bitmap_Grown_1_c : SF := ⟨33, (.seq (.reg bitmap_Grown_1_r0)
  (.seq (.reg bitmap_Grown_1_r1)
  .ret)), [.tmp 5]⟩
theorem bitmap_Grown_1_s : slimF Try.prog 50 = some bitmap_Grown_1_c := by kernel_rfl
/-- printworks/bitmap.from -/
def bitmap_from_r0 : List SO := [rZ 6 (.alloc 33)]
def bitmap_from_r1 : List SO := [mvZ 10 0, mvZ 11 1, rZ 12 (.call ⟨(.value (.func (20 : Nat))), #[(tZ 10), (tZ 11)], #[3, 3]⟩), rZ 7 (.alloc 33), stZ 33 7 12]
def bitmap_from_r2 : List SO := [mvZ 13 1, rZ 14 (.move (ciZ 0))]
def bitmap_from_r3 : List SO := [boZ 15 .lss 3 14 13 3]
def bitmap_from_r4 : List SO := [mvZ 16 14, asZ 8 16]
def bitmap_from_r5 : List SO := [mvZ 17 0, rZ 18 (.move (ciZ 0))]
def bitmap_from_r6 : List SO := [boZ 19 .lss 3 18 17 3]
def bitmap_from_r7 : List SO := [mvZ 20 18, asZ 9 20]
def bitmap_from_r8 : List SO := [mvZ 21 2, mvZ 22 9, mvZ 23 8, rZ 24 (.call ⟨(.value (tZ 21)), #[(tZ 22), (tZ 23)], #[3, 3]⟩)]
def bitmap_from_r9 : List SO := [mvZ 25 9, mvZ 26 8, rZ 27 (.call ⟨(.value (.func (60 : Nat))), #[(tZ 7), (tZ 25), (tZ 26)], #[77, 3, 3]⟩)]
def bitmap_from_r10 : List SO := [bcZ 28 .add 3 18 1 3, mvZ 18 28]
def bitmap_from_r11 : List SO := [bcZ 29 .add 3 14 1 3, mvZ 14 29]
def bitmap_from_r12 : List SO := [ldZ 30 33 7, stZ 33 6 30]
def bitmap_from_c : SF := ⟨31, (.seq (.reg bitmap_from_r0)
  (.seq (.reg bitmap_from_r1)
  (.seq (.seq (.reg bitmap_from_r2)
  (.block 0 (.loop (.seq (.reg bitmap_from_r3)
  (.seq (.cond (tZ 15) .skip (.exit 0))
  (.seq (.block 1 (.seq (.reg bitmap_from_r4)
  (.seq (.reg bitmap_from_r5)
  (.block 2 (.loop (.seq (.reg bitmap_from_r6)
  (.seq (.cond (tZ 19) .skip (.exit 2))
  (.seq (.block 3 (.seq (.reg bitmap_from_r7)
  (.seq (.reg bitmap_from_r8)
  (.cond (tZ 24) (.reg bitmap_from_r9) .skip))))
  (.reg bitmap_from_r10)))))))))
  (.reg bitmap_from_r11)))))))
  (.seq (.reg bitmap_from_r12)
  .ret)))), [.cell 6 33]⟩
theorem bitmap_from_s : slimF Try.prog 49 = some bitmap_from_c := by kernel_rfl
/-- printworks/bitmap.Mark -/
def bitmap_Mark_r0 : List SO := [mvZ 6 0, rZ 7 (.nilCheck (tZ 6)), faZ 8 33 7 2, ldZ 9 29 8, mvZ 10 2, mvZ 11 0, rZ 12 (.nilCheck (tZ 11)), faZ 13 33 12 0, ldZ 14 3 13, rZ 15 (.call ⟨(.value (.func (37 : Nat))), #[(tZ 14)], #[3]⟩), boZ 16 .mul 3 10 15 3, mvZ 17 1, bcZ 18 .quo 3 17 8 3, boZ 19 .add 3 16 18 3, iaZ 20 29 9 19, ldZ 21 5 20, mvZ 22 1, bcZ 23 .rem 3 22 8 3, rZ 24 (.binOp .shr 5 (.const (.int .u8 128)) (tZ 23) 3), boZ 25 .or 5 21 24 5, iaZ 26 29 9 19, stZ 5 26 25]
def bitmap_Mark_a0 : List (List Nat) := [[], [0], [1], [2], [], [], [5], [6], [7], [8], [4, 9], [], [11], [10, 12], [3, 13], [14], [], [16], [17], [15, 18], [3, 13, 0, 1, 2, 3, 4, 5, 6, 7, 8, 9, 10, 11, 12, 13, 14, 15, 16, 17, 18, 19], [20, 19, 9, 0, 1, 2, 3, 4, 5, 6, 7, 8, 9, 10, 11, 12, 13, 14, 15, 16, 17, 18, 19]]
def bitmap_Mark_c : SF := ⟨27, (.regd bitmap_Mark_r0 bitmap_Mark_a0), []⟩
theorem bitmap_Mark_s : slimF Try.prog 60 = some bitmap_Mark_c := by kernel_rfl
def tbl_bitmap : List (Nat × SF) := [(20, bitmap_Blank_c), (22, bitmap_Check_c), (23, bitmap_Is_c), (29, bitmap_Count_c), (31, bitmap_Grown_c), (37, bitmap_stride_c), (50, bitmap_Grown_1_c), (49, bitmap_from_c), (60, bitmap_Mark_c)]
theorem tbl_bitmap_ok : okT Try.prog tbl_bitmap := ⟨bitmap_Blank_s, bitmap_Check_s, bitmap_Is_s, bitmap_Count_s, bitmap_Grown_s, bitmap_stride_s, bitmap_Grown_1_s, bitmap_from_s, bitmap_Mark_s, trivial⟩

end Go.Proofs.Ytihminfnphichaa
namespace Go.Proofs.Ytihminfnphichaa
open Go Go.Lite
set_option linter.unusedVariables false

/-- printworks/printworkstop.sPress -/
def T_sPress_r0 : List SO := [rZ 0 (.assign (.const (.bool false)))]
def T_sPress_r1 : List SO := [rZ 4 (.buildSlice 25 1 #[(0, (ciZ 8000))]), rZ 5 (.buildSlice 25 1 #[(0, (ciZ 500))]), rZ 6 (.buildSlice 37 1 #[(0, (tZ 5))]), rZ 7 (.buildSlice 25 1 #[(0, (ciZ 0))]), rZ 8 (.buildSlice 37 1 #[(0, (tZ 7))]), rZ 9 (.build 44 #[(0, (ciZ 1)), (4, (tZ 4)), (5, (tZ 6)), (6, (tZ 8))]), rZ 10 (.call ⟨(.value (.func (9 : Nat))), #[(tZ 9), (.const (.slice none 0 0)), (ciZ 2)], #[44, 78, 3]⟩), mvZ 3 10, exZ 11 3 0, exZ 12 3 1, asZ 1 11, asZ 2 12]
def T_sPress_r2 : List SO := [mvZ 13 2, bcZ 14 .eql 34 13 0 34, mvZ 15 14, gZ 15 true (mvZ 16 1), gZ 15 true (rZ 17 (.call ⟨(.builtin .len), #[(tZ 16)], #[40]⟩)), gZ 15 true (bcZ 18 .eql 3 17 2 3), rZ 19 (.pick (tZ 15) (tZ 18) (.const (.bool false))), mvZ 20 19, gZ 20 true (mvZ 21 1), gZ 20 true (rZ 22 (.indexAddr 40 (tZ 21) (ciZ 1))), gZ 20 true (faZ 23 49 22 3), gZ 20 true (ldZ 24 37 23), gZ 20 true (rZ 25 (.call ⟨(.builtin .len), #[(tZ 24)], #[37]⟩)), gZ 20 true (bcZ 26 .eql 3 25 1 3), rZ 27 (.pick (tZ 20) (tZ 26) (.const (.bool false))), mvZ 28 27, gZ 28 true (mvZ 29 1), gZ 28 true (rZ 30 (.indexAddr 40 (tZ 29) (ciZ 1))), gZ 28 true (faZ 31 49 30 3), gZ 28 true (ldZ 32 37 31), gZ 28 true (rZ 33 (.indexAddr 37 (tZ 32) (ciZ 0))), gZ 28 true (ldZ 34 25 33), gZ 28 true (rZ 35 (.call ⟨(.builtin .len), #[(tZ 34)], #[25]⟩)), gZ 28 true (bcZ 36 .eql 3 35 1 3), rZ 37 (.pick (tZ 28) (tZ 36) (.const (.bool false))), mvZ 38 37, gZ 38 true (mvZ 39 1), gZ 38 true (rZ 40 (.indexAddr 40 (tZ 39) (ciZ 1))), gZ 38 true (faZ 41 49 40 3), gZ 38 true (ldZ 42 37 41), gZ 38 true (rZ 43 (.indexAddr 37 (tZ 42) (ciZ 0))), gZ 38 true (ldZ 44 25 43), gZ 38 true (rZ 45 (.indexAddr 25 (tZ 44) (ciZ 0))), gZ 38 true (ldZ 46 3 45), gZ 38 true (bcZ 47 .eql 3 46 1875 3), rZ 48 (.pick (tZ 38) (tZ 47) (.const (.bool false))), mvZ 49 48, gZ 49 true (mvZ 50 1), gZ 49 true (rZ 51 (.indexAddr 40 (tZ 50) (ciZ 0))), gZ 49 true (faZ 52 49 51 4), gZ 49 true (ldZ 53 3 52), gZ 49 true (bcZ 54 .eql 3 53 53 3), rZ 55 (.pick (tZ 49) (tZ 54) (.const (.bool false))), asZ 0 55]
def T_sPress_c : SF := ⟨56, (.seq (.reg T_sPress_r0)
  (.seq (.reg T_sPress_r1)
  (.seq (.reg T_sPress_r2)
  .ret))), [.tmp 0]⟩
theorem T_sPress_s : slimF Try.prog 5 = some T_sPress_c := by kernel_rfl
abbrev T_sPress_f : Nat := 5
/-- printworks/printworkstop.sMod -/
def T_sMod_r0 : List SO := [rZ 4 (.assign (ciZ 0))]
def T_sMod_r1 : List SO := [mvZ 5 0, mvZ 6 1, boZ 7 .rem 3 5 6 3, mvZ 8 1, boZ 9 .add 3 7 8 3, mvZ 10 1, boZ 11 .rem 3 9 10 3, asZ 4 11]
def T_sMod_c : SF := ⟨12, (.seq (.reg T_sMod_r0)
  (.seq (.reg T_sMod_r1)
  .ret)), [.tmp 4]⟩
theorem T_sMod_s : slimF Try.prog 6 = some T_sMod_c := by kernel_rfl
abbrev T_sMod_f : Nat := 6
/-- printworks/printworkstop.sDots -/
def T_sDots_r0 : List SO := [rZ 0 (.assign (.const (.bool false)))]
def T_sDots_r1 : List SO := [rZ 6 (.buildSlice 29 5 #[(0, (.const (.int .u8 128))), (1, (.const (.int .u8 128))), (2, (.const (.int .u8 128))), (3, (.const (.int .u8 128))), (4, (.const (.int .u8 128)))]), rZ 7 (.build 31 #[(0, (ciZ 5)), (1, (ciZ 1)), (2, (tZ 6))]), rZ 8 (.build 24 #[(0, (ciZ 2)), (1, (ciZ 1))]), rZ 9 (.call ⟨(.value (.func (7 : Nat))), #[(tZ 7), (tZ 8)], #[31, 24]⟩), mvZ 5 9, exZ 10 5 0, exZ 11 5 1, rZ 1 (.alloc 33), stZ 33 1 10, asZ 2 11]
def T_sDots_r2 : List SO := [ldZ 13 33 1, rZ 14 (.call ⟨(.value (.func (29 : Nat))), #[(tZ 13)], #[33]⟩), mvZ 12 14, exZ 15 12 0, exZ 16 12 1, asZ 3 15, asZ 4 16]
def T_sDots_r3 : List SO := [mvZ 17 2, bcZ 18 .eql 34 17 0 34, mvZ 19 18, gZ 19 true (mvZ 20 4), gZ 19 true (bcZ 21 .eql 34 20 0 34), rZ 22 (.pick (tZ 19) (tZ 21) (.const (.bool false))), mvZ 23 22, gZ 23 true (mvZ 24 3), gZ 23 true (bcZ 25 .eql 3 24 3 3), rZ 26 (.pick (tZ 23) (tZ 25) (.const (.bool false))), mvZ 27 26, gZ 27 true (faZ 28 33 1 2), gZ 27 true (ldZ 29 29 28), gZ 27 true (rZ 30 (.call ⟨(.builtin .len), #[(tZ 29)], #[29]⟩)), gZ 27 true (bcZ 31 .eql 3 30 1 3), rZ 32 (.pick (tZ 27) (tZ 31) (.const (.bool false))), mvZ 33 32, gZ 33 true (faZ 34 33 1 2), gZ 33 true (ldZ 35 29 34), gZ 33 true (rZ 36 (.indexAddr 29 (tZ 35) (ciZ 0))), gZ 33 true (ldZ 37 5 36), gZ 33 true (rZ 38 (.binOp .eql 5 (tZ 37) (.const (.int .u8 224)) 5)), rZ 39 (.pick (tZ 33) (tZ 38) (.const (.bool false))), asZ 0 39]
def T_sDots_c : SF := ⟨40, (.seq (.reg T_sDots_r0)
  (.seq (.reg T_sDots_r1)
  (.seq (.reg T_sDots_r2)
  (.seq (.reg T_sDots_r3)
  .ret)))), [.tmp 0]⟩
theorem T_sDots_s : slimF Try.prog 11 = some T_sDots_c := by kernel_rfl
/-- printworks/printworkstop.sFlat -/
def T_sFlat_r0 : List SO := [rZ 6 (.alloc 31)]
def T_sFlat_r1 : List SO := [mvZ 9 0, mvZ 10 1, mvZ 11 0, mvZ 12 1, boZ 13 .mul 3 11 12 3, rZ 14 (.makeSlice 29 (tZ 13) (tZ 13)), rZ 15 (.build 31 #[(0, (tZ 9)), (1, (tZ 10)), (2, (tZ 14))]), rZ 7 (.alloc 31), stZ 31 7 15]
def T_sFlat_r2 : List SO := [faZ 16 31 7 2, ldZ 17 29 16, rZ 18 (.call ⟨(.builtin .len), #[(tZ 17)], #[29]⟩), rZ 19 (.move (ciZ 0))]
def T_sFlat_r3 : List SO := [boZ 20 .lss 3 19 18 3]
def T_sFlat_r4 : List SO := [mvZ 21 19, asZ 8 21]
def T_sFlat_r5 : List SO := [faZ 22 31 7 2, ldZ 23 29 22, mvZ 24 8, mvZ 25 2, iaZ 26 29 23 24, stZ 5 26 25]
def T_sFlat_r6 : List SO := [bcZ 27 .add 3 19 1 3, mvZ 19 27]
def T_sFlat_r7 : List SO := [ldZ 28 31 7, stZ 31 6 28]
def T_sFlat_c : SF := ⟨29, (.seq (.reg T_sFlat_r0)
  (.seq (.reg T_sFlat_r1)
  (.seq (.seq (.reg T_sFlat_r2)
  (.block 0 (.loop (.seq (.reg T_sFlat_r3)
  (.seq (.cond (tZ 20) .skip (.exit 0))
  (.seq (.block 1 (.seq (.reg T_sFlat_r4)
  (.reg T_sFlat_r5)))
  (.reg T_sFlat_r6)))))))
  (.seq (.reg T_sFlat_r7)
  .ret)))), [.cell 6 31]⟩
theorem T_sFlat_s : slimF Try.prog 12 = some T_sFlat_c := by kernel_rfl
/-- printworks/printworkstop.sLine -/
def T_sLine_r0 : List SO := [rZ 0 (.alloc 64)]
def T_sLine_r1 : List SO := [rZ 1 (.build 62 #[]), rZ 2 (.build 62 #[(0, (ciZ 65280)), (1, (ciZ 65280))]), rZ 3 (.buildSlice 51 2 #[(0, (tZ 1)), (1, (tZ 2))]), rZ 4 (.build 64 #[(0, (tZ 3))]), stZ 64 0 4]
def T_sLine_c : SF := ⟨5, (.seq (.reg T_sLine_r0)
  (.seq (.reg T_sLine_r1)
  .ret)), [.cell 0 64]⟩
theorem T_sLine_s : slimF Try.prog 18 = some T_sLine_c := by kernel_rfl
def tbl_T : List (Nat × SF) := [(5, T_sPress_c), (6, T_sMod_c), (11, T_sDots_c), (12, T_sFlat_c), (18, T_sLine_c)]
theorem tbl_T_ok : okT Try.prog tbl_T := ⟨T_sPress_s, T_sMod_s, T_sDots_s, T_sFlat_s, T_sLine_s, trivial⟩

end Go.Proofs.Ytihminfnphichaa
namespace Go.Proofs.Ytihminfnphichaa
open Go Go.Lite
set_option linter.unusedVariables false

/-- printworks/screen.Check -/
def screen_Check_r0 : List SO := [rZ 1 (.box 24 (tZ 0)), rZ 2 (.assign (ciZ 0))]
def screen_Check_r1 : List SO := [faZ 4 24 1 0, ldZ 5 3 4, bcZ 6 .lss 3 5 0 3, mvZ 7 6, gZ 7 false (faZ 8 24 1 0), gZ 7 false (ldZ 9 3 8), gZ 7 false (bcZ 10 .gtr 3 9 20 3), rZ 11 (.pick (tZ 7) (.const (.bool true)) (tZ 10)), mvZ 12 11, gZ 12 false (faZ 13 24 1 1), gZ 12 false (ldZ 14 3 13), gZ 12 false (bcZ 15 .lss 3 14 0 3), rZ 16 (.pick (tZ 12) (.const (.bool true)) (tZ 15)), mvZ 17 16, gZ 17 false (faZ 18 24 1 1), gZ 17 false (ldZ 19 3 18), gZ 17 false (bcZ 20 .gtr 3 19 20 3), rZ 21 (.pick (tZ 17) (.const (.bool true)) (tZ 20)), mvZ 22 21, gZ 22 false (faZ 23 24 1 2), gZ 22 false (ldZ 24 3 23), gZ 22 false (bcZ 25 .lss 3 24 0 3), rZ 26 (.pick (tZ 22) (.const (.bool true)) (tZ 25)), mvZ 27 26, gZ 27 false (faZ 28 24 1 2), gZ 27 false (ldZ 29 3 28), gZ 27 false (bcZ 30 .gtr 3 29 3 3), rZ 31 (.pick (tZ 27) (.const (.bool true)) (tZ 30))]
def screen_Check_r2 : List SO := [rZ 2 (.assign (ciZ 3))]
def screen_Check_r3 : List SO := [faZ 32 24 1 0, ldZ 33 3 32, faZ 34 24 1 0, ldZ 35 3 34, boZ 36 .mul 3 33 35 3, faZ 37 24 1 1, ldZ 38 3 37, faZ 39 24 1 1, ldZ 40 3 39, boZ 41 .mul 3 38 40 3, boZ 42 .add 3 36 41 3, asZ 3 42]
def screen_Check_r4 : List SO := [mvZ 44 3, bcZ 45 .eql 3 44 0 3, asZ 43 45]
def screen_Check_r5 : List SO := [rZ 2 (.assign (ciZ 1))]
def screen_Check_r6 : List SO := [mvZ 47 3, bcZ 48 .gtr 3 47 400 3, asZ 46 48]
def screen_Check_r7 : List SO := [rZ 2 (.assign (ciZ 2))]
def screen_Check_r8 : List SO := [rZ 2 (.assign (ciZ 0))]
def screen_Check_c : SF := ⟨49, (.seq (.reg screen_Check_r0)
  (.seq (.seq (.reg screen_Check_r1)
  (.cond (tZ 31) (.seq (.reg screen_Check_r2)
  .ret) .skip))
  (.seq (.seq (.reg screen_Check_r3)
  (.block 0 (.seq (.reg screen_Check_r4)
  (.cond (tZ 43) (.seq (.reg screen_Check_r5)
  .ret) (.seq (.reg screen_Check_r6)
  (.cond (tZ 46) (.seq (.reg screen_Check_r7)
  .ret) .skip))))))
  (.seq (.reg screen_Check_r8)
  .ret)))), [.tmp 2]⟩
theorem screen_Check_s : slimF Try.prog 13 = some screen_Check_c := by kernel_rfl
abbrev screen_Check_f : Nat := 13
/-- printworks/screen.Of -/
def screen_Of_r0 : List SO := [rZ 1 (.box 24 (tZ 0)), rZ 2 (.alloc 101)]
def screen_Of_r1 : List SO := [faZ 8 24 1 0, ldZ 9 3 8, faZ 10 24 1 1, ldZ 11 3 10, rZ 12 (.call ⟨(.value (.func (51 : Nat))), #[(tZ 9), (tZ 11)], #[3, 3]⟩), mvZ 7 12, exZ 13 7 0, exZ 14 7 1, exZ 15 7 2, asZ 3 13, asZ 4 14, asZ 5 15]
def screen_Of_r2 : List SO := [faZ 16 24 1 0, ldZ 17 3 16, faZ 18 24 1 0, ldZ 19 3 18, boZ 20 .mul 3 17 19 3, faZ 21 24 1 1, ldZ 22 3 21, faZ 23 24 1 1, ldZ 24 3 23, boZ 25 .mul 3 22 24 3, boZ 26 .add 3 20 25 3, mvZ 27 3, boZ 28 .quo 3 26 27 3, asZ 6 28]
def screen_Of_r3 : List SO := [mvZ 29 6, mvZ 30 5, faZ 31 24 1 0, ldZ 32 3 31, boZ 33 .mul 3 30 32 3, mvZ 34 4, faZ 35 24 1 1, ldZ 36 3 35, boZ 37 .mul 3 34 36 3, boZ 38 .sub 3 33 37 3, mvZ 39 6, rZ 40 (.call ⟨(.value (.func (52 : Nat))), #[(tZ 38), (tZ 39)], #[3, 3]⟩), mvZ 41 3, rZ 42 (.build 101 #[(0, (tZ 29)), (1, (tZ 40)), (2, (tZ 41))]), stZ 101 2 42]
def screen_Of_c : SF := ⟨43, (.seq (.reg screen_Of_r0)
  (.seq (.reg screen_Of_r1)
  (.seq (.reg screen_Of_r2)
  (.seq (.reg screen_Of_r3)
  .ret)))), [.cell 2 101]⟩
theorem screen_Of_s : slimF Try.prog 38 = some screen_Of_c := by kernel_rfl
abbrev screen_Of_f : Nat := 38
/-- printworks/screen.Ranks -/
def screen_Ranks_r0 : List SO := [rZ 1 (.box 24 (tZ 0)), rZ 2 (.assign (.const (.slice none 0 0)))]
def screen_Ranks_r1 : List SO := [ldZ 11 24 1, rZ 12 (.call ⟨(.value (.func (38 : Nat))), #[(tZ 11)], #[24]⟩), rZ 3 (.alloc 101), stZ 101 3 12]
def screen_Ranks_r2 : List SO := [faZ 13 24 1 0, ldZ 14 3 13, faZ 15 24 1 0, ldZ 16 3 15, boZ 17 .mul 3 14 16 3, faZ 18 24 1 1, ldZ 19 3 18, faZ 20 24 1 1, ldZ 21 3 20, boZ 22 .mul 3 19 21 3, boZ 23 .add 3 17 22 3, asZ 4 23]
def screen_Ranks_r3 : List SO := [mvZ 24 4, rZ 25 (.makeSlice 25 (tZ 24) (tZ 24)), asZ 5 25]
def screen_Ranks_r4 : List SO := [mvZ 26 5, rZ 27 (.call ⟨(.builtin .len), #[(tZ 26)], #[25]⟩), rZ 28 (.move (ciZ 0))]
def screen_Ranks_r5 : List SO := [boZ 29 .lss 3 28 27 3]
def screen_Ranks_r6 : List SO := [mvZ 30 28, asZ 6 30]
def screen_Ranks_r7 : List SO := [mvZ 31 5, mvZ 32 6, mvZ 33 6, iaZ 34 25 31 32, stZ 3 34 33]
def screen_Ranks_r8 : List SO := [bcZ 35 .add 3 28 1 3, mvZ 28 35]
def screen_Ranks_r9 : List SO := [rZ 36 (.makeFunc (.func (53 : Nat)) #[] #[(tZ 1), (tZ 3)]), rZ 7 (.alloc 124), stZ 124 7 36]
def screen_Ranks_r10 : List SO := [faZ 37 24 1 2, ldZ 38 3 37, bcZ 39 .eql 3 38 3 3]
def screen_Ranks_r11 : List SO := [ldZ 40 24 1, ldZ 41 101 3, rZ 42 (.call ⟨(.value (.func (55 : Nat))), #[(tZ 40), (tZ 41)], #[24, 101]⟩), asZ 5 42]
def screen_Ranks_r12 : List SO := [mvZ 43 5, rZ 44 (.makeFunc (.func (57 : Nat)) #[] #[(tZ 7)]), rZ 45 (.call ⟨(.value (.func (56 : Nat))), #[(tZ 43), (tZ 44)], #[25, 27]⟩)]
def screen_Ranks_r13 : List SO := [mvZ 46 4, rZ 47 (.makeSlice 25 (tZ 46) (tZ 46)), asZ 8 47]
def screen_Ranks_r14 : List SO := [mvZ 48 5, rZ 49 (.call ⟨(.builtin .len), #[(tZ 48)], #[25]⟩), rZ 50 (.move (ciZ 0))]
def screen_Ranks_r15 : List SO := [boZ 51 .lss 3 50 49 3]
def screen_Ranks_r16 : List SO := [mvZ 52 50, iaZ 53 25 48 50, ldZ 54 3 53, asZ 9 52, asZ 10 54]
def screen_Ranks_r17 : List SO := [mvZ 55 8, mvZ 56 10, mvZ 57 9, iaZ 58 25 55 56, stZ 3 58 57]
def screen_Ranks_r18 : List SO := [bcZ 59 .add 3 50 1 3, mvZ 50 59]
def screen_Ranks_r19 : List SO := [mvZ 60 8, asZ 2 60]
def screen_Ranks_c : SF := ⟨61, (.seq (.reg screen_Ranks_r0)
  (.seq (.reg screen_Ranks_r1)
  (.seq (.reg screen_Ranks_r2)
  (.seq (.reg screen_Ranks_r3)
  (.seq (.seq (.reg screen_Ranks_r4)
  (.block 0 (.loop (.seq (.reg screen_Ranks_r5)
  (.seq (.cond (tZ 29) .skip (.exit 0))
  (.seq (.block 1 (.seq (.reg screen_Ranks_r6)
  (.reg screen_Ranks_r7)))
  (.reg screen_Ranks_r8)))))))
  (.seq (.reg screen_Ranks_r9)
  (.seq (.seq (.reg screen_Ranks_r10)
  (.cond (tZ 39) (.reg screen_Ranks_r11) (.reg screen_Ranks_r12)))
  (.seq (.reg screen_Ranks_r13)
  (.seq (.seq (.reg screen_Ranks_r14)
  (.block 2 (.loop (.seq (.reg screen_Ranks_r15)
  (.seq (.cond (tZ 51) .skip (.exit 2))
  (.seq (.block 3 (.seq (.reg screen_Ranks_r16)
  (.reg screen_Ranks_r17)))
  (.reg screen_Ranks_r18)))))))
  (.seq (.reg screen_Ranks_r19)
  .ret)))))))))), [.tmp 2]⟩
theorem screen_Ranks_s : slimF Try.prog 39 = some screen_Ranks_c := by kernel_rfl
abbrev screen_Ranks_f : Nat := 39
/-- printworks/screen.bezout -/
def screen_bezout_r0 : List SO := [rZ 4 (.assign (ciZ 0)), rZ 5 (.assign (ciZ 0)), rZ 6 (.assign (ciZ 0))]
def screen_bezout_r1 : List SO := [mvZ 7 1, bcZ 8 .eql 3 7 0 3]
def screen_bezout_r2 : List SO := [mvZ 9 0, asZ 4 9, rZ 5 (.assign (ciZ 1)), rZ 6 (.assign (ciZ 0))]
def screen_bezout_r3 : List SO := [mvZ 11 1, mvZ 12 0, mvZ 13 1, boZ 14 .rem 3 12 13 3, rZ 15 (.call ⟨(.value (.func (51 : Nat))), #[(tZ 11), (tZ 14)], #[3, 3]⟩), mvZ 10 15, exZ 16 10 0, exZ 17 10 1, exZ 18 10 2, asZ 4 16, asZ 5 17, asZ 6 18]
def screen_bezout_r4 : List SO := [mvZ 19 4, mvZ 20 6, mvZ 21 5, mvZ 22 0, mvZ 23 1, boZ 24 .quo 3 22 23 3, mvZ 25 6, boZ 26 .mul 3 24 25 3, boZ 27 .sub 3 21 26 3, asZ 4 19, asZ 5 20, asZ 6 27]
def screen_bezout_a4 : List (List Nat) := [[], [], [], [], [], [3, 4], [], [5, 6], [2, 7], [0, 0, 2], [1, 9, 0, 1, 2, 9], [8, 10, 0, 1, 2, 3, 4, 5, 6, 7, 8, 9, 10]]
def screen_bezout_c : SF := ⟨28, (.seq (.reg screen_bezout_r0)
  (.seq (.seq (.reg screen_bezout_r1)
  (.cond (tZ 8) (.seq (.reg screen_bezout_r2)
  .ret) .skip))
  (.seq (.reg screen_bezout_r3)
  (.seq (.regd screen_bezout_r4 screen_bezout_a4)
  .ret)))), [.tmp 4, .tmp 5, .tmp 6]⟩
theorem screen_bezout_s : slimF Try.prog 51 = some screen_bezout_c := by kernel_rfl
abbrev screen_bezout_f : Nat := 51
/-- printworks/screen.mod -/
def screen_mod_r0 : List SO := [rZ 4 (.assign (ciZ 0))]
def screen_mod_r1 : List SO := [mvZ 5 0, mvZ 6 1, boZ 7 .rem 3 5 6 3, asZ 0 7]
def screen_mod_r2 : List SO := [mvZ 8 0, bcZ 9 .lss 3 8 0 3]
def screen_mod_r3 : List SO := [mvZ 10 0, mvZ 11 1, boZ 12 .add 3 10 11 3, asZ 0 12]
def screen_mod_r4 : List SO := [mvZ 13 0, asZ 4 13]
def screen_mod_c : SF := ⟨14, (.seq (.reg screen_mod_r0)
  (.seq (.seq (.reg screen_mod_r1)
  (.seq (.reg screen_mod_r2)
  (.cond (tZ 9) (.reg screen_mod_r3) .skip)))
  (.seq (.reg screen_mod_r4)
  .ret))), [.tmp 4]⟩
theorem screen_mod_s : slimF Try.prog 52 = some screen_mod_c := by kernel_rfl
abbrev screen_mod_f : Nat := 52
/-- printworks/screen.Ranks$1 -/
def screen_Ranks_1_r0 : List SO := [rZ 4 (.assign (ciZ 0)), rZ 5 (.assign (ciZ 0))]
def screen_Ranks_1_r1 : List SO := [ldZ 9 24 1, ldZ 10 101 2, mvZ 11 0, rZ 12 (.call ⟨(.value (.func (54 : Nat))), #[(tZ 9), (tZ 10), (tZ 11)], #[24, 101, 3]⟩), mvZ 8 12, exZ 13 8 0, exZ 14 8 1, asZ 6 13, asZ 7 14]
def screen_Ranks_1_r2 : List SO := [faZ 15 24 1 2, ldZ 16 3 15]
def screen_Ranks_1_r3 : List SO := [bcZ 18 .eql 3 16 1 3, asZ 17 18]
def screen_Ranks_1_r4 : List SO := [mvZ 19 7, mvZ 20 6, asZ 4 19, asZ 5 20]
def screen_Ranks_1_r5 : List SO := [bcZ 22 .eql 3 16 2 3, asZ 21 22]
def screen_Ranks_1_r6 : List SO := [mvZ 23 6, mvZ 24 6, boZ 25 .mul 3 23 24 3, mvZ 26 7, rZ 27 (.binOp .mul 3 (ciZ 2) (tZ 26) 3), mvZ 28 7, boZ 29 .mul 3 27 28 3, boZ 30 .add 3 25 29 3, asZ 4 30, rZ 5 (.assign (ciZ 0))]
def screen_Ranks_1_r7 : List SO := [mvZ 31 6, mvZ 32 6, boZ 33 .mul 3 31 32 3, mvZ 34 7, mvZ 35 7, boZ 36 .mul 3 34 35 3, boZ 37 .add 3 33 36 3, asZ 4 37, rZ 5 (.assign (ciZ 0))]
def screen_Ranks_1_c : SF := ⟨38, (.seq (.reg screen_Ranks_1_r0)
  (.seq (.reg screen_Ranks_1_r1)
  (.seq (.seq (.reg screen_Ranks_1_r2)
  (.block 0 (.seq (.reg screen_Ranks_1_r3)
  (.cond (tZ 17) (.seq (.reg screen_Ranks_1_r4)
  .ret) (.seq (.reg screen_Ranks_1_r5)
  (.cond (tZ 21) (.seq (.reg screen_Ranks_1_r6)
  .ret) .skip))))))
  (.seq (.reg screen_Ranks_1_r7)
  .ret)))), [.tmp 4, .tmp 5]⟩
theorem screen_Ranks_1_s : slimF Try.prog 53 = some screen_Ranks_1_c := by kernel_rfl
abbrev screen_Ranks_1_f : Nat := 53
/-- printworks/screen.scatter -/
def screen_scatter_r0 : List SO := [rZ 2 (.box 24 (tZ 0)), rZ 3 (.box 101 (tZ 1)), rZ 4 (.assign (.const (.slice none 0 0)))]
def screen_scatter_r1 : List SO := [faZ 15 24 2 0, ldZ 16 3 15, faZ 17 24 2 0, ldZ 18 3 17, boZ 19 .mul 3 16 18 3, faZ 20 24 2 1, ldZ 21 3 20, faZ 22 24 2 1, ldZ 23 3 22, boZ 24 .mul 3 21 23 3, boZ 25 .add 3 19 24 3, asZ 5 25]
def screen_scatter_r2 : List SO := [mvZ 26 5, rZ 27 (.makeSlice 25 (tZ 26) (tZ 26)), asZ 6 27]
def screen_scatter_r3 : List SO := [mvZ 28 6, rZ 29 (.call ⟨(.builtin .len), #[(tZ 28)], #[25]⟩), rZ 30 (.move (ciZ 0))]
def screen_scatter_r4 : List SO := [boZ 31 .lss 3 30 29 3]
def screen_scatter_r5 : List SO := [mvZ 32 30, asZ 7 32]
def screen_scatter_r6 : List SO := [mvZ 33 6, mvZ 34 7, iaZ 35 25 33 34, ⟨none, .store 3 (tZ 35) (ciZ 1099511627776), none⟩]
def screen_scatter_r7 : List SO := [bcZ 36 .add 3 30 1 3, mvZ 30 36]
def screen_scatter_r8 : List SO := [rZ 8 (.assign (.const (.slice none 0 0)))]
def screen_scatter_r9 : List SO := [mvZ 37 5, rZ 38 (.move (ciZ 0))]
def screen_scatter_r10 : List SO := [boZ 39 .lss 3 38 37 3]
def screen_scatter_r11 : List SO := [rZ 9 (.assign (.const (.int .i64 (-1))))]
def screen_scatter_r12 : List SO := [mvZ 40 6, rZ 41 (.call ⟨(.builtin .len), #[(tZ 40)], #[25]⟩), rZ 42 (.move (ciZ 0))]
def screen_scatter_r13 : List SO := [boZ 43 .lss 3 42 41 3]
def screen_scatter_r14 : List SO := [mvZ 44 42, iaZ 45 25 40 42, ldZ 46 3 45, asZ 10 44, asZ 11 46]
def screen_scatter_r15 : List SO := [mvZ 47 11, bcZ 48 .gtr 3 47 0 3, mvZ 49 48, gZ 49 true (mvZ 50 9), gZ 49 true (bcZ 51 .lss 3 50 0 3), gZ 49 true (mvZ 52 51), gZ 52 false (mvZ 53 11), gZ 52 false (mvZ 54 6), gZ 52 false (mvZ 55 9), gZ 52 false (iaZ 56 25 54 55), gZ 52 false (ldZ 57 3 56), gZ 52 false (boZ 58 .gtr 3 53 57 3), gZ 49 true (rZ 59 (.pick (tZ 52) (.const (.bool true)) (tZ 58))), rZ 60 (.pick (tZ 49) (tZ 59) (.const (.bool false)))]
def screen_scatter_r16 : List SO := [mvZ 61 10, asZ 9 61]
def screen_scatter_r17 : List SO := [bcZ 62 .add 3 42 1 3, mvZ 42 62]
def screen_scatter_r18 : List SO := [mvZ 63 8, mvZ 64 9, rZ 65 (.buildSlice 25 1 #[(0, (tZ 64))]), rZ 66 (.call ⟨(.builtin .append), #[(tZ 63), (tZ 65)], #[25, 25]⟩), asZ 8 66]
def screen_scatter_r19 : List SO := [mvZ 67 6, rZ 68 (.call ⟨(.builtin .len), #[(tZ 67)], #[25]⟩), rZ 69 (.move (ciZ 0))]
def screen_scatter_r20 : List SO := [boZ 70 .lss 3 69 68 3]
def screen_scatter_r21 : List SO := [mvZ 71 69, asZ 12 71]
def screen_scatter_r22 : List SO := [ldZ 73 24 2, ldZ 74 101 3, ldZ 75 101 3, mvZ 76 12, faZ 77 101 3 0, ldZ 78 3 77, boZ 79 .rem 3 76 78 3, mvZ 80 9, faZ 81 101 3 0, ldZ 82 3 81, boZ 83 .rem 3 80 82 3, boZ 84 .sub 3 79 83 3, mvZ 85 12, faZ 86 101 3 0, ldZ 87 3 86, boZ 88 .quo 3 85 87 3, mvZ 89 9, faZ 90 101 3 0, ldZ 91 3 90, boZ 92 .quo 3 89 91 3, boZ 93 .sub 3 88 92 3, rZ 94 (.call ⟨(.value (.func (41 : Nat))), #[(tZ 75), (tZ 84), (tZ 93)], #[101, 3, 3]⟩), rZ 95 (.call ⟨(.value (.func (54 : Nat))), #[(tZ 73), (tZ 74), (tZ 94)], #[24, 101, 3]⟩), mvZ 72 95, exZ 96 72 0, exZ 97 72 1, asZ 13 96, asZ 14 97]
def screen_scatter_a22 : List (List Nat) := [[], [], [], [], [], [4], [3, 5], [], [], [8], [7, 9], [6, 10], [], [], [13], [12, 14], [], [], [17], [16, 18], [15, 19], [2, 11, 20], [0, 1, 21, 21], [22], [23], [23], [24, 22, 0, 1, 2, 3, 4, 5, 6, 7, 8, 9, 10, 11, 12, 13, 14, 15, 16, 17, 18, 19, 20, 21, 22, 23, 24], [25, 26, 0, 1, 2, 3, 4, 5, 6, 7, 8, 9, 10, 11, 12, 13, 14, 15, 16, 17, 18, 19, 20, 21, 22, 23, 24, 25, 26]]
def screen_scatter_r23 : List SO := [mvZ 98 6, mvZ 99 12, mvZ 100 6, mvZ 101 12, iaZ 102 25 100 101, ldZ 103 3 102, mvZ 104 13, mvZ 105 13, boZ 106 .mul 3 104 105 3, mvZ 107 14, mvZ 108 14, boZ 109 .mul 3 107 108 3, boZ 110 .add 3 106 109 3, rZ 111 (.call ⟨(.builtin .min), #[(tZ 103), (tZ 110)], #[3, 3]⟩), iaZ 112 25 98 99, stZ 3 112 111]
def screen_scatter_r24 : List SO := [bcZ 113 .add 3 69 1 3, mvZ 69 113]
def screen_scatter_r25 : List SO := [bcZ 114 .add 3 38 1 3, mvZ 38 114]
def screen_scatter_r26 : List SO := [mvZ 115 8, asZ 4 115]
def screen_scatter_c : SF := ⟨116, (.seq (.reg screen_scatter_r0)
  (.seq (.reg screen_scatter_r1)
  (.seq (.reg screen_scatter_r2)
  (.seq (.seq (.reg screen_scatter_r3)
  (.block 0 (.loop (.seq (.reg screen_scatter_r4)
  (.seq (.cond (tZ 31) .skip (.exit 0))
  (.seq (.block 1 (.seq (.reg screen_scatter_r5)
  (.reg screen_scatter_r6)))
  (.reg screen_scatter_r7)))))))
  (.seq (.reg screen_scatter_r8)
  (.seq (.seq (.reg screen_scatter_r9)
  (.block 2 (.loop (.seq (.reg screen_scatter_r10)
  (.seq (.cond (tZ 39) .skip (.exit 2))
  (.seq (.block 3 (.seq (.reg screen_scatter_r11)
  (.seq (.seq (.reg screen_scatter_r12)
  (.block 4 (.loop (.seq (.reg screen_scatter_r13)
  (.seq (.cond (tZ 43) .skip (.exit 4))
  (.seq (.block 5 (.seq (.reg screen_scatter_r14)
  (.seq (.reg screen_scatter_r15)
  (.cond (tZ 60) (.reg screen_scatter_r16) .skip))))
  (.reg screen_scatter_r17)))))))
  (.seq (.reg screen_scatter_r18)
  (.seq (.reg screen_scatter_r19)
  (.block 6 (.loop (.seq (.reg screen_scatter_r20)
  (.seq (.cond (tZ 70) .skip (.exit 6))
  (.seq (.block 7 (.seq (.reg screen_scatter_r21)
  (.seq (.regd screen_scatter_r22 screen_scatter_a22)
  (.reg screen_scatter_r23))))
  (.reg screen_scatter_r24)))))))))))
  (.reg screen_scatter_r25)))))))
  (.seq (.reg screen_scatter_r26)
  .ret))))))), [.tmp 4]⟩
theorem screen_scatter_s : slimF Try.prog 55 = some screen_scatter_c := by kernel_rfl
abbrev screen_scatter_f : Nat := 55
/-- printworks/screen.Ranks$2 -/
def screen_Ranks_2_r0 : List SO := [rZ 5 (.assign (ciZ 0))]
def screen_Ranks_2_r1 : List SO := [ldZ 11 124 2, mvZ 12 0, rZ 13 (.call ⟨(.value (tZ 11)), #[(tZ 12)], #[3]⟩), mvZ 10 13, exZ 14 10 0, exZ 15 10 1, asZ 6 14, asZ 7 15]
def screen_Ranks_2_r2 : List SO := [ldZ 17 124 2, mvZ 18 1, rZ 19 (.call ⟨(.value (tZ 17)), #[(tZ 18)], #[3]⟩), mvZ 16 19, exZ 20 16 0, exZ 21 16 1, asZ 8 20, asZ 9 21]
def screen_Ranks_2_r3 : List SO := [mvZ 23 6, mvZ 24 8, boZ 25 .neq 3 23 24 3, asZ 22 25]
def screen_Ranks_2_r4 : List SO := [mvZ 26 6, mvZ 27 8, boZ 28 .sub 3 26 27 3, asZ 5 28]
def screen_Ranks_2_r5 : List SO := [mvZ 30 7, mvZ 31 9, boZ 32 .neq 3 30 31 3, asZ 29 32]
def screen_Ranks_2_r6 : List SO := [mvZ 33 7, mvZ 34 9, boZ 35 .sub 3 33 34 3, asZ 5 35]
def screen_Ranks_2_r7 : List SO := [mvZ 36 0, mvZ 37 1, boZ 38 .sub 3 36 37 3, asZ 5 38]
def screen_Ranks_2_c : SF := ⟨39, (.seq (.reg screen_Ranks_2_r0)
  (.seq (.reg screen_Ranks_2_r1)
  (.seq (.reg screen_Ranks_2_r2)
  (.seq (.block 0 (.seq (.reg screen_Ranks_2_r3)
  (.cond (tZ 22) (.seq (.reg screen_Ranks_2_r4)
  .ret) (.seq (.reg screen_Ranks_2_r5)
  (.cond (tZ 29) (.seq (.reg screen_Ranks_2_r6)
  .ret) .skip)))))
  (.seq (.reg screen_Ranks_2_r7)
  .ret))))), [.tmp 5]⟩
theorem screen_Ranks_2_s : slimF Try.prog 57 = some screen_Ranks_2_c := by kernel_rfl
abbrev screen_Ranks_2_f : Nat := 57
/-- (printworks/screen.Form).Place -/
def _screen_Form__Place_r0 : List SO := [rZ 3 (.box 101 (tZ 0)), rZ 6 (.assign (ciZ 0))]
def _screen_Form__Place_r1 : List SO := [mvZ 9 2, faZ 10 101 3 2, ldZ 11 3 10, rZ 12 (.call ⟨(.value (.func (52 : Nat))), #[(tZ 9), (tZ 11)], #[3, 3]⟩), asZ 7 12]
def _screen_Form__Place_r2 : List SO := [mvZ 13 2, mvZ 14 7, boZ 15 .sub 3 13 14 3, faZ 16 101 3 2, ldZ 17 3 16, boZ 18 .quo 3 15 17 3, asZ 8 18]
def _screen_Form__Place_r3 : List SO := [mvZ 19 7, faZ 20 101 3 0, ldZ 21 3 20, boZ 22 .mul 3 19 21 3, mvZ 23 1, mvZ 24 8, faZ 25 101 3 0, ldZ 26 3 25, rZ 27 (.call ⟨(.value (.func (52 : Nat))), #[(tZ 24), (tZ 26)], #[3, 3]⟩), faZ 28 101 3 1, ldZ 29 3 28, boZ 30 .mul 3 27 29 3, boZ 31 .sub 3 23 30 3, faZ 32 101 3 0, ldZ 33 3 32, rZ 34 (.call ⟨(.value (.func (52 : Nat))), #[(tZ 31), (tZ 33)], #[3, 3]⟩), boZ 35 .add 3 22 34 3, asZ 6 35]
def _screen_Form__Place_a3 : List (List Nat) := [[], [], [1], [0, 2], [], [], [], [6], [5, 7], [], [9], [8, 10], [4, 11], [], [13], [12, 14, 8], [3, 15], [16, 15, 0, 1, 2, 3, 4, 5, 6, 7, 8, 9, 10, 11, 12, 13, 14, 15, 16]]
def _screen_Form__Place_c : SF := ⟨36, (.seq (.reg _screen_Form__Place_r0)
  (.seq (.reg _screen_Form__Place_r1)
  (.seq (.reg _screen_Form__Place_r2)
  (.seq (.regd _screen_Form__Place_r3 _screen_Form__Place_a3)
  .ret)))), [.tmp 6]⟩
theorem _screen_Form__Place_s : slimF Try.prog 41 = some _screen_Form__Place_c := by kernel_rfl
abbrev _screen_Form__Place_f : Nat := 41
/-- printworks/screen.offset -/
def screen_offset_r0 : List SO := [rZ 3 (.box 24 (tZ 0)), rZ 4 (.box 101 (tZ 1)), rZ 6 (.assign (ciZ 0)), rZ 7 (.assign (ciZ 0))]
def screen_offset_r1 : List SO := [faZ 13 24 3 0, ldZ 14 3 13, faZ 15 24 3 0, ldZ 16 3 15, boZ 17 .mul 3 14 16 3, faZ 18 24 3 1, ldZ 19 3 18, faZ 20 24 3 1, ldZ 21 3 20, boZ 22 .mul 3 19 21 3, boZ 23 .add 3 17 22 3, asZ 8 23]
def screen_offset_r2 : List SO := [mvZ 24 2, faZ 25 101 4 0, ldZ 26 3 25, boZ 27 .rem 3 24 26 3, mvZ 28 2, faZ 29 101 4 0, ldZ 30 3 29, boZ 31 .quo 3 28 30 3, asZ 9 27, asZ 10 31]
def screen_offset_a2 : List (List Nat) := [[], [], [1], [0, 2], [], [], [5], [4, 6], [3, 0, 1, 2, 3], [7, 8, 0, 1, 2, 3, 4, 5, 6, 7, 8]]
def screen_offset_r3 : List SO := [mvZ 32 9, faZ 33 24 3 0, ldZ 34 3 33, boZ 35 .mul 3 32 34 3, mvZ 36 10, faZ 37 24 3 1, ldZ 38 3 37, boZ 39 .mul 3 36 38 3, boZ 40 .add 3 35 39 3, mvZ 41 8, rZ 42 (.call ⟨(.value (.func (52 : Nat))), #[(tZ 40), (tZ 41)], #[3, 3]⟩), mvZ 43 10, faZ 44 24 3 0, ldZ 45 3 44, boZ 46 .mul 3 43 45 3, mvZ 47 9, faZ 48 24 3 1, ldZ 49 3 48, boZ 50 .mul 3 47 49 3, boZ 51 .sub 3 46 50 3, mvZ 52 8, rZ 53 (.call ⟨(.value (.func (52 : Nat))), #[(tZ 51), (tZ 52)], #[3, 3]⟩), asZ 11 42, asZ 12 53]
def screen_offset_a3 : List (List Nat) := [[], [], [1], [0, 2], [], [], [5], [4, 6], [3, 7], [], [8, 9], [], [], [12], [11, 13], [], [], [16], [15, 17], [14, 18], [], [19, 20, 10], [10, 21, 0, 1, 2, 3, 4, 5, 6, 7, 8, 9, 10], [21, 22, 0, 1, 2, 3, 4, 5, 6, 7, 8, 9, 10, 11, 12, 13, 14, 15, 16, 17, 18, 19, 20, 21, 22]]
def screen_offset_r4 : List SO := [mvZ 54 11, mvZ 55 8, mvZ 56 11, boZ 57 .sub 3 55 56 3, rZ 58 (.call ⟨(.builtin .min), #[(tZ 54), (tZ 57)], #[3, 3]⟩), mvZ 59 12, mvZ 60 8, mvZ 61 12, boZ 62 .sub 3 60 61 3, rZ 63 (.call ⟨(.builtin .min), #[(tZ 59), (tZ 62)], #[3, 3]⟩), asZ 6 58, asZ 7 63]
def screen_offset_c : SF := ⟨64, (.seq (.reg screen_offset_r0)
  (.seq (.reg screen_offset_r1)
  (.seq (.regd screen_offset_r2 screen_offset_a2)
  (.seq (.regd screen_offset_r3 screen_offset_a3)
  (.seq (.reg screen_offset_r4)
  .ret))))), [.tmp 6, .tmp 7]⟩
theorem screen_offset_s : slimF Try.prog 54 = some screen_offset_c := by kernel_rfl
abbrev screen_offset_f : Nat := 54

end Go.Proofs.Ytihminfnphichaa
namespace Go.Proofs.Ytihminfnphichaa
open Go Go.Lite
set_option linter.unusedVariables false

abbrev slices_SortFunc___int_int__f : Nat := 56
end Go.Proofs.Ytihminfnphichaa
namespace Go.Proofs.Ytihminfnphichaa
open Go Go.Lite
set_option linter.unusedVariables false

/-- printworks/halftone.Apply -/
def halftone_Apply_r0 : List SO := [rZ 2 (.box 31 (tZ 0)), rZ 3 (.box 24 (tZ 1)), rZ 4 (.alloc 33), rZ 5 (.assign (ciZ 0))]
def halftone_Apply_r1 : List SO := [ldZ 11 24 3, rZ 12 (.call ⟨(.value (.func (19 : Nat))), #[(tZ 2), (tZ 11)], #[71, 24]⟩), asZ 6 12]
def halftone_Apply_r2 : List SO := [mvZ 13 6, bcZ 14 .neq 34 13 0 34]
def halftone_Apply_r3 : List SO := [rZ 15 (.build 33 #[]), mvZ 16 6, stZ 33 4 15, asZ 5 16]
def halftone_Apply_r4 : List SO := [faZ 17 31 2 0, ldZ 18 3 17, faZ 19 31 2 1, ldZ 20 3 19, rZ 21 (.call ⟨(.value (.func (20 : Nat))), #[(tZ 18), (tZ 20)], #[3, 3]⟩), rZ 7 (.alloc 33), stZ 33 7 21]
def halftone_Apply_r5 : List SO := [ldZ 22 24 3, rZ 23 (.call ⟨(.value (.func (21 : Nat))), #[(tZ 2), (tZ 22)], #[71, 24]⟩), faZ 24 31 2 0, ldZ 25 3 24, bcZ 26 .add 3 25 7 3, bcZ 27 .quo 3 26 8 3, asZ 8 23, asZ 9 27]
def halftone_Apply_a5 : List (List Nat) := [[], [0], [], [2], [3], [4], [1, 1, 0, 1], [5, 6, 0, 1, 2, 3, 4, 5, 6]]
def halftone_Apply_r6 : List SO := [faZ 28 31 2 1, ldZ 29 3 28, rZ 30 (.move (ciZ 0))]
def halftone_Apply_r7 : List SO := [boZ 31 .lss 3 30 29 3]
def halftone_Apply_r8 : List SO := [mvZ 32 30, asZ 10 32]
def halftone_Apply_r9 : List SO := [mvZ 33 8, mvZ 34 10, faZ 35 33 7 2, ldZ 36 29 35, mvZ 37 10, mvZ 38 9, boZ 39 .mul 3 37 38 3, mvZ 40 10, bcZ 41 .add 3 40 1 3, mvZ 42 9, boZ 43 .mul 3 41 42 3, rZ 44 (.slice 29 (tZ 36) (some (tZ 39)) (some (tZ 43)) none), rZ 45 (.call ⟨(.value (tZ 33)), #[(tZ 34), (tZ 44)], #[3, 29]⟩)]
def halftone_Apply_r10 : List SO := [bcZ 46 .add 3 30 1 3, mvZ 30 46]
def halftone_Apply_r11 : List SO := [ldZ 47 33 7, stZ 33 4 47, rZ 5 (.assign (ciZ 0))]
def halftone_Apply_c : SF := ⟨48, (.seq (.reg halftone_Apply_r0)
  (.seq (.seq (.reg halftone_Apply_r1)
  (.seq (.reg halftone_Apply_r2)
  (.cond (tZ 14) (.seq (.reg halftone_Apply_r3)
  .ret) .skip)))
  (.seq (.reg halftone_Apply_r4)
  (.seq (.regd halftone_Apply_r5 halftone_Apply_a5)
  (.seq (.seq (.reg halftone_Apply_r6)
  (.block 0 (.loop (.seq (.reg halftone_Apply_r7)
  (.seq (.cond (tZ 31) .skip (.exit 0))
  (.seq (.block 1 (.seq (.reg halftone_Apply_r8)
  (.reg halftone_Apply_r9)))
  (.reg halftone_Apply_r10)))))))
  (.seq (.reg halftone_Apply_r11)
  .ret)))))), [.cell 4 33, .tmp 5]⟩
theorem halftone_Apply_s : slimF Try.prog 7 = some halftone_Apply_c := by kernel_rfl
abbrev halftone_Apply_f : Nat := 7
/-- printworks/halftone.check -/
def halftone_check_r0 : List SO := [rZ 3 (.box 24 (tZ 1)), rZ 4 (.assign (ciZ 0))]
def halftone_check_r1 : List SO := [mvZ 6 0, rZ 7 (.nilCheck (tZ 6)), ldZ 8 31 7, rZ 9 (.call ⟨(.value (.func (36 : Nat))), #[(tZ 8)], #[31]⟩), asZ 5 9]
def halftone_check_r2 : List SO := [mvZ 10 5, bcZ 11 .neq 34 10 0 34]
def halftone_check_r3 : List SO := [mvZ 12 5, asZ 4 12]
def halftone_check_r4 : List SO := [ldZ 13 24 3, rZ 14 (.call ⟨(.value (.func (13 : Nat))), #[(tZ 13)], #[24]⟩), asZ 4 14]
def halftone_check_c : SF := ⟨15, (.seq (.reg halftone_check_r0)
  (.seq (.seq (.reg halftone_check_r1)
  (.seq (.reg halftone_check_r2)
  (.cond (tZ 11) (.seq (.reg halftone_check_r3)
  .ret) .skip)))
  (.seq (.reg halftone_check_r4)
  .ret))), [.tmp 4]⟩
theorem halftone_check_s : slimF Try.prog 19 = some halftone_check_c := by kernel_rfl
abbrev halftone_check_f : Nat := 19
/-- printworks/halftone.painter -/
def halftone_painter_r0 : List SO := [rZ 2 (.box 71 (tZ 0)), rZ 3 (.box 24 (tZ 1)), rZ 4 (.assign (.const .nilFunc))]
def halftone_painter_r1 : List SO := [ldZ 9 24 3, rZ 10 (.call ⟨(.value (.func (38 : Nat))), #[(tZ 9)], #[24]⟩), ldZ 11 24 3, rZ 12 (.call ⟨(.value (.func (39 : Nat))), #[(tZ 11)], #[24]⟩), rZ 5 (.alloc 101), rZ 6 (.alloc 25), stZ 101 5 10, stZ 25 6 12]
def halftone_painter_a1 : List (List Nat) := [[], [0], [], [2, 1], [], [], [4, 1, 3, 0, 1, 4, 5], [5, 3, 6, 0, 1, 2, 3, 4, 5, 6]]
def halftone_painter_r2 : List SO := [rZ 7 (.alloc 104)]
def halftone_painter_r3 : List SO := [rZ 13 (.move (ciZ 0))]
def halftone_painter_r4 : List SO := [bcZ 14 .lss 3 13 256 3]
def halftone_painter_r5 : List SO := [mvZ 15 13, asZ 8 15]
def halftone_painter_r6 : List SO := [mvZ 16 8, mvZ 17 8, ldZ 18 25 6, rZ 19 (.call ⟨(.builtin .len), #[(tZ 18)], #[25]⟩), boZ 20 .mul 3 17 19 3, rZ 21 (.call ⟨(.value (.func (24 : Nat))), #[(tZ 20), (ciZ 255)], #[3, 3]⟩), iaZ 22 104 7 16, stZ 3 22 21]
def halftone_painter_r7 : List SO := [bcZ 23 .add 3 13 1 3, mvZ 13 23]
def halftone_painter_r8 : List SO := [rZ 24 (.makeFunc (.func (40 : Nat)) #[] #[(tZ 2), (tZ 6), (tZ 5), (tZ 7)]), asZ 4 24]
def halftone_painter_c : SF := ⟨25, (.seq (.reg halftone_painter_r0)
  (.seq (.regd halftone_painter_r1 halftone_painter_a1)
  (.seq (.reg halftone_painter_r2)
  (.seq (.seq (.reg halftone_painter_r3)
  (.block 0 (.loop (.seq (.reg halftone_painter_r4)
  (.seq (.cond (tZ 14) .skip (.exit 0))
  (.seq (.block 1 (.seq (.reg halftone_painter_r5)
  (.reg halftone_painter_r6)))
  (.reg halftone_painter_r7)))))))
  (.seq (.reg halftone_painter_r8)
  .ret))))), [.tmp 4]⟩
theorem halftone_painter_s : slimF Try.prog 21 = some halftone_painter_c := by kernel_rfl
abbrev halftone_painter_f : Nat := 21
/-- printworks/halftone.painter$1 -/
def halftone_painter_1_r0 : List SO := [ldZ 10 71 2, rZ 11 (.nilCheck (tZ 10)), faZ 12 31 11 2, ldZ 13 29 12, mvZ 14 0, ldZ 15 71 2, rZ 16 (.nilCheck (tZ 15)), faZ 17 31 16 0, ldZ 18 3 17, boZ 19 .mul 3 14 18 3, mvZ 20 0, bcZ 21 .add 3 20 1 3, ldZ 22 71 2, rZ 23 (.nilCheck (tZ 22)), faZ 24 31 23 0, ldZ 25 3 24, boZ 26 .mul 3 21 25 3, rZ 27 (.slice 29 (tZ 13) (some (tZ 19)) (some (tZ 26)) none), rZ 28 (.call ⟨(.builtin .len), #[(tZ 27)], #[29]⟩), rZ 29 (.move (ciZ 0))]
def halftone_painter_1_a0 : List (List Nat) := [[], [0], [1], [2], [], [], [5], [6], [7], [4, 8], [], [10], [], [12], [13], [14], [11, 15], [3, 9, 16], [17], []]
def halftone_painter_1_r1 : List SO := [boZ 30 .lss 3 29 28 3]
def halftone_painter_1_r2 : List SO := [mvZ 31 29, iaZ 32 29 27 29, ldZ 33 5 32, asZ 8 31, asZ 9 33]
def halftone_painter_1_r3 : List SO := [ldZ 34 25 3, ldZ 35 101 4, mvZ 36 8, mvZ 37 0, rZ 38 (.call ⟨(.value (.func (41 : Nat))), #[(tZ 35), (tZ 36), (tZ 37)], #[101, 3, 3]⟩), iaZ 39 25 34 38, ldZ 40 3 39, mvZ 41 9, iaZ 42 104 5 41, ldZ 43 3 42, boZ 44 .lss 3 40 43 3]
def halftone_painter_1_a3 : List (List Nat) := [[], [], [], [], [1, 2, 3], [0, 4], [5], [], [7], [8], [6, 9]]
def halftone_painter_1_r4 : List SO := [mvZ 45 1, mvZ 46 8, bcZ 47 .quo 3 46 8 3, iaZ 48 29 45 47, ldZ 49 5 48, mvZ 50 8, bcZ 51 .rem 3 50 8 3, rZ 52 (.binOp .shr 5 (.const (.int .u8 128)) (tZ 51) 3), boZ 53 .or 5 49 52 5, iaZ 54 29 45 47, stZ 5 54 53]
def halftone_painter_1_a4 : List (List Nat) := [[], [], [1], [0, 2], [3], [], [5], [6], [4, 7], [0, 2, 0, 1, 2, 3, 4, 5, 6, 7, 8], [9, 8, 0, 1, 2, 3, 4, 5, 6, 7, 8]]
def halftone_painter_1_r5 : List SO := [bcZ 55 .add 3 29 1 3, mvZ 29 55]
def halftone_painter_1_c : SF := ⟨56, (.seq (.regd halftone_painter_1_r0 halftone_painter_1_a0)
  (.block 0 (.loop (.seq (.reg halftone_painter_1_r1)
  (.seq (.cond (tZ 30) .skip (.exit 0))
  (.seq (.block 1 (.seq (.reg halftone_painter_1_r2)
  (.seq (.regd halftone_painter_1_r3 halftone_painter_1_a3)
  (.cond (tZ 44) (.regd halftone_painter_1_r4 halftone_painter_1_a4) .skip))))
  (.reg halftone_painter_1_r5))))))), []⟩
theorem halftone_painter_1_s : slimF Try.prog 40 = some halftone_painter_1_c := by kernel_rfl
abbrev halftone_painter_1_f : Nat := 40

end Go.Proofs.Ytihminfnphichaa
namespace Go.Proofs.Ytihminfnphichaa
open Go Go.Lite
set_option linter.unusedVariables false

/-- printworks/devicelink.CheckPlate -/
def devicelink_CheckPlate_r0 : List SO := [rZ 1 (.box 31 (tZ 0)), rZ 2 (.assign (ciZ 0))]
def devicelink_CheckPlate_r1 : List SO := [faZ 3 31 1 0, ldZ 4 3 3, bcZ 5 .lss 3 4 1 3, mvZ 6 5, gZ 6 false (faZ 7 31 1 0), gZ 6 false (ldZ 8 3 7), gZ 6 false (bcZ 9 .gtr 3 8 1024 3), rZ 10 (.pick (tZ 6) (.const (.bool true)) (tZ 9)), mvZ 11 10, gZ 11 false (faZ 12 31 1 1), gZ 11 false (ldZ 13 3 12), gZ 11 false (bcZ 14 .lss 3 13 1 3), rZ 15 (.pick (tZ 11) (.const (.bool true)) (tZ 14)), mvZ 16 15, gZ 16 false (faZ 17 31 1 1), gZ 16 false (ldZ 18 3 17), gZ 16 false (bcZ 19 .gtr 3 18 1024 3), rZ 20 (.pick (tZ 16) (.const (.bool true)) (tZ 19))]
def devicelink_CheckPlate_r2 : List SO := [rZ 2 (.assign (ciZ 3))]
def devicelink_CheckPlate_r3 : List SO := [faZ 21 31 1 2, ldZ 22 29 21, rZ 23 (.call ⟨(.builtin .len), #[(tZ 22)], #[29]⟩), faZ 24 31 1 0, ldZ 25 3 24, faZ 26 31 1 1, ldZ 27 3 26, boZ 28 .mul 3 25 27 3, boZ 29 .neq 3 23 28 3]
def devicelink_CheckPlate_r4 : List SO := [rZ 2 (.assign (ciZ 4))]
def devicelink_CheckPlate_r5 : List SO := [rZ 2 (.assign (ciZ 0))]
def devicelink_CheckPlate_c : SF := ⟨30, (.seq (.reg devicelink_CheckPlate_r0)
  (.seq (.seq (.reg devicelink_CheckPlate_r1)
  (.cond (tZ 20) (.seq (.reg devicelink_CheckPlate_r2)
  .ret) .skip))
  (.seq (.seq (.reg devicelink_CheckPlate_r3)
  (.cond (tZ 29) (.seq (.reg devicelink_CheckPlate_r4)
  .ret) .skip))
  (.seq (.reg devicelink_CheckPlate_r5)
  .ret)))), [.tmp 2]⟩
theorem devicelink_CheckPlate_s : slimF Try.prog 36 = some devicelink_CheckPlate_c := by kernel_rfl
abbrev devicelink_CheckPlate_f : Nat := 36

end Go.Proofs.Ytihminfnphichaa
