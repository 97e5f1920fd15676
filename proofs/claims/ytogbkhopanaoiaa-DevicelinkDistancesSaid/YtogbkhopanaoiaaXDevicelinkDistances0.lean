/- Printed by program: the functions' code in few words; the kernel checks it against the translation. -/
import Derived.Test.YtogbkhopanaoiaaRows
import Derived.Test.YtogbkhopanaoiaaLiteTP
namespace Go.Proofs.Ytogbkhopanaoiaa
open Go Go.Lite
set_option linter.unusedVariables false

/-- Int -/
abbrev Ei : Nat := 0
/-- ByteArray -/
abbrev Es : Nat := 1
/-- Int × Int -/
abbrev E2i : Nat := 2
/-- ByteArray × Int × Int × Int × Int × Int × Int × List (Int × Int) × List (Int) -/
abbrev Es6iL2iJLiJ : Nat := 3
/-- List (Int × Int) -/
abbrev EL2iJ : Nat := 4
/-- Int -/
abbrev Ey : Nat := 5
@[reducible] def A (e : Nat) : Type := match e with
  | 0 => Int
  | 1 => ByteArray
  | 2 => Int × Int
  | 3 => ByteArray × Int × Int × Int × Int × Int × Int × List (Int × Int) × List (Int)
  | 4 => List (Int × Int)
  | 5 => Int
  | 6 => ByteArray × List (Int)
  | _ => Unit
def eSz (e : Nat) : Nat := match e with
  | 0 => 1
  | 1 => 1
  | 2 => 2
  | 3 => 9
  | 4 => 1
  | 5 => 1
  | 6 => 2
  | _ => 1
def eD (e : Nat) : A e := match e with
  | 0 => (0 : Int)
  | 1 => (⟨#[]⟩ : ByteArray)
  | 2 => ((0 : Int), (0 : Int))
  | 3 => ((⟨#[]⟩ : ByteArray), (0 : Int), (0 : Int), (0 : Int), (0 : Int), (0 : Int), (0 : Int), ([] : List (Int × Int)), ([] : List (Int)))
  | 4 => ([] : List (Int × Int))
  | 5 => (0 : Int)
  | 6 => ((⟨#[]⟩ : ByteArray), ([] : List (Int)))
  | _ + 7 => ()
def encL0 (x : Int) : List LV := [.int .i64 (x)]
def enc0 (x : Int) : List (TV A) := [.int .i64 (x)]
def dec0 (cs : List (TV A)) : Option (Int) := match cs with
  | [.int .i64 x0] => some x0
  | _ => none
def encL1 (x : ByteArray) : List LV := [.str (x)]
def enc1 (x : ByteArray) : List (TV A) := [.str (x)]
def dec1 (cs : List (TV A)) : Option (ByteArray) := match cs with
  | [.str x0] => some x0
  | _ => none
def encL2 (x : Int × Int) : List LV := [.int .i64 (x.1), .int .i64 (x.2)]
def enc2 (x : Int × Int) : List (TV A) := [.int .i64 (x.1), .int .i64 (x.2)]
def dec2 (cs : List (TV A)) : Option (Int × Int) := match cs with
  | [.int .i64 x0, .int .i64 x1] => some (x0, x1)
  | _ => none
def encL3 (x : ByteArray × Int × Int × Int × Int × Int × Int × List (Int × Int) × List (Int)) : List LV := [.str (x.1), .int .i64 (x.2.1), .int .i64 (x.2.2.1), .int .i64 (x.2.2.2.1), .int .i64 (x.2.2.2.2.1), .int .i64 (x.2.2.2.2.2.1), .int .i64 (x.2.2.2.2.2.2.1), .ps 2 (List.length (x.2.2.2.2.2.2.2.1)) (List.flatMap encL2 (x.2.2.2.2.2.2.2.1)), .ps 1 (List.length (x.2.2.2.2.2.2.2.2)) (List.flatMap encL0 (x.2.2.2.2.2.2.2.2))]
def enc3 (x : ByteArray × Int × Int × Int × Int × Int × Int × List (Int × Int) × List (Int)) : List (TV A) := [.str (x.1), .int .i64 (x.2.1), .int .i64 (x.2.2.1), .int .i64 (x.2.2.2.1), .int .i64 (x.2.2.2.2.1), .int .i64 (x.2.2.2.2.2.1), .int .i64 (x.2.2.2.2.2.2.1), .lst 2 (x.2.2.2.2.2.2.2.1), .lst 0 (x.2.2.2.2.2.2.2.2)]
def dec3 (cs : List (TV A)) : Option (ByteArray × Int × Int × Int × Int × Int × Int × List (Int × Int) × List (Int)) := match cs with
  | [.str x0, .int .i64 x1, .int .i64 x2, .int .i64 x3, .int .i64 x4, .int .i64 x5, .int .i64 x6, .lst 2 x7, .lst 0 x8] => some (x0, x1, x2, x3, x4, x5, x6, x7, x8)
  | _ => none
def encL4 (x : List (Int × Int)) : List LV := [.ps 2 (List.length (x)) (List.flatMap encL2 (x))]
def enc4 (x : List (Int × Int)) : List (TV A) := [.lst 2 (x)]
def dec4 (cs : List (TV A)) : Option (List (Int × Int)) := match cs with
  | [.lst 2 x0] => some x0
  | _ => none
def encL5 (x : Int) : List LV := [.int .u8 (x)]
def enc5 (x : Int) : List (TV A) := [.int .u8 (x)]
def dec5 (cs : List (TV A)) : Option (Int) := match cs with
  | [.int .u8 x0] => some x0
  | _ => none
def encL6 (x : ByteArray × List (Int)) : List LV := [.str (x.1), .ps 1 (List.length (x.2)) (List.flatMap encL5 (x.2))]
def enc6 (x : ByteArray × List (Int)) : List (TV A) := [.str (x.1), .lst 5 (x.2)]
def dec6 (cs : List (TV A)) : Option (ByteArray × List (Int)) := match cs with
  | [.str x0, .lst 5 x1] => some (x0, x1)
  | _ => none
def eEncL (e : Nat) (a : A e) : List LV := match e, a with
  | 0, a => encL0 a
  | 1, a => encL1 a
  | 2, a => encL2 a
  | 3, a => encL3 a
  | 4, a => encL4 a
  | 5, a => encL5 a
  | 6, a => encL6 a
  | _ + 7, _ => [.nilp]
def eEnc (e : Nat) (a : A e) : List (TV A) := match e, a with
  | 0, a => enc0 a
  | 1, a => enc1 a
  | 2, a => enc2 a
  | 3, a => enc3 a
  | 4, a => enc4 a
  | 5, a => enc5 a
  | 6, a => enc6 a
  | _ + 7, _ => [.nilp]
def eDec (e : Nat) (cs : List (TV A)) : Option (A e) := match e with
  | 0 => dec0 cs
  | 1 => dec1 cs
  | 2 => dec2 cs
  | 3 => dec3 cs
  | 4 => dec4 cs
  | 5 => dec5 cs
  | 6 => dec6 cs
  | _ + 7 => none
def eEl (t : Nat) : Option Nat := match t with
  | 23 => some 0
  | 22 => some 1
  | 26 => some 3
  | 60 => some 4
  | 71 => some 5
  | 44 => some 2
  | 121 => some 6
  | 29 => some 5
  | 32 => some 5
  | 118 => some 1
  | 150 => some 0
  | 160 => some 0
  | 159 => some 0
  | _ => none
def fl (e : Nat) : Bool := match e with
  | 0 => true
  | 1 => true
  | 2 => true
  | 3 => false
  | 4 => false
  | 5 => true
  | 6 => false
  | _ => false
def eByt (e : Nat) : Option (List (A e) → List Int) := match e with
  | 5 => some fun xs => xs
  | _ => none
theorem flat1 : ∀ xs : List Int, xs.flatMap (fun x => [LV.int .u8 x]) = xs.map (LV.int .u8)
  | [] => rfl
  | x :: r => congrArg (LV.int .u8 x :: ·) (flat1 r)
def R : Reg A := ⟨eSz, eD, eEncL, eEnc, eDec, eEl, eByt⟩
theorem R_ok : R.Ok where
  pos e := by show 0 < eSz e; unfold eSz; split <;> decide
  len e a := match e, a with
    | 0, a => rfl
    | 1, a => rfl
    | 2, a => rfl
    | 3, a => rfl
    | 4, a => rfl
    | 5, a => rfl
    | 6, a => rfl
    | e + 7, a => rfl
  ok e a := match e, a with
    | 0, a => rfl
    | 1, a => rfl
    | 2, a => rfl
    | 3, a => rfl
    | 4, a => rfl
    | 5, a => rfl
    | 6, a => rfl
    | e + 7, a => rfl
  dec e cs a h := match e, a, h with
    | 0, a, h => by
      replace h : dec0 cs = some a := h
      unfold dec0 at h
      split at h
      · cases h; rfl
      · cases h
    | 1, a, h => by
      replace h : dec1 cs = some a := h
      unfold dec1 at h
      split at h
      · cases h; rfl
      · cases h
    | 2, a, h => by
      replace h : dec2 cs = some a := h
      unfold dec2 at h
      split at h
      · cases h; rfl
      · cases h
    | 3, a, h => by
      replace h : dec3 cs = some a := h
      unfold dec3 at h
      split at h
      · cases h; rfl
      · cases h
    | 4, a, h => by
      replace h : dec4 cs = some a := h
      unfold dec4 at h
      split at h
      · cases h; rfl
      · cases h
    | 5, a, h => by
      replace h : dec5 cs = some a := h
      unfold dec5 at h
      split at h
      · cases h; rfl
      · cases h
    | 6, a, h => by
      replace h : dec6 cs = some a := h
      unfold dec6 at h
      split at h
      · cases h; rfl
      · cases h
    | e + 7, a, h => by cases h
  free e a := match e, a with
    | 0, a => rfl
    | 1, a => rfl
    | 2, a => rfl
    | 3, a => rfl
    | 4, a => rfl
    | 5, a => rfl
    | 6, a => rfl
    | e + 7, a => rfl
  sol e a := match e, a with
    | 0, a => rfl
    | 1, a => rfl
    | 2, a => rfl
    | 3, a => rfl
    | 4, a => rfl
    | 5, a => rfl
    | 6, a => rfl
    | e + 7, a => rfl
  byt e f h xs := match e, f, h with
    | 0, f, h => by cases h
    | 1, f, h => by cases h
    | 2, f, h => by cases h
    | 3, f, h => by cases h
    | 4, f, h => by cases h
    | 5, f, h => by cases h; exact flat1 xs
    | 6, f, h => by cases h
    | e + 7, f, h => by cases h
theorem fl_ok : ∀ e, fl e = true → ∀ a, psfreeL (R.encL e a) = true := fun e h a => match e, h, a with
  | 0, h, a => rfl
  | 1, h, a => rfl
  | 2, h, a => rfl
  | 3, h, a => by cases h
  | 4, h, a => by cases h
  | 5, h, a => rfl
  | 6, h, a => by cases h
  | e + 7, h, a => rfl

def tyL : List (Nat × TI) := [(0, ⟨.other, 1, false, [.dead]⟩),
  (28, ⟨.struct [(0, 1, false), (1, 1, false), (2, 1, false), (3, 4, true), (7, 4, true), (11, 1, false), (12, 1, false)], 13, true, [.nils, .nils, .nils, .int .i64 0, .int .i64 0, .int .i64 0, .nils, .int .i64 0, .int .i64 0, .int .i64 0, .nils, .nils, .int .i64 0]⟩),
  (29, ⟨.arr 4 1 false, 4, true, [.int .u8 0, .int .u8 0, .int .u8 0, .int .u8 0]⟩),
  (5, ⟨.int .u8, 1, false, [.int .u8 0]⟩),
  (32, ⟨.arr 8 1 false, 8, true, [.int .u8 0, .int .u8 0, .int .u8 0, .int .u8 0, .int .u8 0, .int .u8 0, .int .u8 0, .int .u8 0]⟩),
  (9, ⟨.str, 1, false, [.str ⟨([] : List UInt8).toArray⟩]⟩),
  (33, ⟨.int .i64, 1, false, [.int .i64 0]⟩),
  (23, ⟨.slice 1 8 [.int .i64 0], 1, false, [.nils]⟩),
  (3, ⟨.int .i64, 1, false, [.int .i64 0]⟩),
  (40, ⟨.arr 4 8 true, 32, true, [.int .u8 0, .int .u8 0, .int .u8 0, .int .u8 0, .int .u8 0, .int .u8 0, .int .u8 0, .int .u8 0, .int .u8 0, .int .u8 0, .int .u8 0, .int .u8 0, .int .u8 0, .int .u8 0, .int .u8 0, .int .u8 0, .int .u8 0, .int .u8 0, .int .u8 0, .int .u8 0, .int .u8 0, .int .u8 0, .int .u8 0, .int .u8 0, .int .u8 0, .int .u8 0, .int .u8 0, .int .u8 0, .int .u8 0, .int .u8 0, .int .u8 0, .int .u8 0]⟩),
  (22, ⟨.slice 1 16 [.str ⟨([] : List UInt8).toArray⟩], 1, false, [.nils]⟩),
  (26, ⟨.slice 9 112 [.str ⟨([] : List UInt8).toArray⟩, .int .i64 0, .int .i64 0, .int .i64 0, .int .i64 0, .int .i64 0, .int .i64 0, .nils, .nils], 1, false, [.nils]⟩),
  (48, ⟨.struct [(0, 1, false), (1, 3, true), (4, 3, true), (7, 1, true), (8, 1, false)], 9, true, [.str ⟨([] : List UInt8).toArray⟩, .int .i64 0, .int .i64 0, .int .i64 0, .int .i64 0, .int .i64 0, .int .i64 0, .nils, .nils]⟩),
  (25, ⟨.struct [(0, 1, false), (1, 1, false), (2, 1, false), (3, 1, false)], 4, true, [.int .i64 0, .int .i64 0, .int .i64 0, .nils]⟩),
  (62, ⟨.struct [(0, 1, false), (1, 1, false), (2, 1, false), (3, 4, true)], 7, true, [.str ⟨([] : List UInt8).toArray⟩, .nils, .nils, .int .i64 0, .int .i64 0, .int .i64 0, .nils]⟩),
  (43, ⟨.struct [(0, 1, false), (1, 1, false), (2, 1, false)], 3, true, [.int .i64 0, .int .i64 0, .int .i64 0]⟩),
  (60, ⟨.slice 1 24 [.nils], 1, false, [.nils]⟩),
  (46, ⟨.struct [(0, 1, false)], 1, true, [.nils]⟩),
  (71, ⟨.slice 1 1 [.int .u8 0], 1, false, [.nils]⟩),
  (81, ⟨.other, 1, false, [.nilp]⟩),
  (82, ⟨.other, 1, false, [.nilp]⟩),
  (85, ⟨.other, 1, false, [.nilp]⟩),
  (100, ⟨.struct [(0, 1, false), (1, 1, false), (2, 1, false), (3, 1, false), (4, 3, true)], 7, true, [.int .i64 0, .int .i64 0, .int .i64 0, .bool false, .int .i64 0, .int .i64 0, .int .i64 0]⟩),
  (105, ⟨.other, 1, false, [.nilp]⟩),
  (114, ⟨.arr 4 1 false, 4, true, [.nils, .nils, .nils, .nils]⟩),
  (44, ⟨.slice 2 16 [.int .i64 0, .int .i64 0], 1, false, [.nils]⟩),
  (116, ⟨.struct [(0, 1, false), (1, 1, false)], 2, true, [.int .i64 0, .int .i64 0]⟩),
  (118, ⟨.arr 4 1 false, 4, true, [.str ⟨([] : List UInt8).toArray⟩, .str ⟨([] : List UInt8).toArray⟩, .str ⟨([] : List UInt8).toArray⟩, .str ⟨([] : List UInt8).toArray⟩]⟩),
  (121, ⟨.slice 2 40 [.str ⟨([] : List UInt8).toArray⟩, .nils], 1, false, [.nils]⟩),
  (125, ⟨.struct [(0, 1, false), (1, 1, false)], 2, true, [.str ⟨([] : List UInt8).toArray⟩, .nils]⟩),
  (130, ⟨.struct [(0, 1, false)], 1, true, [.nils]⟩),
  (133, ⟨.int .i16, 1, false, [.int .i16 0]⟩),
  (137, ⟨.other, 1, false, [.nilp]⟩),
  (147, ⟨.other, 1, false, [.nilf]⟩),
  (150, ⟨.arr 4 1 false, 4, true, [.int .i64 0, .int .i64 0, .int .i64 0, .int .i64 0]⟩),
  (152, ⟨.int .u32, 1, false, [.int .u32 0]⟩),
  (20, ⟨.other, 1, false, [.dead]⟩),
  (127, ⟨.struct [], 0, true, []⟩),
  (155, ⟨.other, 1, false, [.nilp]⟩),
  (142, ⟨.struct [(0, 3, true), (3, 1, false), (4, 1, false), (5, 1, false), (6, 1, false)], 7, true, [.int .i64 0, .int .i64 0, .int .i64 0, .int .i64 0, .int .i64 0, .nils, .nils]⟩),
  (4, ⟨.bool, 1, false, [.bool false]⟩),
  (146, ⟨.other, 1, false, [.nilp]⟩),
  (167, ⟨.other, 1, false, [.nilf]⟩),
  (171, ⟨.struct [(0, 1, false), (1, 1, false), (2, 1, false), (3, 1, false), (4, 1, false), (5, 1, false), (6, 1, false), (7, 1, false)], 8, true, [.nilp, .nilp, .nils, .int .i64 0, .nils, .nils, .nils, .nils]⟩),
  (169, ⟨.other, 1, false, [.nilp]⟩),
  (161, ⟨.arr 4 3 true, 12, true, [.int .i64 0, .int .i64 0, .int .i64 0, .int .i64 0, .int .i64 0, .int .i64 0, .int .i64 0, .int .i64 0, .int .i64 0, .int .i64 0, .int .i64 0, .int .i64 0]⟩),
  (160, ⟨.arr 3 1 false, 3, true, [.int .i64 0, .int .i64 0, .int .i64 0]⟩),
  (176, ⟨.other, 1, false, [.nilf]⟩),
  (177, ⟨.other, 1, false, [.nilf]⟩),
  (159, ⟨.arr 3 1 false, 3, true, [.int .i64 0, .int .i64 0, .int .i64 0]⟩)]
theorem tyL_ok : okL (tiOf Try.prog) tyL := ⟨by kernel_rfl, by kernel_rfl, by kernel_rfl, by kernel_rfl, by kernel_rfl, by kernel_rfl, by kernel_rfl, by kernel_rfl, by kernel_rfl, by kernel_rfl, by kernel_rfl, by kernel_rfl, by kernel_rfl, by kernel_rfl, by kernel_rfl, by kernel_rfl, by kernel_rfl, by kernel_rfl, by kernel_rfl, by kernel_rfl, by kernel_rfl, by kernel_rfl, by kernel_rfl, by kernel_rfl, by kernel_rfl, by kernel_rfl, by kernel_rfl, by kernel_rfl, by kernel_rfl, by kernel_rfl, by kernel_rfl, by kernel_rfl, by kernel_rfl, by kernel_rfl, by kernel_rfl, by kernel_rfl, by kernel_rfl, by kernel_rfl, by kernel_rfl, by kernel_rfl, by kernel_rfl, by kernel_rfl, by kernel_rfl, by kernel_rfl, by kernel_rfl, by kernel_rfl, by kernel_rfl, by kernel_rfl, by kernel_rfl, by kernel_rfl, trivial⟩
def eqL : List (Nat × List Nat) := [(32, [0, 0, 0, 0, 0, 0, 0, 0]), (43, [0, 0, 0]), (116, [0, 0])]
theorem eqL_ok : okL (eqOf Try.prog) eqL := ⟨by kernel_rfl, by kernel_rfl, by kernel_rfl, trivial⟩
def nlL : List (Nat × Nat) := [(33, 0), (3, 0), (9, 0), (32, 0), (43, 0), (5, 0), (20, 0), (116, 0), (23, 4), (71, 3), (133, 0), (152, 0)]
theorem nlL_ok : okN (nilOf Try.prog) nlL := ⟨by kernel_rfl, by kernel_rfl, by kernel_rfl, by kernel_rfl, by kernel_rfl, by kernel_rfl, by kernel_rfl, by kernel_rfl, by kernel_rfl, by kernel_rfl, by kernel_rfl, by kernel_rfl, trivial⟩
noncomputable def ty : TT := ⟨lookT tyL (tiOf Try.prog), lookT eqL (eqOf Try.prog), lookN nlL (nilOf Try.prog)⟩
theorem ty_ok : ty = ttOf Try.prog := by
  unfold ty ttOf
  rw [lookT_eq tyL_ok, lookT_eq eqL_ok, lookN_eq nlL_ok]
def Wi (x : Int) : Prop := rng .i64 x
def Ws (x : ByteArray) : Prop := ByteArray.size x ≤ 9223372036854775807
def W2i (x : Int × Int) : Prop := rng .i64 x.1 ∧ rng .i64 x.2
def Ws6iL2iJLiJ (x : ByteArray × Int × Int × Int × Int × Int × Int × List (Int × Int) × List (Int)) : Prop := ByteArray.size x.1 ≤ 9223372036854775807 ∧ rng .i64 x.2.1 ∧ rng .i64 x.2.2.1 ∧ rng .i64 x.2.2.2.1 ∧ rng .i64 x.2.2.2.2.1 ∧ rng .i64 x.2.2.2.2.2.1 ∧ rng .i64 x.2.2.2.2.2.2.1 ∧ (List.length x.2.2.2.2.2.2.2.1 ≤ 9223372036854775807 ∧ ∀ y ∈ x.2.2.2.2.2.2.2.1, W2i y) ∧ (List.length x.2.2.2.2.2.2.2.2 ≤ 9223372036854775807 ∧ ∀ y ∈ x.2.2.2.2.2.2.2.2, Wi y)
def WL2iJ (x : List (Int × Int)) : Prop := (List.length x ≤ 9223372036854775807 ∧ ∀ y ∈ x, W2i y)
theorem rdi : R.d Ei = (0 : Int) := rfl
theorem rd2i : R.d E2i = ((0 : Int), (0 : Int)) := rfl
theorem rdL2iJ : R.d EL2iJ = ([] : List (Int × Int)) := rfl
theorem rdy : R.d Ey = (0 : Int) := rfl
theorem env : Env A R Try.prog ty fl := ⟨R_ok, ty_ok, fl_ok, by kernel_rfl⟩

end Go.Proofs.Ytogbkhopanaoiaa
namespace Go.Proofs.Ytogbkhopanaoiaa
open Go Go.Lite
set_option linter.unusedVariables false

/-- printworks/refspace.Square -/
def refspace_Square_r0 : List SO := [⟨(some 2), .box 43 (.tmp (0 : Nat)), none⟩,
  ⟨(some 3), .box 43 (.tmp (1 : Nat)), none⟩,
  ⟨(some 4), .assign (.const (.int .i64 0)), none⟩,
  ⟨(some 5), .assign (.const (.int .i64 0)), none⟩]
def refspace_Square_r1 : List SO := [⟨(some 8), .load 43 (.tmp (2 : Nat)), none⟩,
  ⟨(some 9), .call ⟨(.value (.func (61 : Nat))), #[(.tmp (8 : Nat))], #[43]⟩, none⟩,
  ⟨(some 6), .assign (.tmp (9 : Nat)), none⟩]
def refspace_Square_r2 : List SO := [⟨(some 10), .move (.tmp (6 : Nat)), none⟩,
  ⟨(some 11), .binOp .neq 33 (.tmp (10 : Nat)) (.const (.int .i64 0)) 33, none⟩]
def refspace_Square_r3 : List SO := [⟨(some 12), .move (.tmp (6 : Nat)), none⟩,
  ⟨(some 4), .assign (.const (.int .i64 0)), none⟩,
  ⟨(some 5), .assign (.tmp (12 : Nat)), none⟩]
def refspace_Square_r4 : List SO := [⟨(some 13), .load 43 (.tmp (3 : Nat)), none⟩,
  ⟨(some 14), .call ⟨(.value (.func (61 : Nat))), #[(.tmp (13 : Nat))], #[43]⟩, none⟩,
  ⟨(some 7), .assign (.tmp (14 : Nat)), none⟩]
def refspace_Square_r5 : List SO := [⟨(some 15), .move (.tmp (7 : Nat)), none⟩,
  ⟨(some 16), .binOp .neq 33 (.tmp (15 : Nat)) (.const (.int .i64 0)) 33, none⟩]
def refspace_Square_r6 : List SO := [⟨(some 17), .move (.tmp (7 : Nat)), none⟩,
  ⟨(some 4), .assign (.const (.int .i64 0)), none⟩,
  ⟨(some 5), .assign (.tmp (17 : Nat)), none⟩]
def refspace_Square_r7 : List SO := [⟨(some 18), .load 43 (.tmp (2 : Nat)), none⟩,
  ⟨(some 19), .load 43 (.tmp (3 : Nat)), none⟩,
  ⟨(some 20), .call ⟨(.value (.func (59 : Nat))), #[(.tmp (18 : Nat)), (.tmp (19 : Nat))], #[43, 43]⟩, none⟩,
  ⟨(some 4), .assign (.tmp (20 : Nat)), none⟩,
  ⟨(some 5), .assign (.const (.int .i64 0)), none⟩]
def refspace_Square_c : SF := ⟨21, (.seq (.reg refspace_Square_r0)
  (.seq (.seq (.reg refspace_Square_r1)
  (.seq (.reg refspace_Square_r2)
  (.cond (.tmp (11 : Nat)) (.seq (.reg refspace_Square_r3)
  .ret) .skip)))
  (.seq (.seq (.reg refspace_Square_r4)
  (.seq (.reg refspace_Square_r5)
  (.cond (.tmp (16 : Nat)) (.seq (.reg refspace_Square_r6)
  .ret) .skip)))
  (.seq (.reg refspace_Square_r7)
  .ret)))), [.tmp 4, .tmp 5]⟩
theorem refspace_Square_s : slimF Try.prog 27 = some refspace_Square_c := by kernel_rfl
abbrev refspace_Square_f : Nat := 27
/-- printworks/refspace.Far -/
def refspace_Far_r0 : List SO := [⟨(some 2), .box 43 (.tmp (0 : Nat)), none⟩,
  ⟨(some 3), .box 43 (.tmp (1 : Nat)), none⟩,
  ⟨(some 4), .assign (.const (.int .i64 0)), none⟩]
def refspace_Far_r1 : List SO := [⟨(some 8), .fieldAddr 43 (.tmp (2 : Nat)) 0, none⟩,
  ⟨(some 9), .load 3 (.tmp (8 : Nat)), none⟩,
  ⟨(some 10), .fieldAddr 43 (.tmp (3 : Nat)) 0, none⟩,
  ⟨(some 11), .load 3 (.tmp (10 : Nat)), none⟩,
  ⟨(some 12), .binOp .sub 3 (.tmp (9 : Nat)) (.tmp (11 : Nat)) 3, none⟩,
  ⟨(some 13), .fieldAddr 43 (.tmp (2 : Nat)) 1, none⟩,
  ⟨(some 14), .load 3 (.tmp (13 : Nat)), none⟩,
  ⟨(some 15), .fieldAddr 43 (.tmp (3 : Nat)) 1, none⟩,
  ⟨(some 16), .load 3 (.tmp (15 : Nat)), none⟩,
  ⟨(some 17), .binOp .sub 3 (.tmp (14 : Nat)) (.tmp (16 : Nat)) 3, none⟩,
  ⟨(some 18), .fieldAddr 43 (.tmp (2 : Nat)) 2, none⟩,
  ⟨(some 19), .load 3 (.tmp (18 : Nat)), none⟩,
  ⟨(some 20), .fieldAddr 43 (.tmp (3 : Nat)) 2, none⟩,
  ⟨(some 21), .load 3 (.tmp (20 : Nat)), none⟩,
  ⟨(some 22), .binOp .sub 3 (.tmp (19 : Nat)) (.tmp (21 : Nat)) 3, none⟩,
  ⟨(some 5), .assign (.tmp (12 : Nat)), none⟩,
  ⟨(some 6), .assign (.tmp (17 : Nat)), none⟩,
  ⟨(some 7), .assign (.tmp (22 : Nat)), none⟩]
def refspace_Far_a1 : List (List Nat) := [[], [0], [], [2], [1, 3], [], [5], [], [7], [6, 8], [], [10], [], [12], [11, 13], [4, 0, 1, 2, 3, 4], [9, 15, 0, 1, 2, 3, 4, 5, 6, 7, 8, 9, 15], [14, 16, 0, 1, 2, 3, 4, 5, 6, 7, 8, 9, 10, 11, 12, 13, 14, 15, 16]]
def refspace_Far_r2 : List SO := [⟨(some 23), .move (.tmp (5 : Nat)), none⟩,
  ⟨(some 24), .move (.tmp (5 : Nat)), none⟩,
  ⟨(some 25), .binOp .mul 3 (.tmp (23 : Nat)) (.tmp (24 : Nat)) 3, none⟩,
  ⟨(some 26), .move (.tmp (6 : Nat)), none⟩,
  ⟨(some 27), .move (.tmp (6 : Nat)), none⟩,
  ⟨(some 28), .binOp .mul 3 (.tmp (26 : Nat)) (.tmp (27 : Nat)) 3, none⟩,
  ⟨(some 29), .binOp .add 3 (.tmp (25 : Nat)) (.tmp (28 : Nat)) 3, none⟩,
  ⟨(some 30), .move (.tmp (7 : Nat)), none⟩,
  ⟨(some 31), .move (.tmp (7 : Nat)), none⟩,
  ⟨(some 32), .binOp .mul 3 (.tmp (30 : Nat)) (.tmp (31 : Nat)) 3, none⟩,
  ⟨(some 33), .binOp .add 3 (.tmp (29 : Nat)) (.tmp (32 : Nat)) 3, none⟩,
  ⟨(some 4), .assign (.tmp (33 : Nat)), none⟩]
def refspace_Far_c : SF := ⟨34, (.seq (.reg refspace_Far_r0)
  (.seq (.regd refspace_Far_r1 refspace_Far_a1)
  (.seq (.reg refspace_Far_r2)
  .ret))), [.tmp 4]⟩
theorem refspace_Far_s : slimF Try.prog 59 = some refspace_Far_c := by kernel_rfl
abbrev refspace_Far_f : Nat := 59
/-- printworks/refspace.Check -/
def refspace_Check_r0 : List SO := [⟨(some 1), .box 43 (.tmp (0 : Nat)), none⟩,
  ⟨(some 2), .assign (.const (.int .i64 0)), none⟩]
def refspace_Check_r1 : List SO := [⟨(some 3), .fieldAddr 43 (.tmp (1 : Nat)) 0, none⟩,
  ⟨(some 4), .load 3 (.tmp (3 : Nat)), none⟩,
  ⟨(some 5), .binOp .lss 3 (.tmp (4 : Nat)) (.const (.int .i64 0)) 3, none⟩,
  ⟨(some 6), .move (.tmp (5 : Nat)), none⟩,
  ⟨(some 7), .fieldAddr 43 (.tmp (1 : Nat)) 0, (some (6, false))⟩,
  ⟨(some 8), .load 3 (.tmp (7 : Nat)), (some (6, false))⟩,
  ⟨(some 9), .binOp .gtr 3 (.tmp (8 : Nat)) (.const (.int .i64 10000)) 3, (some (6, false))⟩,
  ⟨(some 10), .pick (.tmp (6 : Nat)) (.const (.bool true)) (.tmp (9 : Nat)), none⟩,
  ⟨(some 11), .move (.tmp (10 : Nat)), none⟩,
  ⟨(some 12), .fieldAddr 43 (.tmp (1 : Nat)) 1, (some (11, false))⟩,
  ⟨(some 13), .load 3 (.tmp (12 : Nat)), (some (11, false))⟩,
  ⟨(some 14), .binOp .lss 3 (.tmp (13 : Nat)) (.const (.int .i64 (-12800))) 3, (some (11, false))⟩,
  ⟨(some 15), .pick (.tmp (11 : Nat)) (.const (.bool true)) (.tmp (14 : Nat)), none⟩,
  ⟨(some 16), .move (.tmp (15 : Nat)), none⟩,
  ⟨(some 17), .fieldAddr 43 (.tmp (1 : Nat)) 1, (some (16, false))⟩,
  ⟨(some 18), .load 3 (.tmp (17 : Nat)), (some (16, false))⟩,
  ⟨(some 19), .binOp .gtr 3 (.tmp (18 : Nat)) (.const (.int .i64 12800)) 3, (some (16, false))⟩,
  ⟨(some 20), .pick (.tmp (16 : Nat)) (.const (.bool true)) (.tmp (19 : Nat)), none⟩,
  ⟨(some 21), .move (.tmp (20 : Nat)), none⟩,
  ⟨(some 22), .fieldAddr 43 (.tmp (1 : Nat)) 2, (some (21, false))⟩,
  ⟨(some 23), .load 3 (.tmp (22 : Nat)), (some (21, false))⟩,
  ⟨(some 24), .binOp .lss 3 (.tmp (23 : Nat)) (.const (.int .i64 (-12800))) 3, (some (21, false))⟩,
  ⟨(some 25), .pick (.tmp (21 : Nat)) (.const (.bool true)) (.tmp (24 : Nat)), none⟩,
  ⟨(some 26), .move (.tmp (25 : Nat)), none⟩,
  ⟨(some 27), .fieldAddr 43 (.tmp (1 : Nat)) 2, (some (26, false))⟩,
  ⟨(some 28), .load 3 (.tmp (27 : Nat)), (some (26, false))⟩,
  ⟨(some 29), .binOp .gtr 3 (.tmp (28 : Nat)) (.const (.int .i64 12800)) 3, (some (26, false))⟩,
  ⟨(some 30), .pick (.tmp (26 : Nat)) (.const (.bool true)) (.tmp (29 : Nat)), none⟩]
def refspace_Check_r2 : List SO := [⟨(some 2), .assign (.const (.int .i64 3)), none⟩]
def refspace_Check_r3 : List SO := [⟨(some 2), .assign (.const (.int .i64 0)), none⟩]
def refspace_Check_c : SF := ⟨31, (.seq (.reg refspace_Check_r0)
  (.seq (.seq (.reg refspace_Check_r1)
  (.cond (.tmp (30 : Nat)) (.seq (.reg refspace_Check_r2)
  .ret) .skip))
  (.seq (.reg refspace_Check_r3)
  .ret))), [.tmp 2]⟩
theorem refspace_Check_s : slimF Try.prog 61 = some refspace_Check_c := by kernel_rfl
abbrev refspace_Check_f : Nat := 61
/-- printworks/refspace.Between -/
def refspace_Between_r0 : List SO := [⟨(some 4), .box 43 (.tmp (0 : Nat)), none⟩,
  ⟨(some 5), .box 43 (.tmp (1 : Nat)), none⟩,
  ⟨(some 6), .box 3 (.tmp (2 : Nat)), none⟩,
  ⟨(some 7), .box 3 (.tmp (3 : Nat)), none⟩,
  ⟨(some 8), .alloc 43, none⟩,
  ⟨(some 9), .assign (.const (.int .i64 0)), none⟩]
def refspace_Between_r1 : List SO := [⟨(some 13), .load 43 (.tmp (4 : Nat)), none⟩,
  ⟨(some 14), .call ⟨(.value (.func (61 : Nat))), #[(.tmp (13 : Nat))], #[43]⟩, none⟩,
  ⟨(some 10), .assign (.tmp (14 : Nat)), none⟩]
def refspace_Between_r2 : List SO := [⟨(some 15), .move (.tmp (10 : Nat)), none⟩,
  ⟨(some 16), .binOp .neq 33 (.tmp (15 : Nat)) (.const (.int .i64 0)) 33, none⟩]
def refspace_Between_r3 : List SO := [⟨(some 17), .build 43 #[], none⟩,
  ⟨(some 18), .move (.tmp (10 : Nat)), none⟩,
  ⟨none, .store 43 (.tmp (8 : Nat)) (.tmp (17 : Nat)), none⟩,
  ⟨(some 9), .assign (.tmp (18 : Nat)), none⟩]
def refspace_Between_r4 : List SO := [⟨(some 19), .load 43 (.tmp (5 : Nat)), none⟩,
  ⟨(some 20), .call ⟨(.value (.func (61 : Nat))), #[(.tmp (19 : Nat))], #[43]⟩, none⟩,
  ⟨(some 11), .assign (.tmp (20 : Nat)), none⟩]
def refspace_Between_r5 : List SO := [⟨(some 21), .move (.tmp (11 : Nat)), none⟩,
  ⟨(some 22), .binOp .neq 33 (.tmp (21 : Nat)) (.const (.int .i64 0)) 33, none⟩]
def refspace_Between_r6 : List SO := [⟨(some 23), .build 43 #[], none⟩,
  ⟨(some 24), .move (.tmp (11 : Nat)), none⟩,
  ⟨none, .store 43 (.tmp (8 : Nat)) (.tmp (23 : Nat)), none⟩,
  ⟨(some 9), .assign (.tmp (24 : Nat)), none⟩]
def refspace_Between_r7 : List SO := [⟨(some 25), .load 3 (.tmp (7 : Nat)), none⟩,
  ⟨(some 26), .binOp .lss 3 (.tmp (25 : Nat)) (.const (.int .i64 1)) 3, none⟩,
  ⟨(some 27), .move (.tmp (26 : Nat)), none⟩,
  ⟨(some 28), .load 3 (.tmp (7 : Nat)), (some (27, false))⟩,
  ⟨(some 29), .binOp .gtr 3 (.tmp (28 : Nat)) (.const (.int .i64 65280)) 3, (some (27, false))⟩,
  ⟨(some 30), .pick (.tmp (27 : Nat)) (.const (.bool true)) (.tmp (29 : Nat)), none⟩,
  ⟨(some 31), .move (.tmp (30 : Nat)), none⟩,
  ⟨(some 32), .load 3 (.tmp (6 : Nat)), (some (31, false))⟩,
  ⟨(some 33), .binOp .lss 3 (.tmp (32 : Nat)) (.const (.int .i64 0)) 3, (some (31, false))⟩,
  ⟨(some 34), .pick (.tmp (31 : Nat)) (.const (.bool true)) (.tmp (33 : Nat)), none⟩,
  ⟨(some 35), .move (.tmp (34 : Nat)), none⟩,
  ⟨(some 36), .load 3 (.tmp (6 : Nat)), (some (35, false))⟩,
  ⟨(some 37), .load 3 (.tmp (7 : Nat)), (some (35, false))⟩,
  ⟨(some 38), .binOp .gtr 3 (.tmp (36 : Nat)) (.tmp (37 : Nat)) 3, (some (35, false))⟩,
  ⟨(some 39), .pick (.tmp (35 : Nat)) (.const (.bool true)) (.tmp (38 : Nat)), none⟩]
def refspace_Between_r8 : List SO := [⟨(some 40), .build 43 #[], none⟩,
  ⟨none, .store 43 (.tmp (8 : Nat)) (.tmp (40 : Nat)), none⟩,
  ⟨(some 9), .assign (.const (.int .i64 3)), none⟩]
def refspace_Between_r9 : List SO := [⟨(some 41), .makeFunc (.func (106 : Nat)) #[] #[(.tmp (7 : Nat)), (.tmp (6 : Nat))], none⟩,
  ⟨(some 12), .assign (.tmp (41 : Nat)), none⟩]
def refspace_Between_r10 : List SO := [⟨(some 42), .move (.tmp (12 : Nat)), none⟩,
  ⟨(some 43), .fieldAddr 43 (.tmp (4 : Nat)) 0, none⟩,
  ⟨(some 44), .load 3 (.tmp (43 : Nat)), none⟩,
  ⟨(some 45), .fieldAddr 43 (.tmp (5 : Nat)) 0, none⟩,
  ⟨(some 46), .load 3 (.tmp (45 : Nat)), none⟩,
  ⟨(some 47), .call ⟨(.value (.tmp (42 : Nat))), #[(.tmp (44 : Nat)), (.tmp (46 : Nat))], #[3, 3]⟩, none⟩,
  ⟨(some 48), .move (.tmp (12 : Nat)), none⟩,
  ⟨(some 49), .fieldAddr 43 (.tmp (4 : Nat)) 1, none⟩,
  ⟨(some 50), .load 3 (.tmp (49 : Nat)), none⟩,
  ⟨(some 51), .fieldAddr 43 (.tmp (5 : Nat)) 1, none⟩,
  ⟨(some 52), .load 3 (.tmp (51 : Nat)), none⟩,
  ⟨(some 53), .call ⟨(.value (.tmp (48 : Nat))), #[(.tmp (50 : Nat)), (.tmp (52 : Nat))], #[3, 3]⟩, none⟩,
  ⟨(some 54), .move (.tmp (12 : Nat)), none⟩,
  ⟨(some 55), .fieldAddr 43 (.tmp (4 : Nat)) 2, none⟩,
  ⟨(some 56), .load 3 (.tmp (55 : Nat)), none⟩,
  ⟨(some 57), .fieldAddr 43 (.tmp (5 : Nat)) 2, none⟩,
  ⟨(some 58), .load 3 (.tmp (57 : Nat)), none⟩,
  ⟨(some 59), .call ⟨(.value (.tmp (54 : Nat))), #[(.tmp (56 : Nat)), (.tmp (58 : Nat))], #[3, 3]⟩, none⟩,
  ⟨(some 60), .build 43 #[(0, (.tmp (47 : Nat))), (1, (.tmp (53 : Nat))), (2, (.tmp (59 : Nat)))], none⟩,
  ⟨none, .store 43 (.tmp (8 : Nat)) (.tmp (60 : Nat)), none⟩,
  ⟨(some 9), .assign (.const (.int .i64 0)), none⟩]
def refspace_Between_a10 : List (List Nat) := [[], [], [1], [], [3], [0, 2, 4], [], [], [7], [], [9], [6, 8, 10, 5], [], [], [13], [], [15], [12, 14, 16, 11], [5, 11, 17], [18, 17, 0, 1, 2, 3, 4, 5, 6, 7, 8, 9, 10, 11, 12, 13, 14, 15, 16, 17, 18], [19, 0, 1, 2, 3, 4, 5, 6, 7, 8, 9, 10, 11, 12, 13, 14, 15, 16, 17, 18, 19]]
def refspace_Between_c : SF := ⟨61, (.seq (.reg refspace_Between_r0)
  (.seq (.seq (.reg refspace_Between_r1)
  (.seq (.reg refspace_Between_r2)
  (.cond (.tmp (16 : Nat)) (.seq (.reg refspace_Between_r3)
  .ret) .skip)))
  (.seq (.seq (.reg refspace_Between_r4)
  (.seq (.reg refspace_Between_r5)
  (.cond (.tmp (22 : Nat)) (.seq (.reg refspace_Between_r6)
  .ret) .skip)))
  (.seq (.seq (.reg refspace_Between_r7)
  (.cond (.tmp (39 : Nat)) (.seq (.reg refspace_Between_r8)
  .ret) .skip))
  (.seq (.reg refspace_Between_r9)
  (.seq (.regd refspace_Between_r10 refspace_Between_a10)
  .ret)))))), [.cell 8 43, .tmp 9]⟩
theorem refspace_Between_s : slimF Try.prog 99 = some refspace_Between_c := by kernel_rfl
/-- printworks/refspace.Between$1 -/
def refspace_Between_1_r0 : List SO := [⟨(some 6), .assign (.const (.int .i64 0)), none⟩]
def refspace_Between_1_r1 : List SO := [⟨(some 7), .load 3 (.tmp (2 : Nat)), none⟩,
  ⟨(some 8), .load 3 (.tmp (3 : Nat)), none⟩,
  ⟨(some 9), .binOp .sub 3 (.tmp (7 : Nat)) (.tmp (8 : Nat)) 3, none⟩,
  ⟨(some 10), .move (.tmp (0 : Nat)), none⟩,
  ⟨(some 11), .binOp .mul 3 (.tmp (9 : Nat)) (.tmp (10 : Nat)) 3, none⟩,
  ⟨(some 12), .load 3 (.tmp (3 : Nat)), none⟩,
  ⟨(some 13), .move (.tmp (1 : Nat)), none⟩,
  ⟨(some 14), .binOp .mul 3 (.tmp (12 : Nat)) (.tmp (13 : Nat)) 3, none⟩,
  ⟨(some 15), .binOp .add 3 (.tmp (11 : Nat)) (.tmp (14 : Nat)) 3, none⟩,
  ⟨(some 16), .load 3 (.tmp (2 : Nat)), none⟩,
  ⟨(some 17), .call ⟨(.value (.func (78 : Nat))), #[(.tmp (15 : Nat)), (.tmp (16 : Nat))], #[3, 3]⟩, none⟩,
  ⟨(some 6), .assign (.tmp (17 : Nat)), none⟩]
def refspace_Between_1_c : SF := ⟨18, (.seq (.reg refspace_Between_1_r0)
  (.seq (.reg refspace_Between_1_r1)
  .ret)), [.tmp 6]⟩
theorem refspace_Between_1_s : slimF Try.prog 106 = some refspace_Between_1_c := by kernel_rfl
def tbl_refspace : List (Nat × SF) := [(27, refspace_Square_c), (59, refspace_Far_c), (61, refspace_Check_c), (99, refspace_Between_c), (106, refspace_Between_1_c)]
theorem tbl_refspace_ok : okT Try.prog tbl_refspace := ⟨refspace_Square_s, refspace_Far_s, refspace_Check_s, refspace_Between_s, refspace_Between_1_s, trivial⟩

end Go.Proofs.Ytogbkhopanaoiaa
namespace Go.Proofs.Ytogbkhopanaoiaa
open Go Go.Lite
set_option linter.unusedVariables false

/-- printworks/curve.At -/
def curve_At_r0 : List SO := [⟨(some 2), .box 46 (.tmp (0 : Nat)), none⟩,
  ⟨(some 4), .assign (.const (.int .i64 0)), none⟩,
  ⟨(some 5), .assign (.const (.int .i64 0)), none⟩]
def curve_At_r1 : List SO := [⟨(some 7), .load 46 (.tmp (2 : Nat)), none⟩,
  ⟨(some 8), .call ⟨(.value (.func (66 : Nat))), #[(.tmp (7 : Nat))], #[46]⟩, none⟩,
  ⟨(some 6), .assign (.tmp (8 : Nat)), none⟩]
def curve_At_r2 : List SO := [⟨(some 9), .move (.tmp (6 : Nat)), none⟩,
  ⟨(some 10), .binOp .neq 33 (.tmp (9 : Nat)) (.const (.int .i64 0)) 33, none⟩]
def curve_At_r3 : List SO := [⟨(some 11), .move (.tmp (6 : Nat)), none⟩,
  ⟨(some 4), .assign (.const (.int .i64 0)), none⟩,
  ⟨(some 5), .assign (.tmp (11 : Nat)), none⟩]
def curve_At_r4 : List SO := [⟨(some 12), .move (.tmp (1 : Nat)), none⟩,
  ⟨(some 13), .binOp .lss 3 (.tmp (12 : Nat)) (.const (.int .i64 0)) 3, none⟩,
  ⟨(some 14), .move (.tmp (13 : Nat)), none⟩,
  ⟨(some 15), .move (.tmp (1 : Nat)), (some (14, false))⟩,
  ⟨(some 16), .binOp .gtr 3 (.tmp (15 : Nat)) (.const (.int .i64 65280)) 3, (some (14, false))⟩,
  ⟨(some 17), .pick (.tmp (14 : Nat)) (.const (.bool true)) (.tmp (16 : Nat)), none⟩]
def curve_At_r5 : List SO := [⟨(some 4), .assign (.const (.int .i64 0)), none⟩,
  ⟨(some 5), .assign (.const (.int .i64 3)), none⟩]
def curve_At_r6 : List SO := [⟨(some 18), .load 46 (.tmp (2 : Nat)), none⟩,
  ⟨(some 19), .move (.tmp (1 : Nat)), none⟩,
  ⟨(some 20), .call ⟨(.value (.func (67 : Nat))), #[(.tmp (18 : Nat)), (.tmp (19 : Nat))], #[46, 3]⟩, none⟩,
  ⟨(some 4), .assign (.tmp (20 : Nat)), none⟩,
  ⟨(some 5), .assign (.const (.int .i64 0)), none⟩]
def curve_At_c : SF := ⟨21, (.seq (.reg curve_At_r0)
  (.seq (.seq (.reg curve_At_r1)
  (.seq (.reg curve_At_r2)
  (.cond (.tmp (10 : Nat)) (.seq (.reg curve_At_r3)
  .ret) .skip)))
  (.seq (.seq (.reg curve_At_r4)
  (.cond (.tmp (17 : Nat)) (.seq (.reg curve_At_r5)
  .ret) .skip))
  (.seq (.reg curve_At_r6)
  .ret)))), [.tmp 4, .tmp 5]⟩
theorem curve_At_s : slimF Try.prog 30 = some curve_At_c := by kernel_rfl
/-- printworks/curve.Check -/
def curve_Check_r0 : List SO := [⟨(some 1), .box 46 (.tmp (0 : Nat)), none⟩,
  ⟨(some 2), .assign (.const (.int .i64 0)), none⟩]
def curve_Check_r1 : List SO := [⟨(some 6), .fieldAddr 46 (.tmp (1 : Nat)) 0, none⟩,
  ⟨(some 7), .load 44 (.tmp (6 : Nat)), none⟩,
  ⟨(some 8), .call ⟨(.builtin .len), #[(.tmp (7 : Nat))], #[44]⟩, none⟩,
  ⟨(some 3), .assign (.tmp (8 : Nat)), none⟩]
def curve_Check_r2 : List SO := [⟨(some 10), .move (.tmp (3 : Nat)), none⟩,
  ⟨(some 11), .binOp .gtr 3 (.tmp (10 : Nat)) (.const (.int .i64 33)) 3, none⟩,
  ⟨(some 9), .assign (.tmp (11 : Nat)), none⟩]
def curve_Check_r3 : List SO := [⟨(some 2), .assign (.const (.int .i64 2)), none⟩]
def curve_Check_r4 : List SO := [⟨(some 13), .move (.tmp (3 : Nat)), none⟩,
  ⟨(some 14), .binOp .lss 3 (.tmp (13 : Nat)) (.const (.int .i64 2)) 3, none⟩,
  ⟨(some 12), .assign (.tmp (14 : Nat)), none⟩]
def curve_Check_r5 : List SO := [⟨(some 2), .assign (.const (.int .i64 1)), none⟩]
def curve_Check_r6 : List SO := [⟨(some 15), .fieldAddr 46 (.tmp (1 : Nat)) 0, none⟩,
  ⟨(some 16), .load 44 (.tmp (15 : Nat)), none⟩,
  ⟨(some 17), .call ⟨(.builtin .len), #[(.tmp (16 : Nat))], #[44]⟩, none⟩,
  ⟨(some 18), .move (.const (.int .i64 0)), none⟩]
def curve_Check_r7 : List SO := [⟨(some 19), .binOp .lss 3 (.tmp (18 : Nat)) (.tmp (17 : Nat)) 3, none⟩]
def curve_Check_r8 : List SO := [⟨(some 20), .move (.tmp (18 : Nat)), none⟩,
  ⟨(some 21), .indexAddr 44 (.tmp (16 : Nat)) (.tmp (18 : Nat)), none⟩,
  ⟨(some 22), .load 116 (.tmp (21 : Nat)), none⟩,
  ⟨(some 5), .alloc 116, none⟩,
  ⟨(some 4), .assign (.tmp (20 : Nat)), none⟩,
  ⟨none, .store 116 (.tmp (5 : Nat)) (.tmp (22 : Nat)), none⟩]
def curve_Check_r9 : List SO := [⟨(some 23), .fieldAddr 116 (.tmp (5 : Nat)) 0, none⟩,
  ⟨(some 24), .load 3 (.tmp (23 : Nat)), none⟩,
  ⟨(some 25), .binOp .lss 3 (.tmp (24 : Nat)) (.const (.int .i64 0)) 3, none⟩,
  ⟨(some 26), .move (.tmp (25 : Nat)), none⟩,
  ⟨(some 27), .fieldAddr 116 (.tmp (5 : Nat)) 0, (some (26, false))⟩,
  ⟨(some 28), .load 3 (.tmp (27 : Nat)), (some (26, false))⟩,
  ⟨(some 29), .binOp .gtr 3 (.tmp (28 : Nat)) (.const (.int .i64 65280)) 3, (some (26, false))⟩,
  ⟨(some 30), .pick (.tmp (26 : Nat)) (.const (.bool true)) (.tmp (29 : Nat)), none⟩,
  ⟨(some 31), .move (.tmp (30 : Nat)), none⟩,
  ⟨(some 32), .fieldAddr 116 (.tmp (5 : Nat)) 1, (some (31, false))⟩,
  ⟨(some 33), .load 3 (.tmp (32 : Nat)), (some (31, false))⟩,
  ⟨(some 34), .binOp .lss 3 (.tmp (33 : Nat)) (.const (.int .i64 0)) 3, (some (31, false))⟩,
  ⟨(some 35), .pick (.tmp (31 : Nat)) (.const (.bool true)) (.tmp (34 : Nat)), none⟩,
  ⟨(some 36), .move (.tmp (35 : Nat)), none⟩,
  ⟨(some 37), .fieldAddr 116 (.tmp (5 : Nat)) 1, (some (36, false))⟩,
  ⟨(some 38), .load 3 (.tmp (37 : Nat)), (some (36, false))⟩,
  ⟨(some 39), .binOp .gtr 3 (.tmp (38 : Nat)) (.const (.int .i64 65280)) 3, (some (36, false))⟩,
  ⟨(some 40), .pick (.tmp (36 : Nat)) (.const (.bool true)) (.tmp (39 : Nat)), none⟩]
def curve_Check_r10 : List SO := [⟨(some 2), .assign (.const (.int .i64 3)), none⟩]
def curve_Check_r11 : List SO := [⟨(some 41), .move (.tmp (4 : Nat)), none⟩,
  ⟨(some 42), .binOp .gtr 3 (.tmp (41 : Nat)) (.const (.int .i64 0)) 3, none⟩,
  ⟨(some 43), .move (.tmp (42 : Nat)), none⟩,
  ⟨(some 44), .fieldAddr 116 (.tmp (5 : Nat)) 0, (some (43, true))⟩,
  ⟨(some 45), .load 3 (.tmp (44 : Nat)), (some (43, true))⟩,
  ⟨(some 46), .fieldAddr 46 (.tmp (1 : Nat)) 0, (some (43, true))⟩,
  ⟨(some 47), .load 44 (.tmp (46 : Nat)), (some (43, true))⟩,
  ⟨(some 48), .move (.tmp (4 : Nat)), (some (43, true))⟩,
  ⟨(some 49), .binOp .sub 3 (.tmp (48 : Nat)) (.const (.int .i64 1)) 3, (some (43, true))⟩,
  ⟨(some 50), .indexAddr 44 (.tmp (47 : Nat)) (.tmp (49 : Nat)), (some (43, true))⟩,
  ⟨(some 51), .fieldAddr 116 (.tmp (50 : Nat)) 0, (some (43, true))⟩,
  ⟨(some 52), .load 3 (.tmp (51 : Nat)), (some (43, true))⟩,
  ⟨(some 53), .binOp .leq 3 (.tmp (45 : Nat)) (.tmp (52 : Nat)) 3, (some (43, true))⟩,
  ⟨(some 54), .move (.tmp (53 : Nat)), (some (43, true))⟩,
  ⟨(some 55), .fieldAddr 116 (.tmp (5 : Nat)) 1, (some (54, false))⟩,
  ⟨(some 56), .load 3 (.tmp (55 : Nat)), (some (54, false))⟩,
  ⟨(some 57), .fieldAddr 46 (.tmp (1 : Nat)) 0, (some (54, false))⟩,
  ⟨(some 58), .load 44 (.tmp (57 : Nat)), (some (54, false))⟩,
  ⟨(some 59), .move (.tmp (4 : Nat)), (some (54, false))⟩,
  ⟨(some 60), .binOp .sub 3 (.tmp (59 : Nat)) (.const (.int .i64 1)) 3, (some (54, false))⟩,
  ⟨(some 61), .indexAddr 44 (.tmp (58 : Nat)) (.tmp (60 : Nat)), (some (54, false))⟩,
  ⟨(some 62), .fieldAddr 116 (.tmp (61 : Nat)) 1, (some (54, false))⟩,
  ⟨(some 63), .load 3 (.tmp (62 : Nat)), (some (54, false))⟩,
  ⟨(some 64), .binOp .lss 3 (.tmp (56 : Nat)) (.tmp (63 : Nat)) 3, (some (54, false))⟩,
  ⟨(some 65), .pick (.tmp (54 : Nat)) (.const (.bool true)) (.tmp (64 : Nat)), (some (43, true))⟩,
  ⟨(some 66), .pick (.tmp (43 : Nat)) (.tmp (65 : Nat)) (.const (.bool false)), none⟩]
def curve_Check_a11 : List (List Nat) := [[], [0], [1], [2], [3, 2], [2], [5, 2], [2], [7, 2], [6, 8, 2], [9, 2], [10, 2], [4, 11, 2], [12, 2, 2], [13], [14, 13], [13], [16, 13], [13], [18, 13], [17, 19, 13], [20, 13], [21, 13], [15, 22, 13], [13, 23, 2], [2, 24]]
def curve_Check_r12 : List SO := [⟨(some 2), .assign (.const (.int .i64 18)), none⟩]
def curve_Check_r13 : List SO := [⟨(some 67), .binOp .add 3 (.tmp (18 : Nat)) (.const (.int .i64 1)) 3, none⟩,
  ⟨(some 18), .move (.tmp (67 : Nat)), none⟩]
def curve_Check_r14 : List SO := [⟨(some 68), .fieldAddr 46 (.tmp (1 : Nat)) 0, none⟩,
  ⟨(some 69), .load 44 (.tmp (68 : Nat)), none⟩,
  ⟨(some 70), .indexAddr 44 (.tmp (69 : Nat)) (.const (.int .i64 0)), none⟩,
  ⟨(some 71), .fieldAddr 116 (.tmp (70 : Nat)) 0, none⟩,
  ⟨(some 72), .load 3 (.tmp (71 : Nat)), none⟩,
  ⟨(some 73), .binOp .neq 3 (.tmp (72 : Nat)) (.const (.int .i64 0)) 3, none⟩,
  ⟨(some 74), .move (.tmp (73 : Nat)), none⟩,
  ⟨(some 75), .fieldAddr 46 (.tmp (1 : Nat)) 0, (some (74, false))⟩,
  ⟨(some 76), .load 44 (.tmp (75 : Nat)), (some (74, false))⟩,
  ⟨(some 77), .fieldAddr 46 (.tmp (1 : Nat)) 0, (some (74, false))⟩,
  ⟨(some 78), .load 44 (.tmp (77 : Nat)), (some (74, false))⟩,
  ⟨(some 79), .call ⟨(.builtin .len), #[(.tmp (78 : Nat))], #[44]⟩, (some (74, false))⟩,
  ⟨(some 80), .binOp .sub 3 (.tmp (79 : Nat)) (.const (.int .i64 1)) 3, (some (74, false))⟩,
  ⟨(some 81), .indexAddr 44 (.tmp (76 : Nat)) (.tmp (80 : Nat)), (some (74, false))⟩,
  ⟨(some 82), .fieldAddr 116 (.tmp (81 : Nat)) 0, (some (74, false))⟩,
  ⟨(some 83), .load 3 (.tmp (82 : Nat)), (some (74, false))⟩,
  ⟨(some 84), .binOp .neq 3 (.tmp (83 : Nat)) (.const (.int .i64 65280)) 3, (some (74, false))⟩,
  ⟨(some 85), .pick (.tmp (74 : Nat)) (.const (.bool true)) (.tmp (84 : Nat)), none⟩]
def curve_Check_r15 : List SO := [⟨(some 2), .assign (.const (.int .i64 4)), none⟩]
def curve_Check_r16 : List SO := [⟨(some 2), .assign (.const (.int .i64 0)), none⟩]
def curve_Check_c : SF := ⟨86, (.seq (.reg curve_Check_r0)
  (.seq (.seq (.reg curve_Check_r1)
  (.block 0 (.seq (.reg curve_Check_r2)
  (.cond (.tmp (9 : Nat)) (.seq (.reg curve_Check_r3)
  .ret) (.seq (.reg curve_Check_r4)
  (.cond (.tmp (12 : Nat)) (.seq (.reg curve_Check_r5)
  .ret) .skip))))))
  (.seq (.seq (.reg curve_Check_r6)
  (.block 1 (.loop (.seq (.reg curve_Check_r7)
  (.seq (.cond (.tmp (19 : Nat)) .skip (.exit 1))
  (.seq (.block 2 (.seq (.reg curve_Check_r8)
  (.seq (.seq (.reg curve_Check_r9)
  (.cond (.tmp (40 : Nat)) (.seq (.reg curve_Check_r10)
  .ret) .skip))
  (.seq (.regd curve_Check_r11 curve_Check_a11)
  (.cond (.tmp (66 : Nat)) (.seq (.reg curve_Check_r12)
  .ret) .skip)))))
  (.reg curve_Check_r13)))))))
  (.seq (.seq (.reg curve_Check_r14)
  (.cond (.tmp (85 : Nat)) (.seq (.reg curve_Check_r15)
  .ret) .skip))
  (.seq (.reg curve_Check_r16)
  .ret))))), [.tmp 2]⟩
theorem curve_Check_s : slimF Try.prog 66 = some curve_Check_c := by kernel_rfl
abbrev curve_Check_f : Nat := 66
/-- printworks/curve.Raw -/
def curve_Raw_r0 : List SO := [⟨(some 2), .box 46 (.tmp (0 : Nat)), none⟩,
  ⟨(some 4), .assign (.const (.int .i64 0)), none⟩]
def curve_Raw_r1 : List SO := [⟨(some 10), .fieldAddr 46 (.tmp (2 : Nat)) 0, none⟩,
  ⟨(some 11), .load 44 (.tmp (10 : Nat)), none⟩,
  ⟨(some 12), .call ⟨(.builtin .len), #[(.tmp (11 : Nat))], #[44]⟩, none⟩,
  ⟨(some 13), .binOp .sub 3 (.tmp (12 : Nat)) (.const (.int .i64 1)) 3, none⟩,
  ⟨(some 5), .assign (.const (.int .i64 0)), none⟩,
  ⟨(some 6), .assign (.tmp (13 : Nat)), none⟩]
def curve_Raw_a1 : List (List Nat) := [[], [0], [1], [2], [], [3, 4, 0, 1, 2, 3, 4]]
def curve_Raw_r2 : List SO := [⟨(some 14), .move (.tmp (6 : Nat)), none⟩,
  ⟨(some 15), .move (.tmp (5 : Nat)), none⟩,
  ⟨(some 16), .binOp .sub 3 (.tmp (14 : Nat)) (.tmp (15 : Nat)) 3, none⟩,
  ⟨(some 17), .binOp .gtr 3 (.tmp (16 : Nat)) (.const (.int .i64 1)) 3, none⟩]
def curve_Raw_r3 : List SO := [⟨(some 18), .move (.tmp (5 : Nat)), none⟩,
  ⟨(some 19), .move (.tmp (6 : Nat)), none⟩,
  ⟨(some 20), .binOp .add 3 (.tmp (18 : Nat)) (.tmp (19 : Nat)) 3, none⟩,
  ⟨(some 21), .binOp .quo 3 (.tmp (20 : Nat)) (.const (.int .i64 2)) 3, none⟩,
  ⟨(some 7), .assign (.tmp (21 : Nat)), none⟩]
def curve_Raw_r4 : List SO := [⟨(some 22), .fieldAddr 46 (.tmp (2 : Nat)) 0, none⟩,
  ⟨(some 23), .load 44 (.tmp (22 : Nat)), none⟩,
  ⟨(some 24), .move (.tmp (7 : Nat)), none⟩,
  ⟨(some 25), .indexAddr 44 (.tmp (23 : Nat)) (.tmp (24 : Nat)), none⟩,
  ⟨(some 26), .fieldAddr 116 (.tmp (25 : Nat)) 0, none⟩,
  ⟨(some 27), .load 3 (.tmp (26 : Nat)), none⟩,
  ⟨(some 28), .move (.tmp (1 : Nat)), none⟩,
  ⟨(some 29), .binOp .leq 3 (.tmp (27 : Nat)) (.tmp (28 : Nat)) 3, none⟩]
def curve_Raw_r5 : List SO := [⟨(some 30), .move (.tmp (7 : Nat)), none⟩,
  ⟨(some 5), .assign (.tmp (30 : Nat)), none⟩]
def curve_Raw_r6 : List SO := [⟨(some 31), .move (.tmp (7 : Nat)), none⟩,
  ⟨(some 6), .assign (.tmp (31 : Nat)), none⟩]
def curve_Raw_r7 : List SO := [⟨(some 32), .fieldAddr 46 (.tmp (2 : Nat)) 0, none⟩,
  ⟨(some 33), .load 44 (.tmp (32 : Nat)), none⟩,
  ⟨(some 34), .move (.tmp (5 : Nat)), none⟩,
  ⟨(some 35), .indexAddr 44 (.tmp (33 : Nat)) (.tmp (34 : Nat)), none⟩,
  ⟨(some 36), .load 116 (.tmp (35 : Nat)), none⟩,
  ⟨(some 37), .fieldAddr 46 (.tmp (2 : Nat)) 0, none⟩,
  ⟨(some 38), .load 44 (.tmp (37 : Nat)), none⟩,
  ⟨(some 39), .move (.tmp (6 : Nat)), none⟩,
  ⟨(some 40), .indexAddr 44 (.tmp (38 : Nat)) (.tmp (39 : Nat)), none⟩,
  ⟨(some 41), .load 116 (.tmp (40 : Nat)), none⟩,
  ⟨(some 8), .alloc 116, none⟩,
  ⟨(some 9), .alloc 116, none⟩,
  ⟨none, .store 116 (.tmp (8 : Nat)) (.tmp (36 : Nat)), none⟩,
  ⟨none, .store 116 (.tmp (9 : Nat)) (.tmp (41 : Nat)), none⟩]
def curve_Raw_a7 : List (List Nat) := [[], [0], [], [1, 2], [3], [], [5], [], [6, 7], [8], [], [], [10, 4, 0, 1, 2, 3, 4, 10, 11], [11, 9, 12, 0, 1, 2, 3, 4, 5, 6, 7, 8, 9, 10, 11, 12]]
def curve_Raw_r8 : List SO := [⟨(some 42), .fieldAddr 116 (.tmp (8 : Nat)) 1, none⟩,
  ⟨(some 43), .load 3 (.tmp (42 : Nat)), none⟩,
  ⟨(some 44), .fieldAddr 116 (.tmp (9 : Nat)) 1, none⟩,
  ⟨(some 45), .load 3 (.tmp (44 : Nat)), none⟩,
  ⟨(some 46), .fieldAddr 116 (.tmp (8 : Nat)) 1, none⟩,
  ⟨(some 47), .load 3 (.tmp (46 : Nat)), none⟩,
  ⟨(some 48), .binOp .sub 3 (.tmp (45 : Nat)) (.tmp (47 : Nat)) 3, none⟩,
  ⟨(some 49), .move (.tmp (1 : Nat)), none⟩,
  ⟨(some 50), .fieldAddr 116 (.tmp (8 : Nat)) 0, none⟩,
  ⟨(some 51), .load 3 (.tmp (50 : Nat)), none⟩,
  ⟨(some 52), .binOp .sub 3 (.tmp (49 : Nat)) (.tmp (51 : Nat)) 3, none⟩,
  ⟨(some 53), .binOp .mul 3 (.tmp (48 : Nat)) (.tmp (52 : Nat)) 3, none⟩,
  ⟨(some 54), .fieldAddr 116 (.tmp (9 : Nat)) 0, none⟩,
  ⟨(some 55), .load 3 (.tmp (54 : Nat)), none⟩,
  ⟨(some 56), .fieldAddr 116 (.tmp (8 : Nat)) 0, none⟩,
  ⟨(some 57), .load 3 (.tmp (56 : Nat)), none⟩,
  ⟨(some 58), .binOp .sub 3 (.tmp (55 : Nat)) (.tmp (57 : Nat)) 3, none⟩,
  ⟨(some 59), .call ⟨(.value (.func (78 : Nat))), #[(.tmp (53 : Nat)), (.tmp (58 : Nat))], #[3, 3]⟩, none⟩,
  ⟨(some 60), .binOp .add 3 (.tmp (43 : Nat)) (.tmp (59 : Nat)) 3, none⟩,
  ⟨(some 4), .assign (.tmp (60 : Nat)), none⟩]
def curve_Raw_a8 : List (List Nat) := [[], [0], [], [2], [], [4], [3, 5], [], [], [8], [7, 9], [6, 10], [], [12], [], [14], [13, 15], [11, 16], [1, 17], [18, 17, 0, 1, 2, 3, 4, 5, 6, 7, 8, 9, 10, 11, 12, 13, 14, 15, 16, 17, 18]]
def curve_Raw_c : SF := ⟨61, (.seq (.reg curve_Raw_r0)
  (.seq (.regd curve_Raw_r1 curve_Raw_a1)
  (.seq (.block 0 (.loop (.seq (.seq (.reg curve_Raw_r2)
  (.cond (.tmp (17 : Nat)) .skip (.exit 0)))
  (.block 1 (.seq (.reg curve_Raw_r3)
  (.seq (.reg curve_Raw_r4)
  (.cond (.tmp (29 : Nat)) (.reg curve_Raw_r5) (.reg curve_Raw_r6))))))))
  (.seq (.regd curve_Raw_r7 curve_Raw_a7)
  (.seq (.regd curve_Raw_r8 curve_Raw_a8)
  .ret))))), [.tmp 4]⟩
theorem curve_Raw_s : slimF Try.prog 67 = some curve_Raw_c := by kernel_rfl
abbrev curve_Raw_f : Nat := 67
/-- printworks/curve.Nearest -/
def curve_Nearest_r0 : List SO := [⟨(some 4), .assign (.const (.int .i64 0)), none⟩]
def curve_Nearest_r1 : List SO := [⟨(some 6), .move (.tmp (0 : Nat)), none⟩,
  ⟨(some 7), .binOp .mul 3 (.const (.int .i64 2)) (.tmp (6 : Nat)) 3, none⟩,
  ⟨(some 8), .move (.tmp (1 : Nat)), none⟩,
  ⟨(some 9), .binOp .add 3 (.tmp (7 : Nat)) (.tmp (8 : Nat)) 3, none⟩,
  ⟨(some 10), .move (.tmp (1 : Nat)), none⟩,
  ⟨(some 11), .binOp .mul 3 (.const (.int .i64 2)) (.tmp (10 : Nat)) 3, none⟩,
  ⟨(some 0), .assign (.tmp (9 : Nat)), none⟩,
  ⟨(some 1), .assign (.tmp (11 : Nat)), none⟩]
def curve_Nearest_r2 : List SO := [⟨(some 12), .move (.tmp (0 : Nat)), none⟩,
  ⟨(some 13), .move (.tmp (1 : Nat)), none⟩,
  ⟨(some 14), .binOp .quo 3 (.tmp (12 : Nat)) (.tmp (13 : Nat)) 3, none⟩,
  ⟨(some 5), .assign (.tmp (14 : Nat)), none⟩]
def curve_Nearest_r3 : List SO := [⟨(some 15), .move (.tmp (0 : Nat)), none⟩,
  ⟨(some 16), .move (.tmp (1 : Nat)), none⟩,
  ⟨(some 17), .binOp .rem 3 (.tmp (15 : Nat)) (.tmp (16 : Nat)) 3, none⟩,
  ⟨(some 18), .binOp .lss 3 (.tmp (17 : Nat)) (.const (.int .i64 0)) 3, none⟩]
def curve_Nearest_r4 : List SO := [⟨(some 19), .move (.tmp (5 : Nat)), none⟩,
  ⟨(some 20), .binOp .sub 3 (.tmp (19 : Nat)) (.const (.int .i64 1)) 3, none⟩,
  ⟨(some 5), .assign (.tmp (20 : Nat)), none⟩]
def curve_Nearest_r5 : List SO := [⟨(some 21), .move (.tmp (5 : Nat)), none⟩,
  ⟨(some 4), .assign (.tmp (21 : Nat)), none⟩]
def curve_Nearest_c : SF := ⟨22, (.seq (.reg curve_Nearest_r0)
  (.seq (.reg curve_Nearest_r1)
  (.seq (.reg curve_Nearest_r2)
  (.seq (.seq (.reg curve_Nearest_r3)
  (.cond (.tmp (18 : Nat)) (.reg curve_Nearest_r4) .skip))
  (.seq (.reg curve_Nearest_r5)
  .ret))))), [.tmp 4]⟩
theorem curve_Nearest_s : slimF Try.prog 78 = some curve_Nearest_c := by kernel_rfl
abbrev curve_Nearest_f : Nat := 78

def tbl_curve : List (Nat × SF) := [(30, curve_At_c), (66, curve_Check_c), (67, curve_Raw_c), (78, curve_Nearest_c)]
theorem tbl_curve_ok : okT Try.prog tbl_curve := ⟨curve_At_s, curve_Check_s, curve_Raw_s, curve_Nearest_s, trivial⟩

end Go.Proofs.Ytogbkhopanaoiaa
namespace Go.Proofs.Ytogbkhopanaoiaa
open Go Go.Lite
set_option linter.unusedVariables false

/-- printworks/profile.Forward -/
def profile_Forward_r0 : List SO := [⟨(some 2), .box 62 (.tmp (0 : Nat)), none⟩,
  ⟨(some 4), .alloc 43, none⟩,
  ⟨(some 5), .assign (.const (.int .i64 0)), none⟩]
def profile_Forward_r1 : List SO := [⟨(some 8), .load 62 (.tmp (2 : Nat)), none⟩,
  ⟨(some 9), .call ⟨(.value (.func (33 : Nat))), #[(.tmp (8 : Nat))], #[62]⟩, none⟩,
  ⟨(some 6), .assign (.tmp (9 : Nat)), none⟩]
def profile_Forward_r2 : List SO := [⟨(some 10), .move (.tmp (6 : Nat)), none⟩,
  ⟨(some 11), .binOp .neq 33 (.tmp (10 : Nat)) (.const (.int .i64 0)) 33, none⟩]
def profile_Forward_r3 : List SO := [⟨(some 12), .build 43 #[], none⟩,
  ⟨(some 13), .move (.tmp (6 : Nat)), none⟩,
  ⟨none, .store 43 (.tmp (4 : Nat)) (.tmp (12 : Nat)), none⟩,
  ⟨(some 5), .assign (.tmp (13 : Nat)), none⟩]
def profile_Forward_r4 : List SO := [⟨(some 14), .move (.tmp (1 : Nat)), none⟩,
  ⟨(some 15), .fieldAddr 62 (.tmp (2 : Nat)) 1, none⟩,
  ⟨(some 16), .load 22 (.tmp (15 : Nat)), none⟩,
  ⟨(some 17), .call ⟨(.builtin .len), #[(.tmp (16 : Nat))], #[22]⟩, none⟩,
  ⟨(some 18), .call ⟨(.value (.func (48 : Nat))), #[(.tmp (14 : Nat)), (.tmp (17 : Nat))], #[23, 3]⟩, none⟩,
  ⟨(some 7), .assign (.tmp (18 : Nat)), none⟩]
def profile_Forward_r5 : List SO := [⟨(some 19), .move (.tmp (7 : Nat)), none⟩,
  ⟨(some 20), .binOp .neq 33 (.tmp (19 : Nat)) (.const (.int .i64 0)) 33, none⟩]
def profile_Forward_r6 : List SO := [⟨(some 21), .build 43 #[], none⟩,
  ⟨(some 22), .move (.tmp (7 : Nat)), none⟩,
  ⟨none, .store 43 (.tmp (4 : Nat)) (.tmp (21 : Nat)), none⟩,
  ⟨(some 5), .assign (.tmp (22 : Nat)), none⟩]
def profile_Forward_r7 : List SO := [⟨(some 23), .move (.tmp (1 : Nat)), none⟩,
  ⟨(some 24), .call ⟨(.value (.func (60 : Nat))), #[(.tmp (2 : Nat)), (.tmp (23 : Nat))], #[105, 23]⟩, none⟩,
  ⟨none, .store 43 (.tmp (4 : Nat)) (.tmp (24 : Nat)), none⟩,
  ⟨(some 5), .assign (.const (.int .i64 0)), none⟩]
def profile_Forward_c : SF := ⟨25, (.seq (.reg profile_Forward_r0)
  (.seq (.seq (.reg profile_Forward_r1)
  (.seq (.reg profile_Forward_r2)
  (.cond (.tmp (11 : Nat)) (.seq (.reg profile_Forward_r3)
  .ret) .skip)))
  (.seq (.seq (.reg profile_Forward_r4)
  (.seq (.reg profile_Forward_r5)
  (.cond (.tmp (20 : Nat)) (.seq (.reg profile_Forward_r6)
  .ret) .skip)))
  (.seq (.reg profile_Forward_r7)
  .ret)))), [.cell 4 43, .tmp 5]⟩
theorem profile_Forward_s : slimF Try.prog 26 = some profile_Forward_c := by kernel_rfl
abbrev profile_Forward_f : Nat := 26
/-- printworks/profile.Exact -/
def profile_Exact_r0 : List SO := [⟨(some 2), .box 62 (.tmp (0 : Nat)), none⟩,
  ⟨(some 4), .assign (.const (.slice none 0 0)), none⟩,
  ⟨(some 5), .assign (.const (.int .i64 0)), none⟩]
def profile_Exact_r1 : List SO := [⟨(some 8), .load 62 (.tmp (2 : Nat)), none⟩,
  ⟨(some 9), .call ⟨(.value (.func (33 : Nat))), #[(.tmp (8 : Nat))], #[62]⟩, none⟩,
  ⟨(some 6), .assign (.tmp (9 : Nat)), none⟩]
def profile_Exact_r2 : List SO := [⟨(some 10), .move (.tmp (6 : Nat)), none⟩,
  ⟨(some 11), .binOp .neq 33 (.tmp (10 : Nat)) (.const (.int .i64 0)) 33, none⟩]
def profile_Exact_r3 : List SO := [⟨(some 12), .move (.tmp (6 : Nat)), none⟩,
  ⟨(some 4), .assign (.const (.slice none 0 0)), none⟩,
  ⟨(some 5), .assign (.tmp (12 : Nat)), none⟩]
def profile_Exact_r4 : List SO := [⟨(some 13), .move (.tmp (1 : Nat)), none⟩,
  ⟨(some 14), .fieldAddr 62 (.tmp (2 : Nat)) 1, none⟩,
  ⟨(some 15), .load 22 (.tmp (14 : Nat)), none⟩,
  ⟨(some 16), .call ⟨(.builtin .len), #[(.tmp (15 : Nat))], #[22]⟩, none⟩,
  ⟨(some 17), .call ⟨(.value (.func (48 : Nat))), #[(.tmp (13 : Nat)), (.tmp (16 : Nat))], #[23, 3]⟩, none⟩,
  ⟨(some 7), .assign (.tmp (17 : Nat)), none⟩]
def profile_Exact_r5 : List SO := [⟨(some 18), .move (.tmp (7 : Nat)), none⟩,
  ⟨(some 19), .binOp .neq 33 (.tmp (18 : Nat)) (.const (.int .i64 0)) 33, none⟩]
def profile_Exact_r6 : List SO := [⟨(some 20), .move (.tmp (7 : Nat)), none⟩,
  ⟨(some 4), .assign (.const (.slice none 0 0)), none⟩,
  ⟨(some 5), .assign (.tmp (20 : Nat)), none⟩]
def profile_Exact_r7 : List SO := [⟨(some 21), .fieldAddr 62 (.tmp (2 : Nat)) 3, none⟩,
  ⟨(some 22), .move (.tmp (1 : Nat)), none⟩,
  ⟨(some 23), .call ⟨(.value (.func (65 : Nat))), #[(.tmp (2 : Nat)), (.tmp (22 : Nat))], #[105, 23]⟩, none⟩,
  ⟨(some 24), .call ⟨(.value (.func (58 : Nat))), #[(.tmp (21 : Nat)), (.tmp (23 : Nat))], #[82, 23]⟩, none⟩,
  ⟨(some 4), .assign (.tmp (24 : Nat)), none⟩,
  ⟨(some 5), .assign (.const (.int .i64 0)), none⟩]
def profile_Exact_c : SF := ⟨25, (.seq (.reg profile_Exact_r0)
  (.seq (.seq (.reg profile_Exact_r1)
  (.seq (.reg profile_Exact_r2)
  (.cond (.tmp (11 : Nat)) (.seq (.reg profile_Exact_r3)
  .ret) .skip)))
  (.seq (.seq (.reg profile_Exact_r4)
  (.seq (.reg profile_Exact_r5)
  (.cond (.tmp (19 : Nat)) (.seq (.reg profile_Exact_r6)
  .ret) .skip)))
  (.seq (.reg profile_Exact_r7)
  .ret)))), [.tmp 4, .tmp 5]⟩
theorem profile_Exact_s : slimF Try.prog 29 = some profile_Exact_c := by kernel_rfl
/-- printworks/profile.Encode -/
def profile_Encode_r0 : List SO := [⟨(some 1), .box 62 (.tmp (0 : Nat)), none⟩,
  ⟨(some 2), .assign (.const (.slice none 0 0)), none⟩,
  ⟨(some 3), .assign (.const (.int .i64 0)), none⟩]
def profile_Encode_r1 : List SO := [⟨(some 21), .load 62 (.tmp (1 : Nat)), none⟩,
  ⟨(some 22), .call ⟨(.value (.func (33 : Nat))), #[(.tmp (21 : Nat))], #[62]⟩, none⟩,
  ⟨(some 4), .assign (.tmp (22 : Nat)), none⟩]
def profile_Encode_r2 : List SO := [⟨(some 23), .move (.tmp (4 : Nat)), none⟩,
  ⟨(some 24), .binOp .neq 33 (.tmp (23 : Nat)) (.const (.int .i64 0)) 33, none⟩]
def profile_Encode_r3 : List SO := [⟨(some 25), .move (.tmp (4 : Nat)), none⟩,
  ⟨(some 2), .assign (.const (.slice none 0 0)), none⟩,
  ⟨(some 3), .assign (.tmp (25 : Nat)), none⟩]
def profile_Encode_r4 : List SO := [⟨(some 5), .alloc 114, none⟩]
def profile_Encode_r5 : List SO := [⟨(some 26), .fieldAddr 62 (.tmp (1 : Nat)) 0, none⟩,
  ⟨(some 27), .load 9 (.tmp (26 : Nat)), none⟩,
  ⟨(some 28), .convert 9 71 (.tmp (27 : Nat)), none⟩,
  ⟨(some 29), .indexAddr 114 (.tmp (5 : Nat)) (.const (.int .i64 0)), none⟩,
  ⟨none, .store 71 (.tmp (29 : Nat)) (.tmp (28 : Nat)), none⟩]
def profile_Encode_r6 : List SO := [⟨(some 30), .fieldAddr 62 (.tmp (1 : Nat)) 1, none⟩,
  ⟨(some 31), .load 22 (.tmp (30 : Nat)), none⟩,
  ⟨(some 32), .call ⟨(.builtin .len), #[(.tmp (31 : Nat))], #[22]⟩, none⟩,
  ⟨(some 33), .move (.const (.int .i64 0)), none⟩]
def profile_Encode_r7 : List SO := [⟨(some 34), .binOp .lss 3 (.tmp (33 : Nat)) (.tmp (32 : Nat)) 3, none⟩]
def profile_Encode_r8 : List SO := [⟨(some 35), .indexAddr 22 (.tmp (31 : Nat)) (.tmp (33 : Nat)), none⟩,
  ⟨(some 36), .load 9 (.tmp (35 : Nat)), none⟩,
  ⟨(some 7), .assign (.tmp (36 : Nat)), none⟩]
def profile_Encode_r9 : List SO := [⟨(some 37), .indexAddr 114 (.tmp (5 : Nat)) (.const (.int .i64 1)), none⟩,
  ⟨(some 38), .load 71 (.tmp (37 : Nat)), none⟩,
  ⟨(some 39), .move (.tmp (7 : Nat)), none⟩,
  ⟨(some 40), .call ⟨(.builtin .len), #[(.tmp (39 : Nat))], #[9]⟩, none⟩,
  ⟨(some 41), .convert 3 5 (.tmp (40 : Nat)), none⟩,
  ⟨(some 42), .buildSlice 71 1 #[(0, (.tmp (41 : Nat)))], none⟩,
  ⟨(some 43), .call ⟨(.builtin .append), #[(.tmp (38 : Nat)), (.tmp (42 : Nat))], #[71, 71]⟩, none⟩,
  ⟨(some 44), .move (.tmp (7 : Nat)), none⟩,
  ⟨(some 45), .call ⟨(.builtin .append), #[(.tmp (43 : Nat)), (.tmp (44 : Nat))], #[71, 9]⟩, none⟩,
  ⟨(some 46), .indexAddr 114 (.tmp (5 : Nat)) (.const (.int .i64 1)), none⟩,
  ⟨none, .store 71 (.tmp (46 : Nat)) (.tmp (45 : Nat)), none⟩]
def profile_Encode_r10 : List SO := [⟨(some 47), .binOp .add 3 (.tmp (33 : Nat)) (.const (.int .i64 1)) 3, none⟩,
  ⟨(some 33), .move (.tmp (47 : Nat)), none⟩]
def profile_Encode_r11 : List SO := [⟨(some 48), .fieldAddr 62 (.tmp (1 : Nat)) 2, none⟩,
  ⟨(some 49), .load 60 (.tmp (48 : Nat)), none⟩,
  ⟨(some 50), .call ⟨(.builtin .len), #[(.tmp (49 : Nat))], #[60]⟩, none⟩,
  ⟨(some 51), .move (.const (.int .i64 0)), none⟩]
def profile_Encode_r12 : List SO := [⟨(some 52), .binOp .lss 3 (.tmp (51 : Nat)) (.tmp (50 : Nat)) 3, none⟩]
def profile_Encode_r13 : List SO := [⟨(some 53), .indexAddr 60 (.tmp (49 : Nat)) (.tmp (51 : Nat)), none⟩,
  ⟨(some 54), .load 46 (.tmp (53 : Nat)), none⟩,
  ⟨(some 9), .alloc 46, none⟩,
  ⟨none, .store 46 (.tmp (9 : Nat)) (.tmp (54 : Nat)), none⟩]
def profile_Encode_r14 : List SO := [⟨(some 55), .indexAddr 114 (.tmp (5 : Nat)) (.const (.int .i64 2)), none⟩,
  ⟨(some 56), .load 71 (.tmp (55 : Nat)), none⟩,
  ⟨(some 57), .fieldAddr 46 (.tmp (9 : Nat)) 0, none⟩,
  ⟨(some 58), .load 44 (.tmp (57 : Nat)), none⟩,
  ⟨(some 59), .call ⟨(.builtin .len), #[(.tmp (58 : Nat))], #[44]⟩, none⟩,
  ⟨(some 60), .convert 3 5 (.tmp (59 : Nat)), none⟩,
  ⟨(some 61), .buildSlice 71 1 #[(0, (.tmp (60 : Nat)))], none⟩,
  ⟨(some 62), .call ⟨(.builtin .append), #[(.tmp (56 : Nat)), (.tmp (61 : Nat))], #[71, 71]⟩, none⟩,
  ⟨(some 63), .indexAddr 114 (.tmp (5 : Nat)) (.const (.int .i64 2)), none⟩,
  ⟨none, .store 71 (.tmp (63 : Nat)) (.tmp (62 : Nat)), none⟩]
def profile_Encode_r15 : List SO := [⟨(some 64), .fieldAddr 46 (.tmp (9 : Nat)) 0, none⟩,
  ⟨(some 65), .load 44 (.tmp (64 : Nat)), none⟩,
  ⟨(some 66), .call ⟨(.builtin .len), #[(.tmp (65 : Nat))], #[44]⟩, none⟩,
  ⟨(some 67), .move (.const (.int .i64 0)), none⟩]
def profile_Encode_r16 : List SO := [⟨(some 68), .binOp .lss 3 (.tmp (67 : Nat)) (.tmp (66 : Nat)) 3, none⟩]
def profile_Encode_r17 : List SO := [⟨(some 69), .indexAddr 44 (.tmp (65 : Nat)) (.tmp (67 : Nat)), none⟩,
  ⟨(some 70), .load 116 (.tmp (69 : Nat)), none⟩,
  ⟨(some 11), .alloc 116, none⟩,
  ⟨none, .store 116 (.tmp (11 : Nat)) (.tmp (70 : Nat)), none⟩]
def profile_Encode_r18 : List SO := [⟨(some 71), .indexAddr 114 (.tmp (5 : Nat)) (.const (.int .i64 2)), none⟩,
  ⟨(some 72), .load 71 (.tmp (71 : Nat)), none⟩,
  ⟨(some 73), .fieldAddr 116 (.tmp (11 : Nat)) 0, none⟩,
  ⟨(some 74), .load 3 (.tmp (73 : Nat)), none⟩,
  ⟨(some 75), .call ⟨(.value (.func (69 : Nat))), #[(.tmp (72 : Nat)), (.tmp (74 : Nat))], #[71, 3]⟩, none⟩,
  ⟨(some 76), .indexAddr 114 (.tmp (5 : Nat)) (.const (.int .i64 2)), none⟩,
  ⟨none, .store 71 (.tmp (76 : Nat)) (.tmp (75 : Nat)), none⟩]
def profile_Encode_r19 : List SO := [⟨(some 77), .indexAddr 114 (.tmp (5 : Nat)) (.const (.int .i64 2)), none⟩,
  ⟨(some 78), .load 71 (.tmp (77 : Nat)), none⟩,
  ⟨(some 79), .fieldAddr 116 (.tmp (11 : Nat)) 1, none⟩,
  ⟨(some 80), .load 3 (.tmp (79 : Nat)), none⟩,
  ⟨(some 81), .call ⟨(.value (.func (69 : Nat))), #[(.tmp (78 : Nat)), (.tmp (80 : Nat))], #[71, 3]⟩, none⟩,
  ⟨(some 82), .indexAddr 114 (.tmp (5 : Nat)) (.const (.int .i64 2)), none⟩,
  ⟨none, .store 71 (.tmp (82 : Nat)) (.tmp (81 : Nat)), none⟩]
def profile_Encode_r20 : List SO := [⟨(some 83), .binOp .add 3 (.tmp (67 : Nat)) (.const (.int .i64 1)) 3, none⟩,
  ⟨(some 67), .move (.tmp (83 : Nat)), none⟩]
def profile_Encode_r21 : List SO := [⟨(some 84), .binOp .add 3 (.tmp (51 : Nat)) (.const (.int .i64 1)) 3, none⟩,
  ⟨(some 51), .move (.tmp (84 : Nat)), none⟩]
def profile_Encode_r22 : List SO := [⟨(some 85), .indexAddr 114 (.tmp (5 : Nat)) (.const (.int .i64 3)), none⟩,
  ⟨(some 86), .load 71 (.tmp (85 : Nat)), none⟩,
  ⟨(some 87), .fieldAddr 62 (.tmp (1 : Nat)) 3, none⟩,
  ⟨(some 88), .fieldAddr 25 (.tmp (87 : Nat)) 0, none⟩,
  ⟨(some 89), .load 3 (.tmp (88 : Nat)), none⟩,
  ⟨(some 90), .convert 3 5 (.tmp (89 : Nat)), none⟩,
  ⟨(some 91), .fieldAddr 62 (.tmp (1 : Nat)) 3, none⟩,
  ⟨(some 92), .fieldAddr 25 (.tmp (91 : Nat)) 1, none⟩,
  ⟨(some 93), .load 3 (.tmp (92 : Nat)), none⟩,
  ⟨(some 94), .convert 3 5 (.tmp (93 : Nat)), none⟩,
  ⟨(some 95), .fieldAddr 62 (.tmp (1 : Nat)) 3, none⟩,
  ⟨(some 96), .fieldAddr 25 (.tmp (95 : Nat)) 2, none⟩,
  ⟨(some 97), .load 3 (.tmp (96 : Nat)), none⟩,
  ⟨(some 98), .convert 3 5 (.tmp (97 : Nat)), none⟩,
  ⟨(some 99), .buildSlice 71 3 #[(0, (.tmp (90 : Nat))), (1, (.tmp (94 : Nat))), (2, (.tmp (98 : Nat)))], none⟩,
  ⟨(some 100), .call ⟨(.builtin .append), #[(.tmp (86 : Nat)), (.tmp (99 : Nat))], #[71, 71]⟩, none⟩,
  ⟨(some 101), .indexAddr 114 (.tmp (5 : Nat)) (.const (.int .i64 3)), none⟩,
  ⟨none, .store 71 (.tmp (101 : Nat)) (.tmp (100 : Nat)), none⟩]
def profile_Encode_r23 : List SO := [⟨(some 102), .fieldAddr 62 (.tmp (1 : Nat)) 3, none⟩,
  ⟨(some 103), .fieldAddr 25 (.tmp (102 : Nat)) 3, none⟩,
  ⟨(some 104), .load 23 (.tmp (103 : Nat)), none⟩,
  ⟨(some 105), .call ⟨(.builtin .len), #[(.tmp (104 : Nat))], #[23]⟩, none⟩,
  ⟨(some 106), .move (.const (.int .i64 0)), none⟩]
def profile_Encode_r24 : List SO := [⟨(some 107), .binOp .lss 3 (.tmp (106 : Nat)) (.tmp (105 : Nat)) 3, none⟩]
def profile_Encode_r25 : List SO := [⟨(some 108), .indexAddr 23 (.tmp (104 : Nat)) (.tmp (106 : Nat)), none⟩,
  ⟨(some 109), .load 3 (.tmp (108 : Nat)), none⟩,
  ⟨(some 13), .assign (.tmp (109 : Nat)), none⟩]
def profile_Encode_r26 : List SO := [⟨(some 110), .indexAddr 114 (.tmp (5 : Nat)) (.const (.int .i64 3)), none⟩,
  ⟨(some 111), .load 71 (.tmp (110 : Nat)), none⟩,
  ⟨(some 112), .move (.tmp (13 : Nat)), none⟩,
  ⟨(some 113), .call ⟨(.value (.func (69 : Nat))), #[(.tmp (111 : Nat)), (.tmp (112 : Nat))], #[71, 3]⟩, none⟩,
  ⟨(some 114), .indexAddr 114 (.tmp (5 : Nat)) (.const (.int .i64 3)), none⟩,
  ⟨none, .store 71 (.tmp (114 : Nat)) (.tmp (113 : Nat)), none⟩]
def profile_Encode_r27 : List SO := [⟨(some 115), .binOp .add 3 (.tmp (106 : Nat)) (.const (.int .i64 1)) 3, none⟩,
  ⟨(some 106), .move (.tmp (115 : Nat)), none⟩]
def profile_Encode_r28 : List SO := [⟨(some 116), .buildSlice 71 4 #[(0, (.const (.int .u8 80))), (1, (.const (.int .u8 82))), (2, (.const (.int .u8 70))), (3, (.const (.int .u8 49)))], none⟩,
  ⟨(some 117), .convert 71 71 (.tmp (116 : Nat)), none⟩,
  ⟨(some 118), .call ⟨(.builtin .append), #[(.tmp (117 : Nat)), (.const (.int .i64 8))], #[71, 3]⟩, none⟩,
  ⟨(some 14), .assign (.tmp (118 : Nat)), none⟩]
def profile_Encode_r29 : List SO := [⟨(some 119), .move (.tmp (14 : Nat)), none⟩,
  ⟨(some 120), .call ⟨(.value (.func (69 : Nat))), #[(.tmp (119 : Nat)), (.const (.int .i64 4))], #[71, 3]⟩, none⟩,
  ⟨(some 14), .assign (.tmp (120 : Nat)), none⟩]
def profile_Encode_r30 : List SO := [⟨(some 121), .move (.tmp (14 : Nat)), none⟩,
  ⟨(some 122), .buildSlice 71 2 #[(0, (.const (.int .u8 0))), (1, (.const (.int .u8 0)))], none⟩,
  ⟨(some 123), .call ⟨(.builtin .append), #[(.tmp (121 : Nat)), (.tmp (122 : Nat))], #[71, 71]⟩, none⟩,
  ⟨(some 14), .assign (.tmp (123 : Nat)), none⟩]
def profile_Encode_r31 : List SO := [⟨(some 124), .move (.tmp (14 : Nat)), none⟩,
  ⟨(some 125), .call ⟨(.builtin .len), #[(.tmp (124 : Nat))], #[71]⟩, none⟩,
  ⟨(some 126), .binOp .add 3 (.tmp (125 : Nat)) (.const (.int .i64 48)) 3, none⟩,
  ⟨(some 15), .assign (.tmp (126 : Nat)), none⟩]
def profile_Encode_r32 : List SO := [⟨(some 127), .call ⟨(.value (.func (70 : Nat))), #[], #[]⟩, none⟩,
  ⟨(some 128), .move (.const (.int .i64 0)), none⟩]
def profile_Encode_r33 : List SO := [⟨(some 129), .binOp .lss 3 (.tmp (128 : Nat)) (.const (.int .i64 4)) 3, none⟩]
def profile_Encode_r34 : List SO := [⟨(some 130), .move (.tmp (128 : Nat)), none⟩,
  ⟨(some 131), .index 118 (.tmp (127 : Nat)) (.tmp (128 : Nat)), none⟩,
  ⟨(some 16), .assign (.tmp (130 : Nat)), none⟩,
  ⟨(some 17), .assign (.tmp (131 : Nat)), none⟩]
def profile_Encode_r35 : List SO := [⟨(some 132), .move (.tmp (14 : Nat)), none⟩,
  ⟨(some 133), .move (.tmp (17 : Nat)), none⟩,
  ⟨(some 134), .call ⟨(.builtin .append), #[(.tmp (132 : Nat)), (.tmp (133 : Nat))], #[71, 9]⟩, none⟩,
  ⟨(some 14), .assign (.tmp (134 : Nat)), none⟩]
def profile_Encode_r36 : List SO := [⟨(some 135), .move (.tmp (14 : Nat)), none⟩,
  ⟨(some 136), .move (.tmp (15 : Nat)), none⟩,
  ⟨(some 137), .call ⟨(.value (.func (71 : Nat))), #[(.tmp (135 : Nat)), (.tmp (136 : Nat))], #[71, 3]⟩, none⟩,
  ⟨(some 14), .assign (.tmp (137 : Nat)), none⟩]
def profile_Encode_r37 : List SO := [⟨(some 138), .move (.tmp (14 : Nat)), none⟩,
  ⟨(some 139), .move (.tmp (16 : Nat)), none⟩,
  ⟨(some 140), .indexAddr 114 (.tmp (5 : Nat)) (.tmp (139 : Nat)), none⟩,
  ⟨(some 141), .load 71 (.tmp (140 : Nat)), none⟩,
  ⟨(some 142), .call ⟨(.builtin .len), #[(.tmp (141 : Nat))], #[71]⟩, none⟩,
  ⟨(some 143), .call ⟨(.value (.func (71 : Nat))), #[(.tmp (138 : Nat)), (.tmp (142 : Nat))], #[71, 3]⟩, none⟩,
  ⟨(some 14), .assign (.tmp (143 : Nat)), none⟩]
def profile_Encode_r38 : List SO := [⟨(some 144), .move (.tmp (15 : Nat)), none⟩,
  ⟨(some 145), .move (.tmp (16 : Nat)), none⟩,
  ⟨(some 146), .indexAddr 114 (.tmp (5 : Nat)) (.tmp (145 : Nat)), none⟩,
  ⟨(some 147), .load 71 (.tmp (146 : Nat)), none⟩,
  ⟨(some 148), .call ⟨(.builtin .len), #[(.tmp (147 : Nat))], #[71]⟩, none⟩,
  ⟨(some 149), .binOp .add 3 (.tmp (148 : Nat)) (.const (.int .i64 3)) 3, none⟩,
  ⟨(some 150), .binOp .quo 3 (.tmp (149 : Nat)) (.const (.int .i64 4)) 3, none⟩,
  ⟨(some 151), .binOp .mul 3 (.tmp (150 : Nat)) (.const (.int .i64 4)) 3, none⟩,
  ⟨(some 152), .binOp .add 3 (.tmp (144 : Nat)) (.tmp (151 : Nat)) 3, none⟩,
  ⟨(some 15), .assign (.tmp (152 : Nat)), none⟩]
def profile_Encode_r39 : List SO := [⟨(some 153), .binOp .add 3 (.tmp (128 : Nat)) (.const (.int .i64 1)) 3, none⟩,
  ⟨(some 128), .move (.tmp (153 : Nat)), none⟩]
def profile_Encode_r40 : List SO := [⟨(some 154), .load 114 (.tmp (5 : Nat)), none⟩,
  ⟨(some 155), .move (.const (.int .i64 0)), none⟩]
def profile_Encode_r41 : List SO := [⟨(some 156), .binOp .lss 3 (.tmp (155 : Nat)) (.const (.int .i64 4)) 3, none⟩]
def profile_Encode_r42 : List SO := [⟨(some 157), .index 114 (.tmp (154 : Nat)) (.tmp (155 : Nat)), none⟩,
  ⟨(some 19), .assign (.tmp (157 : Nat)), none⟩]
def profile_Encode_r43 : List SO := [⟨(some 158), .move (.tmp (14 : Nat)), none⟩,
  ⟨(some 159), .move (.tmp (19 : Nat)), none⟩,
  ⟨(some 160), .call ⟨(.builtin .append), #[(.tmp (158 : Nat)), (.tmp (159 : Nat))], #[71, 71]⟩, none⟩,
  ⟨(some 14), .assign (.tmp (160 : Nat)), none⟩]
def profile_Encode_r44 : List SO := [⟨(some 161), .move (.tmp (14 : Nat)), none⟩,
  ⟨(some 162), .call ⟨(.builtin .len), #[(.tmp (161 : Nat))], #[71]⟩, none⟩,
  ⟨(some 163), .binOp .rem 3 (.tmp (162 : Nat)) (.const (.int .i64 4)) 3, none⟩,
  ⟨(some 164), .binOp .neq 3 (.tmp (163 : Nat)) (.const (.int .i64 0)) 3, none⟩]
def profile_Encode_r45 : List SO := [⟨(some 165), .move (.tmp (14 : Nat)), none⟩,
  ⟨(some 166), .buildSlice 71 1 #[(0, (.const (.int .u8 0)))], none⟩,
  ⟨(some 167), .call ⟨(.builtin .append), #[(.tmp (165 : Nat)), (.tmp (166 : Nat))], #[71, 71]⟩, none⟩,
  ⟨(some 14), .assign (.tmp (167 : Nat)), none⟩]
def profile_Encode_r46 : List SO := [⟨(some 168), .binOp .add 3 (.tmp (155 : Nat)) (.const (.int .i64 1)) 3, none⟩,
  ⟨(some 155), .move (.tmp (168 : Nat)), none⟩]
def profile_Encode_r47 : List SO := [⟨(some 169), .buildSlice 71 4 #[(0, (.const (.int .u8 80))), (1, (.const (.int .u8 82))), (2, (.const (.int .u8 70))), (3, (.const (.int .u8 49)))], none⟩,
  ⟨(some 170), .convert 71 71 (.tmp (169 : Nat)), none⟩,
  ⟨(some 171), .move (.tmp (14 : Nat)), none⟩,
  ⟨(some 172), .call ⟨(.builtin .len), #[(.tmp (171 : Nat))], #[71]⟩, none⟩,
  ⟨(some 173), .call ⟨(.value (.func (71 : Nat))), #[(.tmp (170 : Nat)), (.tmp (172 : Nat))], #[71, 3]⟩, none⟩,
  ⟨(some 174), .move (.tmp (14 : Nat)), none⟩,
  ⟨(some 175), .slice 71 (.tmp (174 : Nat)) (some (.const (.int .i64 12))) none none, none⟩,
  ⟨(some 176), .call ⟨(.value (.func (64 : Nat))), #[(.tmp (175 : Nat))], #[71]⟩, none⟩,
  ⟨(some 177), .call ⟨(.value (.func (71 : Nat))), #[(.tmp (173 : Nat)), (.tmp (176 : Nat))], #[71, 3]⟩, none⟩,
  ⟨(some 20), .assign (.tmp (177 : Nat)), none⟩]
def profile_Encode_a47 : List (List Nat) := [[], [0], [], [2], [1, 3], [], [5], [6, 4], [4, 7, 7], [8, 8, 0, 1, 2, 3, 4, 5, 6, 7, 8]]
def profile_Encode_r48 : List SO := [⟨(some 178), .move (.tmp (20 : Nat)), none⟩,
  ⟨(some 179), .move (.tmp (14 : Nat)), none⟩,
  ⟨(some 180), .slice 71 (.tmp (179 : Nat)) (some (.const (.int .i64 12))) none none, none⟩,
  ⟨(some 181), .call ⟨(.builtin .append), #[(.tmp (178 : Nat)), (.tmp (180 : Nat))], #[71, 71]⟩, none⟩,
  ⟨(some 2), .assign (.tmp (181 : Nat)), none⟩,
  ⟨(some 3), .assign (.const (.int .i64 0)), none⟩]
def profile_Encode_c : SF := ⟨182, (.seq (.reg profile_Encode_r0)
  (.seq (.seq (.reg profile_Encode_r1)
  (.seq (.reg profile_Encode_r2)
  (.cond (.tmp (24 : Nat)) (.seq (.reg profile_Encode_r3)
  .ret) .skip)))
  (.seq (.reg profile_Encode_r4)
  (.seq (.reg profile_Encode_r5)
  (.seq (.seq (.reg profile_Encode_r6)
  (.block 0 (.loop (.seq (.reg profile_Encode_r7)
  (.seq (.cond (.tmp (34 : Nat)) .skip (.exit 0))
  (.seq (.block 1 (.seq (.reg profile_Encode_r8)
  (.reg profile_Encode_r9)))
  (.reg profile_Encode_r10)))))))
  (.seq (.seq (.reg profile_Encode_r11)
  (.block 2 (.loop (.seq (.reg profile_Encode_r12)
  (.seq (.cond (.tmp (52 : Nat)) .skip (.exit 2))
  (.seq (.block 3 (.seq (.reg profile_Encode_r13)
  (.seq (.reg profile_Encode_r14)
  (.seq (.reg profile_Encode_r15)
  (.block 4 (.loop (.seq (.reg profile_Encode_r16)
  (.seq (.cond (.tmp (68 : Nat)) .skip (.exit 4))
  (.seq (.block 5 (.seq (.reg profile_Encode_r17)
  (.seq (.reg profile_Encode_r18)
  (.reg profile_Encode_r19))))
  (.reg profile_Encode_r20))))))))))
  (.reg profile_Encode_r21)))))))
  (.seq (.reg profile_Encode_r22)
  (.seq (.seq (.reg profile_Encode_r23)
  (.block 6 (.loop (.seq (.reg profile_Encode_r24)
  (.seq (.cond (.tmp (107 : Nat)) .skip (.exit 6))
  (.seq (.block 7 (.seq (.reg profile_Encode_r25)
  (.reg profile_Encode_r26)))
  (.reg profile_Encode_r27)))))))
  (.seq (.reg profile_Encode_r28)
  (.seq (.reg profile_Encode_r29)
  (.seq (.reg profile_Encode_r30)
  (.seq (.reg profile_Encode_r31)
  (.seq (.seq (.reg profile_Encode_r32)
  (.block 8 (.loop (.seq (.reg profile_Encode_r33)
  (.seq (.cond (.tmp (129 : Nat)) .skip (.exit 8))
  (.seq (.block 9 (.seq (.reg profile_Encode_r34)
  (.seq (.reg profile_Encode_r35)
  (.seq (.reg profile_Encode_r36)
  (.seq (.reg profile_Encode_r37)
  (.reg profile_Encode_r38))))))
  (.reg profile_Encode_r39)))))))
  (.seq (.seq (.reg profile_Encode_r40)
  (.block 10 (.loop (.seq (.reg profile_Encode_r41)
  (.seq (.cond (.tmp (156 : Nat)) .skip (.exit 10))
  (.seq (.block 11 (.seq (.reg profile_Encode_r42)
  (.seq (.reg profile_Encode_r43)
  (.block 12 (.loop (.seq (.seq (.reg profile_Encode_r44)
  (.cond (.tmp (164 : Nat)) .skip (.exit 12)))
  (.block 13 (.reg profile_Encode_r45))))))))
  (.reg profile_Encode_r46)))))))
  (.seq (.regd profile_Encode_r47 profile_Encode_a47)
  (.seq (.reg profile_Encode_r48)
  .ret)))))))))))))))), [.tmp 2, .tmp 3]⟩
theorem profile_Encode_s : slimF Try.prog 32 = some profile_Encode_c := by kernel_rfl
/-- printworks/profile.Check -/
def profile_Check_r0 : List SO := [⟨(some 1), .box 62 (.tmp (0 : Nat)), none⟩,
  ⟨(some 2), .assign (.const (.int .i64 0)), none⟩]
def profile_Check_r1 : List SO := [⟨(some 11), .fieldAddr 62 (.tmp (1 : Nat)) 0, none⟩,
  ⟨(some 12), .load 9 (.tmp (11 : Nat)), none⟩,
  ⟨(some 13), .call ⟨(.value (.func (72 : Nat))), #[(.tmp (12 : Nat))], #[9]⟩, none⟩,
  ⟨(some 14), .unOp .not 4 (.tmp (13 : Nat)), none⟩]
def profile_Check_r2 : List SO := [⟨(some 2), .assign (.const (.int .i64 6)), none⟩]
def profile_Check_r3 : List SO := [⟨(some 15), .fieldAddr 62 (.tmp (1 : Nat)) 1, none⟩,
  ⟨(some 16), .load 22 (.tmp (15 : Nat)), none⟩,
  ⟨(some 17), .call ⟨(.builtin .len), #[(.tmp (16 : Nat))], #[22]⟩, none⟩,
  ⟨(some 3), .assign (.tmp (17 : Nat)), none⟩]
def profile_Check_r4 : List SO := [⟨(some 19), .move (.tmp (3 : Nat)), none⟩,
  ⟨(some 20), .binOp .gtr 3 (.tmp (19 : Nat)) (.const (.int .i64 4)) 3, none⟩,
  ⟨(some 18), .assign (.tmp (20 : Nat)), none⟩]
def profile_Check_r5 : List SO := [⟨(some 2), .assign (.const (.int .i64 2)), none⟩]
def profile_Check_r6 : List SO := [⟨(some 22), .move (.tmp (3 : Nat)), none⟩,
  ⟨(some 23), .binOp .eql 3 (.tmp (22 : Nat)) (.const (.int .i64 0)) 3, none⟩,
  ⟨(some 21), .assign (.tmp (23 : Nat)), none⟩]
def profile_Check_r7 : List SO := [⟨(some 2), .assign (.const (.int .i64 1)), none⟩]
def profile_Check_r8 : List SO := [⟨(some 24), .fieldAddr 62 (.tmp (1 : Nat)) 1, none⟩,
  ⟨(some 25), .load 22 (.tmp (24 : Nat)), none⟩,
  ⟨(some 26), .call ⟨(.value (.func (41 : Nat))), #[(.tmp (25 : Nat))], #[22]⟩, none⟩,
  ⟨(some 4), .assign (.tmp (26 : Nat)), none⟩]
def profile_Check_r9 : List SO := [⟨(some 27), .move (.tmp (4 : Nat)), none⟩,
  ⟨(some 28), .binOp .neq 33 (.tmp (27 : Nat)) (.const (.int .i64 0)) 33, none⟩]
def profile_Check_r10 : List SO := [⟨(some 29), .move (.tmp (4 : Nat)), none⟩,
  ⟨(some 2), .assign (.tmp (29 : Nat)), none⟩]
def profile_Check_r11 : List SO := [⟨(some 30), .fieldAddr 62 (.tmp (1 : Nat)) 2, none⟩,
  ⟨(some 31), .load 60 (.tmp (30 : Nat)), none⟩,
  ⟨(some 32), .call ⟨(.builtin .len), #[(.tmp (31 : Nat))], #[60]⟩, none⟩,
  ⟨(some 33), .fieldAddr 62 (.tmp (1 : Nat)) 1, none⟩,
  ⟨(some 34), .load 22 (.tmp (33 : Nat)), none⟩,
  ⟨(some 35), .call ⟨(.builtin .len), #[(.tmp (34 : Nat))], #[22]⟩, none⟩,
  ⟨(some 36), .binOp .neq 3 (.tmp (32 : Nat)) (.tmp (35 : Nat)) 3, none⟩]
def profile_Check_r12 : List SO := [⟨(some 2), .assign (.const (.int .i64 4)), none⟩]
def profile_Check_r13 : List SO := [⟨(some 37), .fieldAddr 62 (.tmp (1 : Nat)) 2, none⟩,
  ⟨(some 38), .load 60 (.tmp (37 : Nat)), none⟩,
  ⟨(some 39), .call ⟨(.builtin .len), #[(.tmp (38 : Nat))], #[60]⟩, none⟩,
  ⟨(some 40), .move (.const (.int .i64 0)), none⟩]
def profile_Check_r14 : List SO := [⟨(some 41), .binOp .lss 3 (.tmp (40 : Nat)) (.tmp (39 : Nat)) 3, none⟩]
def profile_Check_r15 : List SO := [⟨(some 42), .indexAddr 60 (.tmp (38 : Nat)) (.tmp (40 : Nat)), none⟩,
  ⟨(some 43), .load 46 (.tmp (42 : Nat)), none⟩,
  ⟨(some 6), .alloc 46, none⟩,
  ⟨none, .store 46 (.tmp (6 : Nat)) (.tmp (43 : Nat)), none⟩]
def profile_Check_r16 : List SO := [⟨(some 44), .load 46 (.tmp (6 : Nat)), none⟩,
  ⟨(some 45), .call ⟨(.value (.func (66 : Nat))), #[(.tmp (44 : Nat))], #[46]⟩, none⟩,
  ⟨(some 7), .assign (.tmp (45 : Nat)), none⟩]
def profile_Check_r17 : List SO := [⟨(some 46), .move (.tmp (7 : Nat)), none⟩,
  ⟨(some 47), .binOp .neq 33 (.tmp (46 : Nat)) (.const (.int .i64 0)) 33, none⟩]
def profile_Check_r18 : List SO := [⟨(some 48), .move (.tmp (7 : Nat)), none⟩,
  ⟨(some 2), .assign (.tmp (48 : Nat)), none⟩]
def profile_Check_r19 : List SO := [⟨(some 49), .binOp .add 3 (.tmp (40 : Nat)) (.const (.int .i64 1)) 3, none⟩,
  ⟨(some 40), .move (.tmp (49 : Nat)), none⟩]
def profile_Check_r20 : List SO := [⟨(some 50), .fieldAddr 62 (.tmp (1 : Nat)) 3, none⟩,
  ⟨(some 51), .load 25 (.tmp (50 : Nat)), none⟩,
  ⟨(some 52), .call ⟨(.value (.func (56 : Nat))), #[(.tmp (51 : Nat))], #[25]⟩, none⟩,
  ⟨(some 8), .assign (.tmp (52 : Nat)), none⟩]
def profile_Check_r21 : List SO := [⟨(some 53), .move (.tmp (8 : Nat)), none⟩,
  ⟨(some 54), .binOp .neq 33 (.tmp (53 : Nat)) (.const (.int .i64 0)) 33, none⟩]
def profile_Check_r22 : List SO := [⟨(some 55), .move (.tmp (8 : Nat)), none⟩,
  ⟨(some 2), .assign (.tmp (55 : Nat)), none⟩]
def profile_Check_r23 : List SO := [⟨(some 56), .fieldAddr 62 (.tmp (1 : Nat)) 3, none⟩,
  ⟨(some 57), .fieldAddr 25 (.tmp (56 : Nat)) 0, none⟩,
  ⟨(some 58), .load 3 (.tmp (57 : Nat)), none⟩,
  ⟨(some 59), .fieldAddr 62 (.tmp (1 : Nat)) 1, none⟩,
  ⟨(some 60), .load 22 (.tmp (59 : Nat)), none⟩,
  ⟨(some 61), .call ⟨(.builtin .len), #[(.tmp (60 : Nat))], #[22]⟩, none⟩,
  ⟨(some 62), .binOp .neq 3 (.tmp (58 : Nat)) (.tmp (61 : Nat)) 3, none⟩,
  ⟨(some 63), .move (.tmp (62 : Nat)), none⟩,
  ⟨(some 64), .fieldAddr 62 (.tmp (1 : Nat)) 3, (some (63, false))⟩,
  ⟨(some 65), .fieldAddr 25 (.tmp (64 : Nat)) 1, (some (63, false))⟩,
  ⟨(some 66), .load 3 (.tmp (65 : Nat)), (some (63, false))⟩,
  ⟨(some 67), .binOp .neq 3 (.tmp (66 : Nat)) (.const (.int .i64 3)) 3, (some (63, false))⟩,
  ⟨(some 68), .pick (.tmp (63 : Nat)) (.const (.bool true)) (.tmp (67 : Nat)), none⟩]
def profile_Check_r24 : List SO := [⟨(some 2), .assign (.const (.int .i64 4)), none⟩]
def profile_Check_r25 : List SO := [⟨(some 69), .fieldAddr 62 (.tmp (1 : Nat)) 3, none⟩,
  ⟨(some 70), .fieldAddr 25 (.tmp (69 : Nat)) 3, none⟩,
  ⟨(some 71), .load 23 (.tmp (70 : Nat)), none⟩,
  ⟨(some 9), .assign (.tmp (71 : Nat)), none⟩]
def profile_Check_r26 : List SO := [⟨(some 72), .move (.tmp (9 : Nat)), none⟩,
  ⟨(some 73), .call ⟨(.builtin .len), #[(.tmp (72 : Nat))], #[23]⟩, none⟩,
  ⟨(some 74), .binOp .gtr 3 (.tmp (73 : Nat)) (.const (.int .i64 0)) 3, none⟩]
def profile_Check_r27 : List SO := [⟨(some 77), .move (.tmp (9 : Nat)), none⟩,
  ⟨(some 78), .indexAddr 23 (.tmp (77 : Nat)) (.const (.int .i64 0)), none⟩,
  ⟨(some 79), .load 3 (.tmp (78 : Nat)), none⟩,
  ⟨(some 80), .move (.tmp (9 : Nat)), none⟩,
  ⟨(some 81), .indexAddr 23 (.tmp (80 : Nat)) (.const (.int .i64 1)), none⟩,
  ⟨(some 82), .load 3 (.tmp (81 : Nat)), none⟩,
  ⟨(some 83), .move (.tmp (9 : Nat)), none⟩,
  ⟨(some 84), .indexAddr 23 (.tmp (83 : Nat)) (.const (.int .i64 2)), none⟩,
  ⟨(some 85), .load 3 (.tmp (84 : Nat)), none⟩,
  ⟨(some 86), .build 43 #[(0, (.tmp (79 : Nat))), (1, (.tmp (82 : Nat))), (2, (.tmp (85 : Nat)))], none⟩,
  ⟨(some 87), .call ⟨(.value (.func (61 : Nat))), #[(.tmp (86 : Nat))], #[43]⟩, none⟩,
  ⟨(some 10), .assign (.tmp (87 : Nat)), none⟩]
def profile_Check_a27 : List (List Nat) := [[], [0], [1], [], [3], [4], [], [6], [7], [2, 5, 8], [9], [10, 10, 0, 1, 2, 3, 4, 5, 6, 7, 8, 9, 10]]
def profile_Check_r28 : List SO := [⟨(some 88), .move (.tmp (10 : Nat)), none⟩,
  ⟨(some 89), .binOp .neq 33 (.tmp (88 : Nat)) (.const (.int .i64 0)) 33, none⟩]
def profile_Check_r29 : List SO := [⟨(some 90), .move (.tmp (10 : Nat)), none⟩,
  ⟨(some 2), .assign (.tmp (90 : Nat)), none⟩]
def profile_Check_r30 : List SO := [⟨(some 75), .move (.tmp (9 : Nat)), none⟩,
  ⟨(some 76), .slice 23 (.tmp (75 : Nat)) (some (.const (.int .i64 3))) none none, none⟩,
  ⟨(some 9), .assign (.tmp (76 : Nat)), none⟩]
def profile_Check_r31 : List SO := [⟨(some 2), .assign (.const (.int .i64 0)), none⟩]
def profile_Check_c : SF := ⟨91, (.seq (.reg profile_Check_r0)
  (.seq (.seq (.reg profile_Check_r1)
  (.cond (.tmp (14 : Nat)) (.seq (.reg profile_Check_r2)
  .ret) .skip))
  (.seq (.seq (.reg profile_Check_r3)
  (.block 0 (.seq (.reg profile_Check_r4)
  (.cond (.tmp (18 : Nat)) (.seq (.reg profile_Check_r5)
  .ret) (.seq (.reg profile_Check_r6)
  (.cond (.tmp (21 : Nat)) (.seq (.reg profile_Check_r7)
  .ret) .skip))))))
  (.seq (.seq (.reg profile_Check_r8)
  (.seq (.reg profile_Check_r9)
  (.cond (.tmp (28 : Nat)) (.seq (.reg profile_Check_r10)
  .ret) .skip)))
  (.seq (.seq (.reg profile_Check_r11)
  (.cond (.tmp (36 : Nat)) (.seq (.reg profile_Check_r12)
  .ret) .skip))
  (.seq (.seq (.reg profile_Check_r13)
  (.block 1 (.loop (.seq (.reg profile_Check_r14)
  (.seq (.cond (.tmp (41 : Nat)) .skip (.exit 1))
  (.seq (.block 2 (.seq (.reg profile_Check_r15)
  (.seq (.reg profile_Check_r16)
  (.seq (.reg profile_Check_r17)
  (.cond (.tmp (47 : Nat)) (.seq (.reg profile_Check_r18)
  .ret) .skip)))))
  (.reg profile_Check_r19)))))))
  (.seq (.seq (.reg profile_Check_r20)
  (.seq (.reg profile_Check_r21)
  (.cond (.tmp (54 : Nat)) (.seq (.reg profile_Check_r22)
  .ret) .skip)))
  (.seq (.seq (.reg profile_Check_r23)
  (.cond (.tmp (68 : Nat)) (.seq (.reg profile_Check_r24)
  .ret) .skip))
  (.seq (.seq (.reg profile_Check_r25)
  (.block 3 (.loop (.seq (.seq (.reg profile_Check_r26)
  (.cond (.tmp (74 : Nat)) .skip (.exit 3)))
  (.seq (.block 4 (.seq (.regd profile_Check_r27 profile_Check_a27)
  (.seq (.reg profile_Check_r28)
  (.cond (.tmp (89 : Nat)) (.seq (.reg profile_Check_r29)
  .ret) .skip))))
  (.reg profile_Check_r30))))))
  (.seq (.reg profile_Check_r31)
  .ret)))))))))), [.tmp 2]⟩
theorem profile_Check_s : slimF Try.prog 33 = some profile_Check_c := by kernel_rfl
abbrev profile_Check_f : Nat := 33
/-- printworks/profile.Decode -/
def profile_Decode_r0 : List SO := [⟨(some 2), .alloc 62, none⟩,
  ⟨(some 3), .alloc 33, none⟩]
def profile_Decode_r1 : List SO := [⟨(some 19), .move (.tmp (0 : Nat)), none⟩,
  ⟨(some 20), .call ⟨(.value (.func (73 : Nat))), #[(.tmp (19 : Nat))], #[71]⟩, none⟩,
  ⟨(some 18), .move (.tmp (20 : Nat)), none⟩,
  ⟨(some 21), .extract (.tmp (18 : Nat)) 0, none⟩,
  ⟨(some 22), .extract (.tmp (18 : Nat)) 1, none⟩,
  ⟨(some 4), .assign (.tmp (21 : Nat)), none⟩,
  ⟨none, .store 33 (.tmp (3 : Nat)) (.tmp (22 : Nat)), none⟩]
def profile_Decode_r2 : List SO := [⟨(some 23), .load 33 (.tmp (3 : Nat)), none⟩,
  ⟨(some 24), .binOp .neq 33 (.tmp (23 : Nat)) (.const (.int .i64 0)) 33, none⟩]
def profile_Decode_r3 : List SO := [⟨(some 25), .build 62 #[], none⟩,
  ⟨(some 26), .load 33 (.tmp (3 : Nat)), none⟩,
  ⟨none, .store 62 (.tmp (2 : Nat)) (.tmp (25 : Nat)), none⟩,
  ⟨none, .store 33 (.tmp (3 : Nat)) (.tmp (26 : Nat)), none⟩]
def profile_Decode_a3 : List (List Nat) := [[], [], [0, 0], [1, 2, 0, 1, 2]]
def profile_Decode_r4 : List SO := [⟨(some 5), .alloc 114, none⟩]
def profile_Decode_r5 : List SO := [⟨(some 27), .call ⟨(.value (.func (70 : Nat))), #[], #[]⟩, none⟩,
  ⟨(some 28), .move (.const (.int .i64 0)), none⟩]
def profile_Decode_r6 : List SO := [⟨(some 29), .binOp .lss 3 (.tmp (28 : Nat)) (.const (.int .i64 4)) 3, none⟩]
def profile_Decode_r7 : List SO := [⟨(some 30), .move (.tmp (28 : Nat)), none⟩,
  ⟨(some 31), .index 118 (.tmp (27 : Nat)) (.tmp (28 : Nat)), none⟩,
  ⟨(some 6), .assign (.tmp (30 : Nat)), none⟩,
  ⟨(some 7), .assign (.tmp (31 : Nat)), none⟩]
def profile_Decode_r8 : List SO := [⟨(some 8), .assign (.const (.bool false)), none⟩]
def profile_Decode_r9 : List SO := [⟨(some 32), .move (.tmp (4 : Nat)), none⟩,
  ⟨(some 33), .call ⟨(.builtin .len), #[(.tmp (32 : Nat))], #[121]⟩, none⟩,
  ⟨(some 34), .move (.const (.int .i64 0)), none⟩]
def profile_Decode_r10 : List SO := [⟨(some 35), .binOp .lss 3 (.tmp (34 : Nat)) (.tmp (33 : Nat)) 3, none⟩]
def profile_Decode_r11 : List SO := [⟨(some 36), .indexAddr 121 (.tmp (32 : Nat)) (.tmp (34 : Nat)), none⟩,
  ⟨(some 37), .load 125 (.tmp (36 : Nat)), none⟩,
  ⟨(some 10), .alloc 125, none⟩,
  ⟨none, .store 125 (.tmp (10 : Nat)) (.tmp (37 : Nat)), none⟩]
def profile_Decode_r12 : List SO := [⟨(some 38), .fieldAddr 125 (.tmp (10 : Nat)) 0, none⟩,
  ⟨(some 39), .load 9 (.tmp (38 : Nat)), none⟩,
  ⟨(some 40), .move (.tmp (7 : Nat)), none⟩,
  ⟨(some 41), .binOp .eql 9 (.tmp (39 : Nat)) (.tmp (40 : Nat)) 9, none⟩]
def profile_Decode_r13 : List SO := [⟨(some 42), .move (.tmp (6 : Nat)), none⟩,
  ⟨(some 43), .fieldAddr 125 (.tmp (10 : Nat)) 1, none⟩,
  ⟨(some 44), .load 71 (.tmp (43 : Nat)), none⟩,
  ⟨(some 45), .indexAddr 114 (.tmp (5 : Nat)) (.tmp (42 : Nat)), none⟩,
  ⟨none, .store 71 (.tmp (45 : Nat)) (.tmp (44 : Nat)), none⟩,
  ⟨(some 8), .assign (.const (.bool true)), none⟩]
def profile_Decode_r14 : List SO := [⟨(some 46), .binOp .add 3 (.tmp (34 : Nat)) (.const (.int .i64 1)) 3, none⟩,
  ⟨(some 34), .move (.tmp (46 : Nat)), none⟩]
def profile_Decode_r15 : List SO := [⟨(some 47), .move (.tmp (8 : Nat)), none⟩,
  ⟨(some 48), .unOp .not 4 (.tmp (47 : Nat)), none⟩]
def profile_Decode_r16 : List SO := [⟨(some 49), .build 62 #[], none⟩,
  ⟨none, .store 62 (.tmp (2 : Nat)) (.tmp (49 : Nat)), none⟩,
  ⟨none, .store 33 (.tmp (3 : Nat)) (.const (.int .i64 8)), none⟩]
def profile_Decode_r17 : List SO := [⟨(some 50), .binOp .add 3 (.tmp (28 : Nat)) (.const (.int .i64 1)) 3, none⟩,
  ⟨(some 28), .move (.tmp (50 : Nat)), none⟩]
def profile_Decode_r18 : List SO := [⟨(some 51), .makeFunc (.func (74 : Nat)) #[] #[(.tmp (2 : Nat)), (.tmp (3 : Nat))], none⟩,
  ⟨none, .defer ⟨(.value (.tmp (51 : Nat))), #[], #[]⟩, none⟩]
def profile_Decode_r19 : List SO := [⟨(some 52), .indexAddr 114 (.tmp (5 : Nat)) (.const (.int .i64 0)), none⟩,
  ⟨(some 53), .load 71 (.tmp (52 : Nat)), none⟩,
  ⟨(some 54), .convert 71 9 (.tmp (53 : Nat)), none⟩,
  ⟨(some 55), .fieldAddr 62 (.tmp (2 : Nat)) 0, none⟩,
  ⟨none, .store 9 (.tmp (55 : Nat)) (.tmp (54 : Nat)), none⟩]
def profile_Decode_r20 : List SO := [⟨(some 56), .indexAddr 114 (.tmp (5 : Nat)) (.const (.int .i64 1)), none⟩,
  ⟨(some 57), .load 71 (.tmp (56 : Nat)), none⟩,
  ⟨(some 58), .build 130 #[(0, (.tmp (57 : Nat)))], none⟩,
  ⟨(some 11), .alloc 130, none⟩,
  ⟨none, .store 130 (.tmp (11 : Nat)) (.tmp (58 : Nat)), none⟩]
def profile_Decode_r21 : List SO := [⟨(some 59), .fieldAddr 130 (.tmp (11 : Nat)) 0, none⟩,
  ⟨(some 60), .load 71 (.tmp (59 : Nat)), none⟩,
  ⟨(some 61), .call ⟨(.builtin .len), #[(.tmp (60 : Nat))], #[71]⟩, none⟩,
  ⟨(some 62), .binOp .gtr 3 (.tmp (61 : Nat)) (.const (.int .i64 0)) 3, none⟩]
def profile_Decode_r22 : List SO := [⟨(some 63), .fieldAddr 62 (.tmp (2 : Nat)) 1, none⟩,
  ⟨(some 64), .load 22 (.tmp (63 : Nat)), none⟩,
  ⟨(some 65), .call ⟨(.value (.func (75 : Nat))), #[(.tmp (11 : Nat)), (.const (.int .i64 1))], #[130, 3]⟩, none⟩,
  ⟨(some 66), .indexAddr 71 (.tmp (65 : Nat)) (.const (.int .i64 0)), none⟩,
  ⟨(some 67), .load 5 (.tmp (66 : Nat)), none⟩,
  ⟨(some 68), .convert 5 3 (.tmp (67 : Nat)), none⟩,
  ⟨(some 69), .call ⟨(.value (.func (75 : Nat))), #[(.tmp (11 : Nat)), (.tmp (68 : Nat))], #[130, 3]⟩, none⟩,
  ⟨(some 70), .convert 71 9 (.tmp (69 : Nat)), none⟩,
  ⟨(some 71), .buildSlice 22 1 #[(0, (.tmp (70 : Nat)))], none⟩,
  ⟨(some 72), .call ⟨(.builtin .append), #[(.tmp (64 : Nat)), (.tmp (71 : Nat))], #[22, 22]⟩, none⟩,
  ⟨(some 73), .fieldAddr 62 (.tmp (2 : Nat)) 1, none⟩,
  ⟨none, .store 22 (.tmp (73 : Nat)) (.tmp (72 : Nat)), none⟩]
def profile_Decode_a22 : List (List Nat) := [[], [0], [], [2], [3], [4], [5, 2], [6], [7], [1, 8, 6], [0, 1, 2, 3, 4, 5, 6, 7, 8, 9], [10, 9, 9, 0, 1, 2, 3, 4, 5, 6, 7, 8, 9]]
def profile_Decode_r23 : List SO := [⟨(some 74), .load 130 (.tmp (11 : Nat)), none⟩]
def profile_Decode_r24 : List SO := [⟨(some 11), .alloc 130, none⟩,
  ⟨none, .store 130 (.tmp (11 : Nat)) (.tmp (74 : Nat)), none⟩]
def profile_Decode_r25 : List SO := [⟨(some 75), .indexAddr 114 (.tmp (5 : Nat)) (.const (.int .i64 2)), none⟩,
  ⟨(some 76), .load 71 (.tmp (75 : Nat)), none⟩,
  ⟨(some 77), .build 130 #[(0, (.tmp (76 : Nat)))], none⟩,
  ⟨(some 12), .alloc 130, none⟩,
  ⟨none, .store 130 (.tmp (12 : Nat)) (.tmp (77 : Nat)), none⟩]
def profile_Decode_r26 : List SO := [⟨(some 78), .fieldAddr 130 (.tmp (12 : Nat)) 0, none⟩,
  ⟨(some 79), .load 71 (.tmp (78 : Nat)), none⟩,
  ⟨(some 80), .call ⟨(.builtin .len), #[(.tmp (79 : Nat))], #[71]⟩, none⟩,
  ⟨(some 81), .binOp .gtr 3 (.tmp (80 : Nat)) (.const (.int .i64 0)) 3, none⟩]
def profile_Decode_r27 : List SO := [⟨(some 13), .alloc 46, none⟩]
def profile_Decode_r28 : List SO := [⟨(some 82), .call ⟨(.value (.func (75 : Nat))), #[(.tmp (12 : Nat)), (.const (.int .i64 1))], #[130, 3]⟩, none⟩,
  ⟨(some 83), .indexAddr 71 (.tmp (82 : Nat)) (.const (.int .i64 0)), none⟩,
  ⟨(some 84), .load 5 (.tmp (83 : Nat)), none⟩,
  ⟨(some 85), .move (.const (.int .u8 0)), none⟩]
def profile_Decode_r29 : List SO := [⟨(some 86), .binOp .lss 5 (.tmp (85 : Nat)) (.tmp (84 : Nat)) 5, none⟩]
def profile_Decode_r30 : List SO := [⟨(some 87), .call ⟨(.value (.func (76 : Nat))), #[(.tmp (12 : Nat))], #[130]⟩, none⟩,
  ⟨(some 88), .build 116 #[(0, (.tmp (87 : Nat)))], none⟩,
  ⟨(some 14), .alloc 116, none⟩,
  ⟨none, .store 116 (.tmp (14 : Nat)) (.tmp (88 : Nat)), none⟩]
def profile_Decode_r31 : List SO := [⟨(some 89), .call ⟨(.value (.func (76 : Nat))), #[(.tmp (12 : Nat))], #[130]⟩, none⟩,
  ⟨(some 90), .fieldAddr 116 (.tmp (14 : Nat)) 1, none⟩,
  ⟨none, .store 3 (.tmp (90 : Nat)) (.tmp (89 : Nat)), none⟩]
def profile_Decode_r32 : List SO := [⟨(some 91), .fieldAddr 46 (.tmp (13 : Nat)) 0, none⟩,
  ⟨(some 92), .load 44 (.tmp (91 : Nat)), none⟩,
  ⟨(some 93), .load 116 (.tmp (14 : Nat)), none⟩,
  ⟨(some 94), .buildSlice 44 1 #[(0, (.tmp (93 : Nat)))], none⟩,
  ⟨(some 95), .call ⟨(.builtin .append), #[(.tmp (92 : Nat)), (.tmp (94 : Nat))], #[44, 44]⟩, none⟩,
  ⟨(some 96), .fieldAddr 46 (.tmp (13 : Nat)) 0, none⟩,
  ⟨none, .store 44 (.tmp (96 : Nat)) (.tmp (95 : Nat)), none⟩]
def profile_Decode_r33 : List SO := [⟨(some 97), .binOp .add 5 (.tmp (85 : Nat)) (.const (.int .u8 1)) 5, none⟩,
  ⟨(some 85), .move (.tmp (97 : Nat)), none⟩]
def profile_Decode_r34 : List SO := [⟨(some 98), .fieldAddr 62 (.tmp (2 : Nat)) 2, none⟩,
  ⟨(some 99), .load 60 (.tmp (98 : Nat)), none⟩,
  ⟨(some 100), .load 46 (.tmp (13 : Nat)), none⟩,
  ⟨(some 101), .buildSlice 60 1 #[(0, (.tmp (100 : Nat)))], none⟩,
  ⟨(some 102), .call ⟨(.builtin .append), #[(.tmp (99 : Nat)), (.tmp (101 : Nat))], #[60, 60]⟩, none⟩,
  ⟨(some 103), .fieldAddr 62 (.tmp (2 : Nat)) 2, none⟩,
  ⟨none, .store 60 (.tmp (103 : Nat)) (.tmp (102 : Nat)), none⟩]
def profile_Decode_r35 : List SO := [⟨(some 104), .load 130 (.tmp (12 : Nat)), none⟩]
def profile_Decode_r36 : List SO := [⟨(some 12), .alloc 130, none⟩,
  ⟨none, .store 130 (.tmp (12 : Nat)) (.tmp (104 : Nat)), none⟩]
def profile_Decode_r37 : List SO := [⟨(some 105), .indexAddr 114 (.tmp (5 : Nat)) (.const (.int .i64 3)), none⟩,
  ⟨(some 106), .load 71 (.tmp (105 : Nat)), none⟩,
  ⟨(some 107), .build 130 #[(0, (.tmp (106 : Nat)))], none⟩,
  ⟨(some 15), .alloc 130, none⟩,
  ⟨none, .store 130 (.tmp (15 : Nat)) (.tmp (107 : Nat)), none⟩]
def profile_Decode_r38 : List SO := [⟨(some 108), .call ⟨(.value (.func (75 : Nat))), #[(.tmp (15 : Nat)), (.const (.int .i64 3))], #[130, 3]⟩, none⟩,
  ⟨(some 16), .assign (.tmp (108 : Nat)), none⟩]
def profile_Decode_r39 : List SO := [⟨(some 109), .move (.tmp (16 : Nat)), none⟩,
  ⟨(some 110), .indexAddr 71 (.tmp (109 : Nat)) (.const (.int .i64 0)), none⟩,
  ⟨(some 111), .load 5 (.tmp (110 : Nat)), none⟩,
  ⟨(some 112), .convert 5 3 (.tmp (111 : Nat)), none⟩,
  ⟨(some 113), .move (.tmp (16 : Nat)), none⟩,
  ⟨(some 114), .indexAddr 71 (.tmp (113 : Nat)) (.const (.int .i64 1)), none⟩,
  ⟨(some 115), .load 5 (.tmp (114 : Nat)), none⟩,
  ⟨(some 116), .convert 5 3 (.tmp (115 : Nat)), none⟩,
  ⟨(some 117), .move (.tmp (16 : Nat)), none⟩,
  ⟨(some 118), .indexAddr 71 (.tmp (117 : Nat)) (.const (.int .i64 2)), none⟩,
  ⟨(some 119), .load 5 (.tmp (118 : Nat)), none⟩,
  ⟨(some 120), .convert 5 3 (.tmp (119 : Nat)), none⟩,
  ⟨(some 121), .build 25 #[(0, (.tmp (112 : Nat))), (1, (.tmp (116 : Nat))), (2, (.tmp (120 : Nat)))], none⟩,
  ⟨(some 122), .fieldAddr 62 (.tmp (2 : Nat)) 3, none⟩,
  ⟨none, .store 25 (.tmp (122 : Nat)) (.tmp (121 : Nat)), none⟩]
def profile_Decode_a39 : List (List Nat) := [[], [0], [1], [2], [], [4], [5], [6], [], [8], [9], [10], [3, 7, 11], [0, 1, 2, 3, 4, 5, 6, 7, 8, 9, 10, 11, 12], [13, 12, 0, 1, 2, 3, 4, 5, 6, 7, 8, 9, 10, 11, 12]]
def profile_Decode_r40 : List SO := [⟨(some 123), .fieldAddr 130 (.tmp (15 : Nat)) 0, none⟩,
  ⟨(some 124), .load 71 (.tmp (123 : Nat)), none⟩,
  ⟨(some 125), .call ⟨(.builtin .len), #[(.tmp (124 : Nat))], #[71]⟩, none⟩,
  ⟨(some 126), .binOp .gtr 3 (.tmp (125 : Nat)) (.const (.int .i64 0)) 3, none⟩]
def profile_Decode_r41 : List SO := [⟨(some 127), .fieldAddr 62 (.tmp (2 : Nat)) 3, none⟩,
  ⟨(some 128), .fieldAddr 25 (.tmp (127 : Nat)) 3, none⟩,
  ⟨(some 129), .load 23 (.tmp (128 : Nat)), none⟩,
  ⟨(some 130), .call ⟨(.value (.func (76 : Nat))), #[(.tmp (15 : Nat))], #[130]⟩, none⟩,
  ⟨(some 131), .convert 3 133 (.tmp (130 : Nat)), none⟩,
  ⟨(some 132), .convert 133 3 (.tmp (131 : Nat)), none⟩,
  ⟨(some 133), .buildSlice 23 1 #[(0, (.tmp (132 : Nat)))], none⟩,
  ⟨(some 134), .call ⟨(.builtin .append), #[(.tmp (129 : Nat)), (.tmp (133 : Nat))], #[23, 23]⟩, none⟩,
  ⟨(some 135), .fieldAddr 62 (.tmp (2 : Nat)) 3, none⟩,
  ⟨(some 136), .fieldAddr 25 (.tmp (135 : Nat)) 3, none⟩,
  ⟨none, .store 23 (.tmp (136 : Nat)) (.tmp (134 : Nat)), none⟩]
def profile_Decode_a41 : List (List Nat) := [[], [0], [1], [], [3], [4], [5], [2, 6, 3], [0, 1, 2, 3, 4, 5, 6, 7], [8, 0, 1, 2, 3, 4, 5, 6, 7], [9, 7, 7, 0, 1, 2, 3, 4, 5, 6, 7]]
def profile_Decode_r42 : List SO := [⟨(some 137), .load 62 (.tmp (2 : Nat)), none⟩,
  ⟨(some 138), .call ⟨(.value (.func (33 : Nat))), #[(.tmp (137 : Nat))], #[62]⟩, none⟩,
  ⟨(some 17), .assign (.tmp (138 : Nat)), none⟩]
def profile_Decode_r43 : List SO := [⟨(some 139), .move (.tmp (17 : Nat)), none⟩,
  ⟨(some 140), .binOp .neq 33 (.tmp (139 : Nat)) (.const (.int .i64 0)) 33, none⟩]
def profile_Decode_r44 : List SO := [⟨(some 141), .build 62 #[], none⟩,
  ⟨(some 142), .move (.tmp (17 : Nat)), none⟩,
  ⟨none, .store 62 (.tmp (2 : Nat)) (.tmp (141 : Nat)), none⟩,
  ⟨none, .store 33 (.tmp (3 : Nat)) (.tmp (142 : Nat)), none⟩]
def profile_Decode_r45 : List SO := [⟨(some 143), .load 62 (.tmp (2 : Nat)), none⟩,
  ⟨none, .store 62 (.tmp (2 : Nat)) (.tmp (143 : Nat)), none⟩,
  ⟨none, .store 33 (.tmp (3 : Nat)) (.const (.int .i64 0)), none⟩]
def profile_Decode_c : SF := ⟨144, (.seq (.reg profile_Decode_r0)
  (.seq (.reg profile_Decode_r1)
  (.seq (.seq (.reg profile_Decode_r2)
  (.cond (.tmp (24 : Nat)) (.seq (.regd profile_Decode_r3 profile_Decode_a3)
  .ret) .skip))
  (.seq (.reg profile_Decode_r4)
  (.seq (.seq (.reg profile_Decode_r5)
  (.block 0 (.loop (.seq (.reg profile_Decode_r6)
  (.seq (.cond (.tmp (29 : Nat)) .skip (.exit 0))
  (.seq (.block 1 (.seq (.reg profile_Decode_r7)
  (.seq (.reg profile_Decode_r8)
  (.seq (.seq (.reg profile_Decode_r9)
  (.block 2 (.loop (.seq (.reg profile_Decode_r10)
  (.seq (.cond (.tmp (35 : Nat)) .skip (.exit 2))
  (.seq (.block 3 (.seq (.reg profile_Decode_r11)
  (.seq (.reg profile_Decode_r12)
  (.cond (.tmp (41 : Nat)) (.reg profile_Decode_r13) .skip))))
  (.reg profile_Decode_r14)))))))
  (.seq (.reg profile_Decode_r15)
  (.cond (.tmp (48 : Nat)) (.seq (.reg profile_Decode_r16)
  .ret) .skip))))))
  (.reg profile_Decode_r17)))))))
  (.seq (.reg profile_Decode_r18)
  (.seq (.reg profile_Decode_r19)
  (.seq (.seq (.reg profile_Decode_r20)
  (.block 4 (.loop (.seq (.seq (.reg profile_Decode_r21)
  (.cond (.tmp (62 : Nat)) .skip (.exit 4)))
  (.seq (.block 5 (.regd profile_Decode_r22 profile_Decode_a22))
  (.seq (.reg profile_Decode_r23)
  (.reg profile_Decode_r24)))))))
  (.seq (.seq (.reg profile_Decode_r25)
  (.block 6 (.loop (.seq (.seq (.reg profile_Decode_r26)
  (.cond (.tmp (81 : Nat)) .skip (.exit 6)))
  (.seq (.block 7 (.seq (.reg profile_Decode_r27)
  (.seq (.seq (.reg profile_Decode_r28)
  (.block 8 (.loop (.seq (.reg profile_Decode_r29)
  (.seq (.cond (.tmp (86 : Nat)) .skip (.exit 8))
  (.seq (.block 9 (.seq (.reg profile_Decode_r30)
  (.seq (.reg profile_Decode_r31)
  (.reg profile_Decode_r32))))
  (.reg profile_Decode_r33)))))))
  (.reg profile_Decode_r34))))
  (.seq (.reg profile_Decode_r35)
  (.reg profile_Decode_r36)))))))
  (.seq (.reg profile_Decode_r37)
  (.seq (.reg profile_Decode_r38)
  (.seq (.regd profile_Decode_r39 profile_Decode_a39)
  (.seq (.block 10 (.loop (.seq (.seq (.reg profile_Decode_r40)
  (.cond (.tmp (126 : Nat)) .skip (.exit 10)))
  (.block 11 (.regd profile_Decode_r41 profile_Decode_a41)))))
  (.seq (.seq (.reg profile_Decode_r42)
  (.seq (.reg profile_Decode_r43)
  (.cond (.tmp (140 : Nat)) (.seq (.reg profile_Decode_r44)
  .ret) .skip)))
  (.seq (.reg profile_Decode_r45)
  .ret))))))))))))))), [.cell 2 62, .cell 3 33]⟩
theorem profile_Decode_s : slimF Try.prog 34 = some profile_Decode_c := by kernel_rfl
/-- printworks/profile.Names -/
def profile_Names_r0 : List SO := [⟨(some 2), .assign (.const (.int .i64 0)), none⟩]
def profile_Names_r1 : List SO := [⟨(some 7), .move (.tmp (0 : Nat)), none⟩,
  ⟨(some 8), .call ⟨(.builtin .len), #[(.tmp (7 : Nat))], #[22]⟩, none⟩,
  ⟨(some 9), .move (.const (.int .i64 0)), none⟩]
def profile_Names_r2 : List SO := [⟨(some 10), .binOp .lss 3 (.tmp (9 : Nat)) (.tmp (8 : Nat)) 3, none⟩]
def profile_Names_r3 : List SO := [⟨(some 11), .move (.tmp (9 : Nat)), none⟩,
  ⟨(some 12), .indexAddr 22 (.tmp (7 : Nat)) (.tmp (9 : Nat)), none⟩,
  ⟨(some 13), .load 9 (.tmp (12 : Nat)), none⟩,
  ⟨(some 3), .assign (.tmp (11 : Nat)), none⟩,
  ⟨(some 4), .assign (.tmp (13 : Nat)), none⟩]
def profile_Names_r4 : List SO := [⟨(some 14), .move (.tmp (4 : Nat)), none⟩,
  ⟨(some 15), .call ⟨(.value (.func (72 : Nat))), #[(.tmp (14 : Nat))], #[9]⟩, none⟩,
  ⟨(some 16), .unOp .not 4 (.tmp (15 : Nat)), none⟩]
def profile_Names_r5 : List SO := [⟨(some 2), .assign (.const (.int .i64 6)), none⟩]
def profile_Names_r6 : List SO := [⟨(some 17), .move (.tmp (0 : Nat)), none⟩,
  ⟨(some 18), .move (.tmp (3 : Nat)), none⟩,
  ⟨(some 19), .slice 22 (.tmp (17 : Nat)) none (some (.tmp (18 : Nat))) none, none⟩,
  ⟨(some 20), .call ⟨(.builtin .len), #[(.tmp (19 : Nat))], #[22]⟩, none⟩,
  ⟨(some 21), .move (.const (.int .i64 0)), none⟩]
def profile_Names_r7 : List SO := [⟨(some 22), .binOp .lss 3 (.tmp (21 : Nat)) (.tmp (20 : Nat)) 3, none⟩]
def profile_Names_r8 : List SO := [⟨(some 23), .indexAddr 22 (.tmp (19 : Nat)) (.tmp (21 : Nat)), none⟩,
  ⟨(some 24), .load 9 (.tmp (23 : Nat)), none⟩,
  ⟨(some 6), .assign (.tmp (24 : Nat)), none⟩]
def profile_Names_r9 : List SO := [⟨(some 25), .move (.tmp (4 : Nat)), none⟩,
  ⟨(some 26), .move (.tmp (6 : Nat)), none⟩,
  ⟨(some 27), .binOp .eql 9 (.tmp (25 : Nat)) (.tmp (26 : Nat)) 9, none⟩]
def profile_Names_r10 : List SO := [⟨(some 2), .assign (.const (.int .i64 7)), none⟩]
def profile_Names_r11 : List SO := [⟨(some 28), .binOp .add 3 (.tmp (21 : Nat)) (.const (.int .i64 1)) 3, none⟩,
  ⟨(some 21), .move (.tmp (28 : Nat)), none⟩]
def profile_Names_r12 : List SO := [⟨(some 29), .binOp .add 3 (.tmp (9 : Nat)) (.const (.int .i64 1)) 3, none⟩,
  ⟨(some 9), .move (.tmp (29 : Nat)), none⟩]
def profile_Names_r13 : List SO := [⟨(some 2), .assign (.const (.int .i64 0)), none⟩]
def profile_Names_c : SF := ⟨30, (.seq (.reg profile_Names_r0)
  (.seq (.seq (.reg profile_Names_r1)
  (.block 0 (.loop (.seq (.reg profile_Names_r2)
  (.seq (.cond (.tmp (10 : Nat)) .skip (.exit 0))
  (.seq (.block 1 (.seq (.reg profile_Names_r3)
  (.seq (.seq (.reg profile_Names_r4)
  (.cond (.tmp (16 : Nat)) (.seq (.reg profile_Names_r5)
  .ret) .skip))
  (.seq (.reg profile_Names_r6)
  (.block 2 (.loop (.seq (.reg profile_Names_r7)
  (.seq (.cond (.tmp (22 : Nat)) .skip (.exit 2))
  (.seq (.block 3 (.seq (.reg profile_Names_r8)
  (.seq (.reg profile_Names_r9)
  (.cond (.tmp (27 : Nat)) (.seq (.reg profile_Names_r10)
  .ret) .skip))))
  (.reg profile_Names_r11))))))))))
  (.reg profile_Names_r12)))))))
  (.seq (.reg profile_Names_r13)
  .ret))), [.tmp 2]⟩
theorem profile_Names_s : slimF Try.prog 41 = some profile_Names_c := by kernel_rfl
abbrev profile_Names_f : Nat := 41
/-- printworks/profile.Tones -/
def profile_Tones_r0 : List SO := [⟨(some 4), .assign (.const (.int .i64 0)), none⟩]
def profile_Tones_r1 : List SO := [⟨(some 7), .move (.tmp (0 : Nat)), none⟩,
  ⟨(some 8), .call ⟨(.builtin .len), #[(.tmp (7 : Nat))], #[23]⟩, none⟩,
  ⟨(some 9), .move (.tmp (1 : Nat)), none⟩,
  ⟨(some 10), .binOp .neq 3 (.tmp (8 : Nat)) (.tmp (9 : Nat)) 3, none⟩]
def profile_Tones_r2 : List SO := [⟨(some 4), .assign (.const (.int .i64 4)), none⟩]
def profile_Tones_r3 : List SO := [⟨(some 11), .move (.tmp (0 : Nat)), none⟩,
  ⟨(some 12), .call ⟨(.builtin .len), #[(.tmp (11 : Nat))], #[23]⟩, none⟩,
  ⟨(some 13), .move (.const (.int .i64 0)), none⟩]
def profile_Tones_r4 : List SO := [⟨(some 14), .binOp .lss 3 (.tmp (13 : Nat)) (.tmp (12 : Nat)) 3, none⟩]
def profile_Tones_r5 : List SO := [⟨(some 15), .indexAddr 23 (.tmp (11 : Nat)) (.tmp (13 : Nat)), none⟩,
  ⟨(some 16), .load 3 (.tmp (15 : Nat)), none⟩,
  ⟨(some 6), .assign (.tmp (16 : Nat)), none⟩]
def profile_Tones_r6 : List SO := [⟨(some 17), .move (.tmp (6 : Nat)), none⟩,
  ⟨(some 18), .binOp .lss 3 (.tmp (17 : Nat)) (.const (.int .i64 0)) 3, none⟩,
  ⟨(some 19), .move (.tmp (18 : Nat)), none⟩,
  ⟨(some 20), .move (.tmp (6 : Nat)), (some (19, false))⟩,
  ⟨(some 21), .binOp .gtr 3 (.tmp (20 : Nat)) (.const (.int .i64 255)) 3, (some (19, false))⟩,
  ⟨(some 22), .pick (.tmp (19 : Nat)) (.const (.bool true)) (.tmp (21 : Nat)), none⟩]
def profile_Tones_r7 : List SO := [⟨(some 4), .assign (.const (.int .i64 3)), none⟩]
def profile_Tones_r8 : List SO := [⟨(some 23), .binOp .add 3 (.tmp (13 : Nat)) (.const (.int .i64 1)) 3, none⟩,
  ⟨(some 13), .move (.tmp (23 : Nat)), none⟩]
def profile_Tones_r9 : List SO := [⟨(some 4), .assign (.const (.int .i64 0)), none⟩]
def profile_Tones_c : SF := ⟨24, (.seq (.reg profile_Tones_r0)
  (.seq (.seq (.reg profile_Tones_r1)
  (.cond (.tmp (10 : Nat)) (.seq (.reg profile_Tones_r2)
  .ret) .skip))
  (.seq (.seq (.reg profile_Tones_r3)
  (.block 0 (.loop (.seq (.reg profile_Tones_r4)
  (.seq (.cond (.tmp (14 : Nat)) .skip (.exit 0))
  (.seq (.block 1 (.seq (.reg profile_Tones_r5)
  (.seq (.reg profile_Tones_r6)
  (.cond (.tmp (22 : Nat)) (.seq (.reg profile_Tones_r7)
  .ret) .skip))))
  (.reg profile_Tones_r8)))))))
  (.seq (.reg profile_Tones_r9)
  .ret)))), [.tmp 4]⟩
theorem profile_Tones_s : slimF Try.prog 48 = some profile_Tones_c := by kernel_rfl
abbrev profile_Tones_f : Nat := 48
/-- printworks/profile.Quick -/
def profile_Quick_r0 : List SO := [⟨(some 4), .alloc 43, none⟩]
def profile_Quick_r1 : List SO := [⟨(some 6), .move (.tmp (0 : Nat)), none⟩,
  ⟨(some 7), .nilCheck (.tmp (6 : Nat)), none⟩,
  ⟨(some 8), .fieldAddr 62 (.tmp (7 : Nat)) 3, none⟩,
  ⟨(some 9), .move (.tmp (0 : Nat)), none⟩,
  ⟨(some 10), .move (.tmp (1 : Nat)), none⟩,
  ⟨(some 11), .call ⟨(.value (.func (65 : Nat))), #[(.tmp (9 : Nat)), (.tmp (10 : Nat))], #[105, 23]⟩, none⟩,
  ⟨(some 12), .call ⟨(.value (.func (68 : Nat))), #[(.tmp (8 : Nat)), (.tmp (11 : Nat))], #[82, 23]⟩, none⟩,
  ⟨(some 5), .assign (.tmp (12 : Nat)), none⟩]
def profile_Quick_a1 : List (List Nat) := [[], [0], [1], [], [], [3, 4], [2, 5, 5], [6, 6, 0, 1, 2, 3, 4, 5, 6]]
def profile_Quick_r2 : List SO := [⟨(some 13), .move (.tmp (5 : Nat)), none⟩,
  ⟨(some 14), .indexAddr 23 (.tmp (13 : Nat)) (.const (.int .i64 0)), none⟩,
  ⟨(some 15), .load 3 (.tmp (14 : Nat)), none⟩,
  ⟨(some 16), .move (.tmp (5 : Nat)), none⟩,
  ⟨(some 17), .indexAddr 23 (.tmp (16 : Nat)) (.const (.int .i64 1)), none⟩,
  ⟨(some 18), .load 3 (.tmp (17 : Nat)), none⟩,
  ⟨(some 19), .move (.tmp (5 : Nat)), none⟩,
  ⟨(some 20), .indexAddr 23 (.tmp (19 : Nat)) (.const (.int .i64 2)), none⟩,
  ⟨(some 21), .load 3 (.tmp (20 : Nat)), none⟩,
  ⟨(some 22), .build 43 #[(0, (.tmp (15 : Nat))), (1, (.tmp (18 : Nat))), (2, (.tmp (21 : Nat)))], none⟩,
  ⟨none, .store 43 (.tmp (4 : Nat)) (.tmp (22 : Nat)), none⟩]
def profile_Quick_a2 : List (List Nat) := [[], [0], [1], [], [3], [4], [], [6], [7], [2, 5, 8], [9, 0, 1, 2, 3, 4, 5, 6, 7, 8, 9]]
def profile_Quick_c : SF := ⟨23, (.seq (.reg profile_Quick_r0)
  (.seq (.regd profile_Quick_r1 profile_Quick_a1)
  (.seq (.regd profile_Quick_r2 profile_Quick_a2)
  .ret))), [.cell 4 43]⟩
theorem profile_Quick_s : slimF Try.prog 60 = some profile_Quick_c := by kernel_rfl
abbrev profile_Quick_f : Nat := 60
/-- printworks/profile.Tags -/
def profile_Tags_r0 : List SO := [⟨(some 2), .assign (.const (.slice none 0 0)), none⟩,
  ⟨(some 3), .assign (.const (.int .i64 0)), none⟩]
def profile_Tags_r1 : List SO := [⟨(some 10), .move (.tmp (0 : Nat)), none⟩,
  ⟨(some 11), .call ⟨(.value (.func (73 : Nat))), #[(.tmp (10 : Nat))], #[71]⟩, none⟩,
  ⟨(some 9), .move (.tmp (11 : Nat)), none⟩,
  ⟨(some 12), .extract (.tmp (9 : Nat)) 0, none⟩,
  ⟨(some 13), .extract (.tmp (9 : Nat)) 1, none⟩,
  ⟨(some 4), .assign (.tmp (12 : Nat)), none⟩,
  ⟨(some 5), .assign (.tmp (13 : Nat)), none⟩]
def profile_Tags_r2 : List SO := [⟨(some 14), .move (.tmp (5 : Nat)), none⟩,
  ⟨(some 15), .binOp .neq 33 (.tmp (14 : Nat)) (.const (.int .i64 0)) 33, none⟩]
def profile_Tags_r3 : List SO := [⟨(some 16), .move (.tmp (5 : Nat)), none⟩,
  ⟨(some 2), .assign (.const (.slice none 0 0)), none⟩,
  ⟨(some 3), .assign (.tmp (16 : Nat)), none⟩]
def profile_Tags_r4 : List SO := [⟨(some 6), .assign (.const (.slice none 0 0)), none⟩]
def profile_Tags_r5 : List SO := [⟨(some 17), .move (.tmp (4 : Nat)), none⟩,
  ⟨(some 18), .call ⟨(.builtin .len), #[(.tmp (17 : Nat))], #[121]⟩, none⟩,
  ⟨(some 19), .move (.const (.int .i64 0)), none⟩]
def profile_Tags_r6 : List SO := [⟨(some 20), .binOp .lss 3 (.tmp (19 : Nat)) (.tmp (18 : Nat)) 3, none⟩]
def profile_Tags_r7 : List SO := [⟨(some 21), .indexAddr 121 (.tmp (17 : Nat)) (.tmp (19 : Nat)), none⟩,
  ⟨(some 22), .load 125 (.tmp (21 : Nat)), none⟩,
  ⟨(some 8), .alloc 125, none⟩,
  ⟨none, .store 125 (.tmp (8 : Nat)) (.tmp (22 : Nat)), none⟩]
def profile_Tags_r8 : List SO := [⟨(some 23), .move (.tmp (6 : Nat)), none⟩,
  ⟨(some 24), .fieldAddr 125 (.tmp (8 : Nat)) 0, none⟩,
  ⟨(some 25), .load 9 (.tmp (24 : Nat)), none⟩,
  ⟨(some 26), .buildSlice 22 1 #[(0, (.tmp (25 : Nat)))], none⟩,
  ⟨(some 27), .call ⟨(.builtin .append), #[(.tmp (23 : Nat)), (.tmp (26 : Nat))], #[22, 22]⟩, none⟩,
  ⟨(some 6), .assign (.tmp (27 : Nat)), none⟩]
def profile_Tags_r9 : List SO := [⟨(some 28), .binOp .add 3 (.tmp (19 : Nat)) (.const (.int .i64 1)) 3, none⟩,
  ⟨(some 19), .move (.tmp (28 : Nat)), none⟩]
def profile_Tags_r10 : List SO := [⟨(some 29), .move (.tmp (6 : Nat)), none⟩,
  ⟨(some 2), .assign (.tmp (29 : Nat)), none⟩,
  ⟨(some 3), .assign (.const (.int .i64 0)), none⟩]
def profile_Tags_c : SF := ⟨30, (.seq (.reg profile_Tags_r0)
  (.seq (.reg profile_Tags_r1)
  (.seq (.seq (.reg profile_Tags_r2)
  (.cond (.tmp (15 : Nat)) (.seq (.reg profile_Tags_r3)
  .ret) .skip))
  (.seq (.reg profile_Tags_r4)
  (.seq (.seq (.reg profile_Tags_r5)
  (.block 0 (.loop (.seq (.reg profile_Tags_r6)
  (.seq (.cond (.tmp (20 : Nat)) .skip (.exit 0))
  (.seq (.block 1 (.seq (.reg profile_Tags_r7)
  (.reg profile_Tags_r8)))
  (.reg profile_Tags_r9)))))))
  (.seq (.reg profile_Tags_r10)
  .ret)))))), [.tmp 2, .tmp 3]⟩
theorem profile_Tags_s : slimF Try.prog 62 = some profile_Tags_c := by kernel_rfl
/-- printworks/profile.Sum -/
def profile_Sum_r0 : List SO := [⟨(some 2), .assign (.const (.int .i64 0)), none⟩]
def profile_Sum_r1 : List SO := [⟨(some 3), .assign (.const (.int .u32 4294967295)), none⟩]
def profile_Sum_r2 : List SO := [⟨(some 6), .move (.tmp (0 : Nat)), none⟩,
  ⟨(some 7), .call ⟨(.builtin .len), #[(.tmp (6 : Nat))], #[71]⟩, none⟩,
  ⟨(some 8), .move (.const (.int .i64 0)), none⟩]
def profile_Sum_r3 : List SO := [⟨(some 9), .binOp .lss 3 (.tmp (8 : Nat)) (.tmp (7 : Nat)) 3, none⟩]
def profile_Sum_r4 : List SO := [⟨(some 10), .indexAddr 71 (.tmp (6 : Nat)) (.tmp (8 : Nat)), none⟩,
  ⟨(some 11), .load 5 (.tmp (10 : Nat)), none⟩,
  ⟨(some 5), .assign (.tmp (11 : Nat)), none⟩]
def profile_Sum_r5 : List SO := [⟨(some 12), .move (.tmp (3 : Nat)), none⟩,
  ⟨(some 13), .move (.tmp (5 : Nat)), none⟩,
  ⟨(some 14), .convert 5 152 (.tmp (13 : Nat)), none⟩,
  ⟨(some 15), .binOp .xor 152 (.tmp (12 : Nat)) (.tmp (14 : Nat)) 152, none⟩,
  ⟨(some 3), .assign (.tmp (15 : Nat)), none⟩]
def profile_Sum_r6 : List SO := [⟨(some 16), .move (.const (.int .i64 0)), none⟩]
def profile_Sum_r7 : List SO := [⟨(some 17), .binOp .lss 3 (.tmp (16 : Nat)) (.const (.int .i64 8)) 3, none⟩]
def profile_Sum_r8 : List SO := [⟨(some 18), .move (.tmp (3 : Nat)), none⟩,
  ⟨(some 19), .binOp .shr 152 (.tmp (18 : Nat)) (.const (.int .u64 1)) 153, none⟩,
  ⟨(some 20), .move (.tmp (3 : Nat)), none⟩,
  ⟨(some 21), .binOp .and 152 (.tmp (20 : Nat)) (.const (.int .u32 1)) 152, none⟩,
  ⟨(some 22), .unOp .neg 152 (.tmp (21 : Nat)), none⟩,
  ⟨(some 23), .binOp .and 152 (.const (.int .u32 3988292384)) (.tmp (22 : Nat)) 152, none⟩,
  ⟨(some 24), .binOp .xor 152 (.tmp (19 : Nat)) (.tmp (23 : Nat)) 152, none⟩,
  ⟨(some 3), .assign (.tmp (24 : Nat)), none⟩]
def profile_Sum_r9 : List SO := [⟨(some 25), .binOp .add 3 (.tmp (16 : Nat)) (.const (.int .i64 1)) 3, none⟩,
  ⟨(some 16), .move (.tmp (25 : Nat)), none⟩]
def profile_Sum_r10 : List SO := [⟨(some 26), .binOp .add 3 (.tmp (8 : Nat)) (.const (.int .i64 1)) 3, none⟩,
  ⟨(some 8), .move (.tmp (26 : Nat)), none⟩]
def profile_Sum_r11 : List SO := [⟨(some 27), .move (.tmp (3 : Nat)), none⟩,
  ⟨(some 28), .unOp .xor 152 (.tmp (27 : Nat)), none⟩,
  ⟨(some 29), .convert 152 3 (.tmp (28 : Nat)), none⟩,
  ⟨(some 2), .assign (.tmp (29 : Nat)), none⟩]
def profile_Sum_c : SF := ⟨30, (.seq (.reg profile_Sum_r0)
  (.seq (.reg profile_Sum_r1)
  (.seq (.seq (.reg profile_Sum_r2)
  (.block 0 (.loop (.seq (.reg profile_Sum_r3)
  (.seq (.cond (.tmp (9 : Nat)) .skip (.exit 0))
  (.seq (.block 1 (.seq (.reg profile_Sum_r4)
  (.seq (.reg profile_Sum_r5)
  (.seq (.reg profile_Sum_r6)
  (.block 2 (.loop (.seq (.reg profile_Sum_r7)
  (.seq (.cond (.tmp (17 : Nat)) .skip (.exit 2))
  (.seq (.block 3 (.reg profile_Sum_r8))
  (.reg profile_Sum_r9))))))))))
  (.reg profile_Sum_r10)))))))
  (.seq (.reg profile_Sum_r11)
  .ret)))), [.tmp 2]⟩
theorem profile_Sum_s : slimF Try.prog 64 = some profile_Sum_c := by kernel_rfl
/-- printworks/profile.Fine -/
def profile_Fine_r0 : List SO := [⟨(some 4), .assign (.const (.slice none 0 0)), none⟩]
def profile_Fine_r1 : List SO := [⟨(some 8), .move (.tmp (1 : Nat)), none⟩,
  ⟨(some 9), .call ⟨(.builtin .len), #[(.tmp (8 : Nat))], #[23]⟩, none⟩,
  ⟨(some 10), .makeSlice 23 (.tmp (9 : Nat)) (.tmp (9 : Nat)), none⟩,
  ⟨(some 5), .assign (.tmp (10 : Nat)), none⟩]
def profile_Fine_r2 : List SO := [⟨(some 11), .move (.tmp (1 : Nat)), none⟩,
  ⟨(some 12), .call ⟨(.builtin .len), #[(.tmp (11 : Nat))], #[23]⟩, none⟩,
  ⟨(some 13), .move (.const (.int .i64 0)), none⟩]
def profile_Fine_r3 : List SO := [⟨(some 14), .binOp .lss 3 (.tmp (13 : Nat)) (.tmp (12 : Nat)) 3, none⟩]
def profile_Fine_r4 : List SO := [⟨(some 15), .move (.tmp (13 : Nat)), none⟩,
  ⟨(some 16), .indexAddr 23 (.tmp (11 : Nat)) (.tmp (13 : Nat)), none⟩,
  ⟨(some 17), .load 3 (.tmp (16 : Nat)), none⟩,
  ⟨(some 6), .assign (.tmp (15 : Nat)), none⟩,
  ⟨(some 7), .assign (.tmp (17 : Nat)), none⟩]
def profile_Fine_r5 : List SO := [⟨(some 18), .move (.tmp (5 : Nat)), none⟩,
  ⟨(some 19), .move (.tmp (6 : Nat)), none⟩,
  ⟨(some 20), .move (.tmp (0 : Nat)), none⟩,
  ⟨(some 21), .move (.tmp (6 : Nat)), none⟩,
  ⟨(some 22), .move (.tmp (7 : Nat)), none⟩,
  ⟨(some 23), .call ⟨(.value (.func (89 : Nat))), #[(.tmp (20 : Nat)), (.tmp (21 : Nat)), (.tmp (22 : Nat))], #[105, 3, 3]⟩, none⟩,
  ⟨(some 24), .indexAddr 23 (.tmp (18 : Nat)) (.tmp (19 : Nat)), none⟩,
  ⟨none, .store 3 (.tmp (24 : Nat)) (.tmp (23 : Nat)), none⟩]
def profile_Fine_r6 : List SO := [⟨(some 25), .binOp .add 3 (.tmp (13 : Nat)) (.const (.int .i64 1)) 3, none⟩,
  ⟨(some 13), .move (.tmp (25 : Nat)), none⟩]
def profile_Fine_r7 : List SO := [⟨(some 26), .move (.tmp (5 : Nat)), none⟩,
  ⟨(some 4), .assign (.tmp (26 : Nat)), none⟩]
def profile_Fine_c : SF := ⟨27, (.seq (.reg profile_Fine_r0)
  (.seq (.reg profile_Fine_r1)
  (.seq (.seq (.reg profile_Fine_r2)
  (.block 0 (.loop (.seq (.reg profile_Fine_r3)
  (.seq (.cond (.tmp (14 : Nat)) .skip (.exit 0))
  (.seq (.block 1 (.seq (.reg profile_Fine_r4)
  (.reg profile_Fine_r5)))
  (.reg profile_Fine_r6)))))))
  (.seq (.reg profile_Fine_r7)
  .ret)))), [.tmp 4]⟩
theorem profile_Fine_s : slimF Try.prog 65 = some profile_Fine_c := by kernel_rfl
abbrev profile_Fine_f : Nat := 65
/-- printworks/profile.Put16 -/
def profile_Put16_r0 : List SO := [⟨(some 4), .assign (.const (.slice none 0 0)), none⟩]
def profile_Put16_r1 : List SO := [⟨(some 5), .move (.tmp (0 : Nat)), none⟩,
  ⟨(some 6), .move (.tmp (1 : Nat)), none⟩,
  ⟨(some 7), .binOp .shr 3 (.tmp (6 : Nat)) (.const (.int .u64 8)) 153, none⟩,
  ⟨(some 8), .convert 3 5 (.tmp (7 : Nat)), none⟩,
  ⟨(some 9), .move (.tmp (1 : Nat)), none⟩,
  ⟨(some 10), .convert 3 5 (.tmp (9 : Nat)), none⟩,
  ⟨(some 11), .buildSlice 71 2 #[(0, (.tmp (8 : Nat))), (1, (.tmp (10 : Nat)))], none⟩,
  ⟨(some 12), .call ⟨(.builtin .append), #[(.tmp (5 : Nat)), (.tmp (11 : Nat))], #[71, 71]⟩, none⟩,
  ⟨(some 4), .assign (.tmp (12 : Nat)), none⟩]
def profile_Put16_c : SF := ⟨13, (.seq (.reg profile_Put16_r0)
  (.seq (.reg profile_Put16_r1)
  .ret)), [.tmp 4]⟩
theorem profile_Put16_s : slimF Try.prog 69 = some profile_Put16_c := by kernel_rfl
/-- printworks/profile.signatures -/
def profile_signatures_r0 : List SO := [⟨(some 0), .alloc 118, none⟩]
def profile_signatures_r1 : List SO := [⟨(some 1), .build 118 #[(0, (.const (.string ⟨([110, 97, 109, 101] : List UInt8).toArray⟩))), (1, (.const (.string ⟨([105, 110, 107, 115] : List UInt8).toArray⟩))), (2, (.const (.string ⟨([99, 117, 114, 118] : List UInt8).toArray⟩))), (3, (.const (.string ⟨([103, 114, 105, 100] : List UInt8).toArray⟩)))], none⟩,
  ⟨none, .store 118 (.tmp (0 : Nat)) (.tmp (1 : Nat)), none⟩]
def profile_signatures_c : SF := ⟨2, (.seq (.reg profile_signatures_r0)
  (.seq (.reg profile_signatures_r1)
  .ret)), [.cell 0 118]⟩
theorem profile_signatures_s : slimF Try.prog 70 = some profile_signatures_c := by kernel_rfl
/-- printworks/profile.Put32 -/
def profile_Put32_r0 : List SO := [⟨(some 4), .assign (.const (.slice none 0 0)), none⟩]
def profile_Put32_r1 : List SO := [⟨(some 5), .move (.tmp (0 : Nat)), none⟩,
  ⟨(some 6), .move (.tmp (1 : Nat)), none⟩,
  ⟨(some 7), .binOp .shr 3 (.tmp (6 : Nat)) (.const (.int .u64 16)) 153, none⟩,
  ⟨(some 8), .call ⟨(.value (.func (69 : Nat))), #[(.tmp (5 : Nat)), (.tmp (7 : Nat))], #[71, 3]⟩, none⟩,
  ⟨(some 9), .move (.tmp (1 : Nat)), none⟩,
  ⟨(some 10), .call ⟨(.value (.func (69 : Nat))), #[(.tmp (8 : Nat)), (.tmp (9 : Nat))], #[71, 3]⟩, none⟩,
  ⟨(some 4), .assign (.tmp (10 : Nat)), none⟩]
def profile_Put32_c : SF := ⟨11, (.seq (.reg profile_Put32_r0)
  (.seq (.reg profile_Put32_r1)
  .ret)), [.tmp 4]⟩
theorem profile_Put32_s : slimF Try.prog 71 = some profile_Put32_c := by kernel_rfl
/-- printworks/profile.IsName -/
def profile_IsName_r0 : List SO := [⟨(some 2), .assign (.const (.bool false)), none⟩]
def profile_IsName_r1 : List SO := [⟨(some 5), .move (.tmp (0 : Nat)), none⟩,
  ⟨(some 6), .call ⟨(.builtin .len), #[(.tmp (5 : Nat))], #[9]⟩, none⟩,
  ⟨(some 7), .binOp .lss 3 (.tmp (6 : Nat)) (.const (.int .i64 1)) 3, none⟩,
  ⟨(some 8), .move (.tmp (7 : Nat)), none⟩,
  ⟨(some 9), .move (.tmp (0 : Nat)), (some (8, false))⟩,
  ⟨(some 10), .call ⟨(.builtin .len), #[(.tmp (9 : Nat))], #[9]⟩, (some (8, false))⟩,
  ⟨(some 11), .binOp .gtr 3 (.tmp (10 : Nat)) (.const (.int .i64 16)) 3, (some (8, false))⟩,
  ⟨(some 12), .pick (.tmp (8 : Nat)) (.const (.bool true)) (.tmp (11 : Nat)), none⟩,
  ⟨(some 13), .move (.tmp (12 : Nat)), none⟩,
  ⟨(some 14), .move (.tmp (0 : Nat)), (some (13, false))⟩,
  ⟨(some 15), .index 9 (.tmp (14 : Nat)) (.const (.int .i64 0)), (some (13, false))⟩,
  ⟨(some 16), .binOp .lss 5 (.tmp (15 : Nat)) (.const (.int .u8 97)) 5, (some (13, false))⟩,
  ⟨(some 17), .pick (.tmp (13 : Nat)) (.const (.bool true)) (.tmp (16 : Nat)), none⟩,
  ⟨(some 18), .move (.tmp (17 : Nat)), none⟩,
  ⟨(some 19), .move (.tmp (0 : Nat)), (some (18, false))⟩,
  ⟨(some 20), .index 9 (.tmp (19 : Nat)) (.const (.int .i64 0)), (some (18, false))⟩,
  ⟨(some 21), .binOp .gtr 5 (.tmp (20 : Nat)) (.const (.int .u8 122)) 5, (some (18, false))⟩,
  ⟨(some 22), .pick (.tmp (18 : Nat)) (.const (.bool true)) (.tmp (21 : Nat)), none⟩]
def profile_IsName_r2 : List SO := [⟨(some 2), .assign (.const (.bool false)), none⟩]
def profile_IsName_r3 : List SO := [⟨(some 23), .move (.tmp (0 : Nat)), none⟩,
  ⟨(some 24), .call ⟨(.builtin .len), #[(.tmp (23 : Nat))], #[9]⟩, none⟩,
  ⟨(some 25), .move (.const (.int .i64 0)), none⟩]
def profile_IsName_r4 : List SO := [⟨(some 26), .binOp .lss 3 (.tmp (25 : Nat)) (.tmp (24 : Nat)) 3, none⟩]
def profile_IsName_r5 : List SO := [⟨(some 27), .move (.tmp (25 : Nat)), none⟩,
  ⟨(some 3), .assign (.tmp (27 : Nat)), none⟩]
def profile_IsName_r6 : List SO := [⟨(some 28), .move (.tmp (0 : Nat)), none⟩,
  ⟨(some 29), .move (.tmp (3 : Nat)), none⟩,
  ⟨(some 30), .index 9 (.tmp (28 : Nat)) (.tmp (29 : Nat)), none⟩,
  ⟨(some 4), .assign (.tmp (30 : Nat)), none⟩]
def profile_IsName_r7 : List SO := [⟨(some 31), .move (.tmp (4 : Nat)), none⟩,
  ⟨(some 32), .binOp .lss 5 (.tmp (31 : Nat)) (.const (.int .u8 97)) 5, none⟩,
  ⟨(some 33), .move (.tmp (32 : Nat)), none⟩,
  ⟨(some 34), .move (.tmp (4 : Nat)), (some (33, false))⟩,
  ⟨(some 35), .binOp .gtr 5 (.tmp (34 : Nat)) (.const (.int .u8 122)) 5, (some (33, false))⟩,
  ⟨(some 36), .pick (.tmp (33 : Nat)) (.const (.bool true)) (.tmp (35 : Nat)), none⟩,
  ⟨(some 37), .move (.tmp (36 : Nat)), none⟩,
  ⟨(some 38), .move (.tmp (4 : Nat)), (some (37, true))⟩,
  ⟨(some 39), .binOp .lss 5 (.tmp (38 : Nat)) (.const (.int .u8 48)) 5, (some (37, true))⟩,
  ⟨(some 40), .move (.tmp (39 : Nat)), (some (37, true))⟩,
  ⟨(some 41), .move (.tmp (4 : Nat)), (some (40, false))⟩,
  ⟨(some 42), .binOp .gtr 5 (.tmp (41 : Nat)) (.const (.int .u8 57)) 5, (some (40, false))⟩,
  ⟨(some 43), .pick (.tmp (40 : Nat)) (.const (.bool true)) (.tmp (42 : Nat)), (some (37, true))⟩,
  ⟨(some 44), .pick (.tmp (37 : Nat)) (.tmp (43 : Nat)) (.const (.bool false)), none⟩,
  ⟨(some 45), .move (.tmp (44 : Nat)), none⟩,
  ⟨(some 46), .move (.tmp (4 : Nat)), (some (45, true))⟩,
  ⟨(some 47), .binOp .neq 5 (.tmp (46 : Nat)) (.const (.int .u8 45)) 5, (some (45, true))⟩,
  ⟨(some 48), .pick (.tmp (45 : Nat)) (.tmp (47 : Nat)) (.const (.bool false)), none⟩]
def profile_IsName_r8 : List SO := [⟨(some 2), .assign (.const (.bool false)), none⟩]
def profile_IsName_r9 : List SO := [⟨(some 49), .binOp .add 3 (.tmp (25 : Nat)) (.const (.int .i64 1)) 3, none⟩,
  ⟨(some 25), .move (.tmp (49 : Nat)), none⟩]
def profile_IsName_r10 : List SO := [⟨(some 2), .assign (.const (.bool true)), none⟩]
def profile_IsName_c : SF := ⟨50, (.seq (.reg profile_IsName_r0)
  (.seq (.seq (.reg profile_IsName_r1)
  (.cond (.tmp (22 : Nat)) (.seq (.reg profile_IsName_r2)
  .ret) .skip))
  (.seq (.seq (.reg profile_IsName_r3)
  (.block 0 (.loop (.seq (.reg profile_IsName_r4)
  (.seq (.cond (.tmp (26 : Nat)) .skip (.exit 0))
  (.seq (.block 1 (.seq (.reg profile_IsName_r5)
  (.seq (.reg profile_IsName_r6)
  (.seq (.reg profile_IsName_r7)
  (.cond (.tmp (48 : Nat)) (.seq (.reg profile_IsName_r8)
  .ret) .skip)))))
  (.reg profile_IsName_r9)))))))
  (.seq (.reg profile_IsName_r10)
  .ret)))), [.tmp 2]⟩
theorem profile_IsName_s : slimF Try.prog 72 = some profile_IsName_c := by kernel_rfl
abbrev profile_IsName_f : Nat := 72
/-- printworks/profile.table -/
def profile_table_r0 : List SO := [⟨(some 2), .assign (.const (.slice none 0 0)), none⟩,
  ⟨(some 3), .assign (.const (.int .i64 0)), none⟩]
def profile_table_r1 : List SO := [⟨(some 18), .move (.tmp (0 : Nat)), none⟩,
  ⟨(some 19), .call ⟨(.builtin .len), #[(.tmp (18 : Nat))], #[71]⟩, none⟩,
  ⟨(some 20), .binOp .gtr 3 (.tmp (19 : Nat)) (.const (.int .i64 65536)) 3, none⟩]
def profile_table_r2 : List SO := [⟨(some 2), .assign (.const (.slice none 0 0)), none⟩,
  ⟨(some 3), .assign (.const (.int .i64 2)), none⟩]
def profile_table_r3 : List SO := [⟨(some 21), .move (.tmp (0 : Nat)), none⟩,
  ⟨(some 22), .call ⟨(.builtin .len), #[(.tmp (21 : Nat))], #[71]⟩, none⟩,
  ⟨(some 23), .binOp .lss 3 (.tmp (22 : Nat)) (.const (.int .i64 16)) 3, none⟩]
def profile_table_r4 : List SO := [⟨(some 2), .assign (.const (.slice none 0 0)), none⟩,
  ⟨(some 3), .assign (.const (.int .i64 12)), none⟩]
def profile_table_r5 : List SO := [⟨(some 24), .move (.tmp (0 : Nat)), none⟩,
  ⟨(some 25), .slice 71 (.tmp (24 : Nat)) none (some (.const (.int .i64 4))) none, none⟩,
  ⟨(some 26), .convert 71 9 (.tmp (25 : Nat)), none⟩,
  ⟨(some 27), .binOp .neq 9 (.tmp (26 : Nat)) (.const (.string ⟨([80, 82, 70, 49] : List UInt8).toArray⟩)) 9, none⟩]
def profile_table_r6 : List SO := [⟨(some 2), .assign (.const (.slice none 0 0)), none⟩,
  ⟨(some 3), .assign (.const (.int .i64 4)), none⟩]
def profile_table_r7 : List SO := [⟨(some 28), .move (.tmp (0 : Nat)), none⟩,
  ⟨(some 29), .slice 71 (.tmp (28 : Nat)) (some (.const (.int .i64 4))) none none, none⟩,
  ⟨(some 30), .call ⟨(.value (.func (90 : Nat))), #[(.tmp (29 : Nat))], #[71]⟩, none⟩,
  ⟨(some 4), .assign (.tmp (30 : Nat)), none⟩]
def profile_table_r8 : List SO := [⟨(some 32), .move (.tmp (4 : Nat)), none⟩,
  ⟨(some 33), .move (.tmp (0 : Nat)), none⟩,
  ⟨(some 34), .call ⟨(.builtin .len), #[(.tmp (33 : Nat))], #[71]⟩, none⟩,
  ⟨(some 35), .binOp .gtr 3 (.tmp (32 : Nat)) (.tmp (34 : Nat)) 3, none⟩,
  ⟨(some 31), .assign (.tmp (35 : Nat)), none⟩]
def profile_table_r9 : List SO := [⟨(some 2), .assign (.const (.slice none 0 0)), none⟩,
  ⟨(some 3), .assign (.const (.int .i64 12)), none⟩]
def profile_table_r10 : List SO := [⟨(some 37), .move (.tmp (4 : Nat)), none⟩,
  ⟨(some 38), .move (.tmp (0 : Nat)), none⟩,
  ⟨(some 39), .call ⟨(.builtin .len), #[(.tmp (38 : Nat))], #[71]⟩, none⟩,
  ⟨(some 40), .binOp .lss 3 (.tmp (37 : Nat)) (.tmp (39 : Nat)) 3, none⟩,
  ⟨(some 36), .assign (.tmp (40 : Nat)), none⟩]
def profile_table_r11 : List SO := [⟨(some 2), .assign (.const (.slice none 0 0)), none⟩,
  ⟨(some 3), .assign (.const (.int .i64 4)), none⟩]
def profile_table_r12 : List SO := [⟨(some 41), .move (.tmp (0 : Nat)), none⟩,
  ⟨(some 42), .slice 71 (.tmp (41 : Nat)) (some (.const (.int .i64 8))) none none, none⟩,
  ⟨(some 43), .call ⟨(.value (.func (90 : Nat))), #[(.tmp (42 : Nat))], #[71]⟩, none⟩,
  ⟨(some 44), .move (.tmp (0 : Nat)), none⟩,
  ⟨(some 45), .slice 71 (.tmp (44 : Nat)) (some (.const (.int .i64 12))) none none, none⟩,
  ⟨(some 46), .call ⟨(.value (.func (64 : Nat))), #[(.tmp (45 : Nat))], #[71]⟩, none⟩,
  ⟨(some 47), .binOp .neq 3 (.tmp (43 : Nat)) (.tmp (46 : Nat)) 3, none⟩]
def profile_table_a12 : List (List Nat) := [[], [0], [1], [], [3], [4, 2], [2, 5]]
def profile_table_r13 : List SO := [⟨(some 2), .assign (.const (.slice none 0 0)), none⟩,
  ⟨(some 3), .assign (.const (.int .i64 11)), none⟩]
def profile_table_r14 : List SO := [⟨(some 48), .move (.tmp (0 : Nat)), none⟩,
  ⟨(some 49), .slice 71 (.tmp (48 : Nat)) (some (.const (.int .i64 12))) none none, none⟩,
  ⟨(some 50), .call ⟨(.value (.func (91 : Nat))), #[(.tmp (49 : Nat))], #[71]⟩, none⟩,
  ⟨(some 5), .assign (.tmp (50 : Nat)), none⟩]
def profile_table_r15 : List SO := [⟨(some 51), .move (.tmp (5 : Nat)), none⟩,
  ⟨(some 52), .binOp .gtr 3 (.tmp (51 : Nat)) (.const (.int .i64 16)) 3, none⟩]
def profile_table_r16 : List SO := [⟨(some 2), .assign (.const (.slice none 0 0)), none⟩,
  ⟨(some 3), .assign (.const (.int .i64 2)), none⟩]
def profile_table_r17 : List SO := [⟨(some 53), .move (.tmp (5 : Nat)), none⟩,
  ⟨(some 54), .binOp .mul 3 (.const (.int .i64 12)) (.tmp (53 : Nat)) 3, none⟩,
  ⟨(some 55), .binOp .add 3 (.const (.int .i64 16)) (.tmp (54 : Nat)) 3, none⟩,
  ⟨(some 6), .assign (.tmp (55 : Nat)), none⟩]
def profile_table_r18 : List SO := [⟨(some 56), .move (.tmp (6 : Nat)), none⟩,
  ⟨(some 57), .move (.tmp (0 : Nat)), none⟩,
  ⟨(some 58), .call ⟨(.builtin .len), #[(.tmp (57 : Nat))], #[71]⟩, none⟩,
  ⟨(some 59), .binOp .gtr 3 (.tmp (56 : Nat)) (.tmp (58 : Nat)) 3, none⟩]
def profile_table_r19 : List SO := [⟨(some 2), .assign (.const (.slice none 0 0)), none⟩,
  ⟨(some 3), .assign (.const (.int .i64 12)), none⟩]
def profile_table_r20 : List SO := [⟨(some 7), .assign (.const (.slice none 0 0)), none⟩]
def profile_table_r21 : List SO := [⟨(some 8), .assign (.const (.slice none 0 0)), none⟩,
  ⟨(some 9), .assign (.const (.slice none 0 0)), none⟩]
def profile_table_r22 : List SO := [⟨(some 60), .move (.tmp (5 : Nat)), none⟩,
  ⟨(some 61), .move (.const (.int .i64 0)), none⟩]
def profile_table_r23 : List SO := [⟨(some 62), .binOp .lss 3 (.tmp (61 : Nat)) (.tmp (60 : Nat)) 3, none⟩]
def profile_table_r24 : List SO := [⟨(some 63), .move (.tmp (61 : Nat)), none⟩,
  ⟨(some 10), .assign (.tmp (63 : Nat)), none⟩]
def profile_table_r25 : List SO := [⟨(some 64), .move (.tmp (0 : Nat)), none⟩,
  ⟨(some 65), .move (.tmp (10 : Nat)), none⟩,
  ⟨(some 66), .binOp .mul 3 (.const (.int .i64 12)) (.tmp (65 : Nat)) 3, none⟩,
  ⟨(some 67), .binOp .add 3 (.const (.int .i64 16)) (.tmp (66 : Nat)) 3, none⟩,
  ⟨(some 68), .slice 71 (.tmp (64 : Nat)) (some (.tmp (67 : Nat))) none none, none⟩,
  ⟨(some 69), .slice 71 (.tmp (68 : Nat)) none (some (.const (.int .i64 12))) none, none⟩,
  ⟨(some 11), .assign (.tmp (69 : Nat)), none⟩]
def profile_table_r26 : List SO := [⟨(some 70), .move (.tmp (11 : Nat)), none⟩,
  ⟨(some 71), .slice 71 (.tmp (70 : Nat)) none (some (.const (.int .i64 4))) none, none⟩,
  ⟨(some 72), .convert 71 9 (.tmp (71 : Nat)), none⟩,
  ⟨(some 73), .build 125 #[(0, (.tmp (72 : Nat)))], none⟩,
  ⟨(some 12), .alloc 125, none⟩,
  ⟨none, .store 125 (.tmp (12 : Nat)) (.tmp (73 : Nat)), none⟩]
def profile_table_r27 : List SO := [⟨(some 74), .move (.tmp (11 : Nat)), none⟩,
  ⟨(some 75), .slice 71 (.tmp (74 : Nat)) (some (.const (.int .i64 4))) none none, none⟩,
  ⟨(some 76), .call ⟨(.value (.func (90 : Nat))), #[(.tmp (75 : Nat))], #[71]⟩, none⟩,
  ⟨(some 77), .move (.tmp (11 : Nat)), none⟩,
  ⟨(some 78), .slice 71 (.tmp (77 : Nat)) (some (.const (.int .i64 8))) none none, none⟩,
  ⟨(some 79), .call ⟨(.value (.func (90 : Nat))), #[(.tmp (78 : Nat))], #[71]⟩, none⟩,
  ⟨(some 13), .assign (.tmp (76 : Nat)), none⟩,
  ⟨(some 14), .assign (.tmp (79 : Nat)), none⟩]
def profile_table_a27 : List (List Nat) := [[], [0], [1], [], [3], [4, 2], [2, 5, 0, 1, 2], [5, 6, 0, 1, 2, 3, 4, 5, 6]]
def profile_table_r28 : List SO := [⟨(some 80), .move (.tmp (13 : Nat)), none⟩,
  ⟨(some 81), .move (.tmp (14 : Nat)), none⟩,
  ⟨(some 82), .binOp .add 3 (.tmp (80 : Nat)) (.tmp (81 : Nat)) 3, none⟩,
  ⟨(some 83), .move (.tmp (0 : Nat)), none⟩,
  ⟨(some 84), .call ⟨(.builtin .len), #[(.tmp (83 : Nat))], #[71]⟩, none⟩,
  ⟨(some 85), .binOp .gtr 3 (.tmp (82 : Nat)) (.tmp (84 : Nat)) 3, none⟩]
def profile_table_r29 : List SO := [⟨(some 2), .assign (.const (.slice none 0 0)), none⟩,
  ⟨(some 3), .assign (.const (.int .i64 12)), none⟩]
def profile_table_r30 : List SO := [⟨(some 86), .move (.tmp (13 : Nat)), none⟩,
  ⟨(some 87), .binOp .rem 3 (.tmp (86 : Nat)) (.const (.int .i64 4)) 3, none⟩,
  ⟨(some 88), .binOp .neq 3 (.tmp (87 : Nat)) (.const (.int .i64 0)) 3, none⟩,
  ⟨(some 89), .move (.tmp (88 : Nat)), none⟩,
  ⟨(some 90), .move (.tmp (13 : Nat)), (some (89, false))⟩,
  ⟨(some 91), .move (.tmp (6 : Nat)), (some (89, false))⟩,
  ⟨(some 92), .binOp .lss 3 (.tmp (90 : Nat)) (.tmp (91 : Nat)) 3, (some (89, false))⟩,
  ⟨(some 93), .pick (.tmp (89 : Nat)) (.const (.bool true)) (.tmp (92 : Nat)), none⟩]
def profile_table_r31 : List SO := [⟨(some 2), .assign (.const (.slice none 0 0)), none⟩,
  ⟨(some 3), .assign (.const (.int .i64 4)), none⟩]
def profile_table_r32 : List SO := [⟨(some 94), .move (.tmp (7 : Nat)), none⟩,
  ⟨(some 95), .call ⟨(.builtin .len), #[(.tmp (94 : Nat))], #[121]⟩, none⟩,
  ⟨(some 96), .move (.const (.int .i64 0)), none⟩]
def profile_table_r33 : List SO := [⟨(some 97), .binOp .lss 3 (.tmp (96 : Nat)) (.tmp (95 : Nat)) 3, none⟩]
def profile_table_r34 : List SO := [⟨(some 98), .indexAddr 121 (.tmp (94 : Nat)) (.tmp (96 : Nat)), none⟩,
  ⟨(some 99), .load 125 (.tmp (98 : Nat)), none⟩,
  ⟨(some 16), .alloc 125, none⟩,
  ⟨none, .store 125 (.tmp (16 : Nat)) (.tmp (99 : Nat)), none⟩]
def profile_table_r35 : List SO := [⟨(some 100), .fieldAddr 125 (.tmp (16 : Nat)) 0, none⟩,
  ⟨(some 101), .load 9 (.tmp (100 : Nat)), none⟩,
  ⟨(some 102), .fieldAddr 125 (.tmp (12 : Nat)) 0, none⟩,
  ⟨(some 103), .load 9 (.tmp (102 : Nat)), none⟩,
  ⟨(some 104), .binOp .eql 9 (.tmp (101 : Nat)) (.tmp (103 : Nat)) 9, none⟩]
def profile_table_r36 : List SO := [⟨(some 2), .assign (.const (.slice none 0 0)), none⟩,
  ⟨(some 3), .assign (.const (.int .i64 7)), none⟩]
def profile_table_r37 : List SO := [⟨(some 105), .binOp .add 3 (.tmp (96 : Nat)) (.const (.int .i64 1)) 3, none⟩,
  ⟨(some 96), .move (.tmp (105 : Nat)), none⟩]
def profile_table_r38 : List SO := [⟨(some 106), .move (.tmp (7 : Nat)), none⟩,
  ⟨(some 107), .call ⟨(.builtin .len), #[(.tmp (106 : Nat))], #[121]⟩, none⟩,
  ⟨(some 108), .move (.const (.int .i64 0)), none⟩]
def profile_table_r39 : List SO := [⟨(some 109), .binOp .lss 3 (.tmp (108 : Nat)) (.tmp (107 : Nat)) 3, none⟩]
def profile_table_r40 : List SO := [⟨(some 110), .move (.tmp (108 : Nat)), none⟩,
  ⟨(some 17), .assign (.tmp (110 : Nat)), none⟩]
def profile_table_r41 : List SO := [⟨(some 111), .move (.tmp (13 : Nat)), none⟩,
  ⟨(some 112), .move (.tmp (8 : Nat)), none⟩,
  ⟨(some 113), .move (.tmp (17 : Nat)), none⟩,
  ⟨(some 114), .indexAddr 23 (.tmp (112 : Nat)) (.tmp (113 : Nat)), none⟩,
  ⟨(some 115), .load 3 (.tmp (114 : Nat)), none⟩,
  ⟨(some 116), .call ⟨(.builtin .max), #[(.tmp (111 : Nat)), (.tmp (115 : Nat))], #[3, 3]⟩, none⟩,
  ⟨(some 117), .move (.tmp (13 : Nat)), none⟩,
  ⟨(some 118), .move (.tmp (14 : Nat)), none⟩,
  ⟨(some 119), .binOp .add 3 (.tmp (117 : Nat)) (.tmp (118 : Nat)) 3, none⟩,
  ⟨(some 120), .move (.tmp (9 : Nat)), none⟩,
  ⟨(some 121), .move (.tmp (17 : Nat)), none⟩,
  ⟨(some 122), .indexAddr 23 (.tmp (120 : Nat)) (.tmp (121 : Nat)), none⟩,
  ⟨(some 123), .load 3 (.tmp (122 : Nat)), none⟩,
  ⟨(some 124), .call ⟨(.builtin .min), #[(.tmp (119 : Nat)), (.tmp (123 : Nat))], #[3, 3]⟩, none⟩,
  ⟨(some 125), .binOp .lss 3 (.tmp (116 : Nat)) (.tmp (124 : Nat)) 3, none⟩]
def profile_table_a41 : List (List Nat) := [[], [], [], [1, 2], [3], [0, 4], [], [], [6, 7], [], [], [9, 10], [11], [8, 12], [5, 13]]
def profile_table_r42 : List SO := [⟨(some 2), .assign (.const (.slice none 0 0)), none⟩,
  ⟨(some 3), .assign (.const (.int .i64 4)), none⟩]
def profile_table_r43 : List SO := [⟨(some 126), .binOp .add 3 (.tmp (108 : Nat)) (.const (.int .i64 1)) 3, none⟩,
  ⟨(some 108), .move (.tmp (126 : Nat)), none⟩]
def profile_table_r44 : List SO := [⟨(some 127), .move (.tmp (0 : Nat)), none⟩,
  ⟨(some 128), .move (.tmp (13 : Nat)), none⟩,
  ⟨(some 129), .move (.tmp (13 : Nat)), none⟩,
  ⟨(some 130), .move (.tmp (14 : Nat)), none⟩,
  ⟨(some 131), .binOp .add 3 (.tmp (129 : Nat)) (.tmp (130 : Nat)) 3, none⟩,
  ⟨(some 132), .slice 71 (.tmp (127 : Nat)) (some (.tmp (128 : Nat))) (some (.tmp (131 : Nat))) none, none⟩,
  ⟨(some 133), .fieldAddr 125 (.tmp (12 : Nat)) 1, none⟩,
  ⟨none, .store 71 (.tmp (133 : Nat)) (.tmp (132 : Nat)), none⟩]
def profile_table_r45 : List SO := [⟨(some 134), .move (.tmp (7 : Nat)), none⟩,
  ⟨(some 135), .load 125 (.tmp (12 : Nat)), none⟩,
  ⟨(some 136), .buildSlice 121 1 #[(0, (.tmp (135 : Nat)))], none⟩,
  ⟨(some 137), .call ⟨(.builtin .append), #[(.tmp (134 : Nat)), (.tmp (136 : Nat))], #[121, 121]⟩, none⟩,
  ⟨(some 138), .move (.tmp (8 : Nat)), none⟩,
  ⟨(some 139), .move (.tmp (13 : Nat)), none⟩,
  ⟨(some 140), .buildSlice 23 1 #[(0, (.tmp (139 : Nat)))], none⟩,
  ⟨(some 141), .call ⟨(.builtin .append), #[(.tmp (138 : Nat)), (.tmp (140 : Nat))], #[23, 23]⟩, none⟩,
  ⟨(some 142), .move (.tmp (9 : Nat)), none⟩,
  ⟨(some 143), .move (.tmp (13 : Nat)), none⟩,
  ⟨(some 144), .move (.tmp (14 : Nat)), none⟩,
  ⟨(some 145), .binOp .add 3 (.tmp (143 : Nat)) (.tmp (144 : Nat)) 3, none⟩,
  ⟨(some 146), .buildSlice 23 1 #[(0, (.tmp (145 : Nat)))], none⟩,
  ⟨(some 147), .call ⟨(.builtin .append), #[(.tmp (142 : Nat)), (.tmp (146 : Nat))], #[23, 23]⟩, none⟩,
  ⟨(some 7), .assign (.tmp (137 : Nat)), none⟩,
  ⟨(some 8), .assign (.tmp (141 : Nat)), none⟩,
  ⟨(some 9), .assign (.tmp (147 : Nat)), none⟩]
def profile_table_r46 : List SO := [⟨(some 148), .binOp .add 3 (.tmp (61 : Nat)) (.const (.int .i64 1)) 3, none⟩,
  ⟨(some 61), .move (.tmp (148 : Nat)), none⟩]
def profile_table_r47 : List SO := [⟨(some 149), .move (.tmp (7 : Nat)), none⟩,
  ⟨(some 2), .assign (.tmp (149 : Nat)), none⟩,
  ⟨(some 3), .assign (.const (.int .i64 0)), none⟩]
def profile_table_c : SF := ⟨150, (.seq (.reg profile_table_r0)
  (.seq (.seq (.reg profile_table_r1)
  (.cond (.tmp (20 : Nat)) (.seq (.reg profile_table_r2)
  .ret) .skip))
  (.seq (.seq (.reg profile_table_r3)
  (.cond (.tmp (23 : Nat)) (.seq (.reg profile_table_r4)
  .ret) .skip))
  (.seq (.seq (.reg profile_table_r5)
  (.cond (.tmp (27 : Nat)) (.seq (.reg profile_table_r6)
  .ret) .skip))
  (.seq (.seq (.reg profile_table_r7)
  (.block 0 (.seq (.reg profile_table_r8)
  (.cond (.tmp (31 : Nat)) (.seq (.reg profile_table_r9)
  .ret) (.seq (.reg profile_table_r10)
  (.cond (.tmp (36 : Nat)) (.seq (.reg profile_table_r11)
  .ret) .skip))))))
  (.seq (.seq (.regd profile_table_r12 profile_table_a12)
  (.cond (.tmp (47 : Nat)) (.seq (.reg profile_table_r13)
  .ret) .skip))
  (.seq (.reg profile_table_r14)
  (.seq (.seq (.reg profile_table_r15)
  (.cond (.tmp (52 : Nat)) (.seq (.reg profile_table_r16)
  .ret) .skip))
  (.seq (.reg profile_table_r17)
  (.seq (.seq (.reg profile_table_r18)
  (.cond (.tmp (59 : Nat)) (.seq (.reg profile_table_r19)
  .ret) .skip))
  (.seq (.reg profile_table_r20)
  (.seq (.reg profile_table_r21)
  (.seq (.seq (.reg profile_table_r22)
  (.block 1 (.loop (.seq (.reg profile_table_r23)
  (.seq (.cond (.tmp (62 : Nat)) .skip (.exit 1))
  (.seq (.block 2 (.seq (.reg profile_table_r24)
  (.seq (.reg profile_table_r25)
  (.seq (.reg profile_table_r26)
  (.seq (.regd profile_table_r27 profile_table_a27)
  (.seq (.seq (.reg profile_table_r28)
  (.cond (.tmp (85 : Nat)) (.seq (.reg profile_table_r29)
  .ret) .skip))
  (.seq (.seq (.reg profile_table_r30)
  (.cond (.tmp (93 : Nat)) (.seq (.reg profile_table_r31)
  .ret) .skip))
  (.seq (.seq (.reg profile_table_r32)
  (.block 3 (.loop (.seq (.reg profile_table_r33)
  (.seq (.cond (.tmp (97 : Nat)) .skip (.exit 3))
  (.seq (.block 4 (.seq (.reg profile_table_r34)
  (.seq (.reg profile_table_r35)
  (.cond (.tmp (104 : Nat)) (.seq (.reg profile_table_r36)
  .ret) .skip))))
  (.reg profile_table_r37)))))))
  (.seq (.seq (.reg profile_table_r38)
  (.block 5 (.loop (.seq (.reg profile_table_r39)
  (.seq (.cond (.tmp (109 : Nat)) .skip (.exit 5))
  (.seq (.block 6 (.seq (.reg profile_table_r40)
  (.seq (.regd profile_table_r41 profile_table_a41)
  (.cond (.tmp (125 : Nat)) (.seq (.reg profile_table_r42)
  .ret) .skip))))
  (.reg profile_table_r43)))))))
  (.seq (.reg profile_table_r44)
  (.reg profile_table_r45)))))))))))
  (.reg profile_table_r46)))))))
  (.seq (.reg profile_table_r47)
  .ret)))))))))))))), [.tmp 2, .tmp 3]⟩
theorem profile_table_s : slimF Try.prog 73 = some profile_table_c := by kernel_rfl
/-- printworks/profile.Decode$1 -/
def profile_Decode_1_r0 : List SO := [⟨(some 5), .call ⟨(.builtin .recover), #[], #[]⟩, none⟩,
  ⟨(some 2), .assign (.tmp (5 : Nat)), none⟩]
def profile_Decode_1_r1 : List SO := [⟨(some 6), .move (.tmp (2 : Nat)), none⟩,
  ⟨(some 7), .binOp .neq 20 (.tmp (6 : Nat)) (.const .nilIface) 20, none⟩]
def profile_Decode_1_r2 : List SO := [⟨(some 9), .move (.tmp (2 : Nat)), none⟩,
  ⟨(some 10), .typeAssert (.tmp (9 : Nat)) 20 127 true, none⟩,
  ⟨(some 8), .move (.tmp (10 : Nat)), none⟩,
  ⟨(some 11), .extract (.tmp (8 : Nat)) 0, none⟩,
  ⟨(some 12), .extract (.tmp (8 : Nat)) 1, none⟩,
  ⟨(some 3), .alloc 127, none⟩,
  ⟨none, .store 127 (.tmp (3 : Nat)) (.tmp (11 : Nat)), none⟩,
  ⟨(some 4), .assign (.tmp (12 : Nat)), none⟩]
def profile_Decode_1_r3 : List SO := [⟨(some 13), .move (.tmp (4 : Nat)), none⟩,
  ⟨(some 14), .unOp .not 4 (.tmp (13 : Nat)), none⟩]
def profile_Decode_1_r4 : List SO := [⟨(some 15), .move (.tmp (2 : Nat)), none⟩,
  ⟨none, .panic (.tmp (15 : Nat)), none⟩]
def profile_Decode_1_r5 : List SO := [⟨(some 16), .build 62 #[], none⟩,
  ⟨none, .store 62 (.tmp (0 : Nat)) (.tmp (16 : Nat)), none⟩,
  ⟨none, .store 33 (.tmp (1 : Nat)) (.const (.int .i64 4)), none⟩]
def profile_Decode_1_c : SF := ⟨17, (.seq (.reg profile_Decode_1_r0)
  (.seq (.reg profile_Decode_1_r1)
  (.cond (.tmp (7 : Nat)) (.seq (.seq (.reg profile_Decode_1_r2)
  (.seq (.reg profile_Decode_1_r3)
  (.cond (.tmp (14 : Nat)) (.reg profile_Decode_1_r4) .skip)))
  (.reg profile_Decode_1_r5)) .skip))), []⟩
theorem profile_Decode_1_s : slimF Try.prog 74 = some profile_Decode_1_c := by kernel_rfl
/-- (*printworks/profile.reader).take -/
def __profile_reader__take_r0 : List SO := [⟨(some 4), .assign (.const (.slice none 0 0)), none⟩]
def __profile_reader__take_r1 : List SO := [⟨(some 6), .move (.tmp (1 : Nat)), none⟩,
  ⟨(some 7), .move (.tmp (0 : Nat)), none⟩,
  ⟨(some 8), .nilCheck (.tmp (7 : Nat)), none⟩,
  ⟨(some 9), .fieldAddr 130 (.tmp (8 : Nat)) 0, none⟩,
  ⟨(some 10), .load 71 (.tmp (9 : Nat)), none⟩,
  ⟨(some 11), .call ⟨(.builtin .len), #[(.tmp (10 : Nat))], #[71]⟩, none⟩,
  ⟨(some 12), .binOp .gtr 3 (.tmp (6 : Nat)) (.tmp (11 : Nat)) 3, none⟩]
def __profile_reader__take_r2 : List SO := [⟨(some 13), .build 127 #[], none⟩,
  ⟨(some 14), .makeInterface 127 (.tmp (13 : Nat)), none⟩,
  ⟨none, .panic (.tmp (14 : Nat)), none⟩]
def __profile_reader__take_r3 : List SO := [⟨(some 15), .move (.tmp (0 : Nat)), none⟩,
  ⟨(some 16), .nilCheck (.tmp (15 : Nat)), none⟩,
  ⟨(some 17), .fieldAddr 130 (.tmp (16 : Nat)) 0, none⟩,
  ⟨(some 18), .load 71 (.tmp (17 : Nat)), none⟩,
  ⟨(some 19), .move (.tmp (1 : Nat)), none⟩,
  ⟨(some 20), .slice 71 (.tmp (18 : Nat)) none (some (.tmp (19 : Nat))) none, none⟩,
  ⟨(some 5), .assign (.tmp (20 : Nat)), none⟩]
def __profile_reader__take_r4 : List SO := [⟨(some 21), .move (.tmp (0 : Nat)), none⟩,
  ⟨(some 22), .move (.tmp (0 : Nat)), none⟩,
  ⟨(some 23), .nilCheck (.tmp (22 : Nat)), none⟩,
  ⟨(some 24), .fieldAddr 130 (.tmp (23 : Nat)) 0, none⟩,
  ⟨(some 25), .load 71 (.tmp (24 : Nat)), none⟩,
  ⟨(some 26), .move (.tmp (1 : Nat)), none⟩,
  ⟨(some 27), .slice 71 (.tmp (25 : Nat)) (some (.tmp (26 : Nat))) none none, none⟩,
  ⟨(some 28), .nilCheck (.tmp (21 : Nat)), none⟩,
  ⟨(some 29), .fieldAddr 130 (.tmp (28 : Nat)) 0, none⟩,
  ⟨none, .store 71 (.tmp (29 : Nat)) (.tmp (27 : Nat)), none⟩]
def __profile_reader__take_r5 : List SO := [⟨(some 30), .move (.tmp (5 : Nat)), none⟩,
  ⟨(some 4), .assign (.tmp (30 : Nat)), none⟩]
def __profile_reader__take_c : SF := ⟨31, (.seq (.reg __profile_reader__take_r0)
  (.seq (.seq (.reg __profile_reader__take_r1)
  (.cond (.tmp (12 : Nat)) (.reg __profile_reader__take_r2) .skip))
  (.seq (.reg __profile_reader__take_r3)
  (.seq (.reg __profile_reader__take_r4)
  (.seq (.reg __profile_reader__take_r5)
  .ret))))), [.tmp 4]⟩
theorem __profile_reader__take_s : slimF Try.prog 75 = some __profile_reader__take_c := by kernel_rfl
/-- (*printworks/profile.reader).word -/
def __profile_reader__word_r0 : List SO := [⟨(some 2), .assign (.const (.int .i64 0)), none⟩]
def __profile_reader__word_r1 : List SO := [⟨(some 3), .move (.tmp (0 : Nat)), none⟩,
  ⟨(some 4), .call ⟨(.value (.func (75 : Nat))), #[(.tmp (3 : Nat)), (.const (.int .i64 2))], #[155, 3]⟩, none⟩,
  ⟨(some 5), .call ⟨(.value (.func (91 : Nat))), #[(.tmp (4 : Nat))], #[71]⟩, none⟩,
  ⟨(some 2), .assign (.tmp (5 : Nat)), none⟩]
def __profile_reader__word_c : SF := ⟨6, (.seq (.reg __profile_reader__word_r0)
  (.seq (.reg __profile_reader__word_r1)
  .ret)), [.tmp 2]⟩
theorem __profile_reader__word_s : slimF Try.prog 76 = some __profile_reader__word_c := by kernel_rfl
/-- printworks/profile.FineOne -/
def profile_FineOne_r0 : List SO := [⟨(some 6), .assign (.const (.int .i64 0)), none⟩]
def profile_FineOne_r1 : List SO := [⟨(some 7), .move (.tmp (0 : Nat)), none⟩,
  ⟨(some 8), .nilCheck (.tmp (7 : Nat)), none⟩,
  ⟨(some 9), .fieldAddr 62 (.tmp (8 : Nat)) 2, none⟩,
  ⟨(some 10), .load 60 (.tmp (9 : Nat)), none⟩,
  ⟨(some 11), .move (.tmp (1 : Nat)), none⟩,
  ⟨(some 12), .indexAddr 60 (.tmp (10 : Nat)) (.tmp (11 : Nat)), none⟩,
  ⟨(some 13), .load 46 (.tmp (12 : Nat)), none⟩,
  ⟨(some 14), .move (.tmp (2 : Nat)), none⟩,
  ⟨(some 15), .binOp .mul 3 (.const (.int .i64 256)) (.tmp (14 : Nat)) 3, none⟩,
  ⟨(some 16), .call ⟨(.value (.func (67 : Nat))), #[(.tmp (13 : Nat)), (.tmp (15 : Nat))], #[46, 3]⟩, none⟩,
  ⟨(some 6), .assign (.tmp (16 : Nat)), none⟩]
def profile_FineOne_c : SF := ⟨17, (.seq (.reg profile_FineOne_r0)
  (.seq (.reg profile_FineOne_r1)
  .ret)), [.tmp 6]⟩
theorem profile_FineOne_s : slimF Try.prog 89 = some profile_FineOne_c := by kernel_rfl
abbrev profile_FineOne_f : Nat := 89
/-- printworks/profile.Get32 -/
def profile_Get32_r0 : List SO := [⟨(some 2), .assign (.const (.int .i64 0)), none⟩]
def profile_Get32_r1 : List SO := [⟨(some 3), .move (.tmp (0 : Nat)), none⟩,
  ⟨(some 4), .call ⟨(.value (.func (91 : Nat))), #[(.tmp (3 : Nat))], #[71]⟩, none⟩,
  ⟨(some 5), .binOp .shl 3 (.tmp (4 : Nat)) (.const (.int .u64 16)) 153, none⟩,
  ⟨(some 6), .move (.tmp (0 : Nat)), none⟩,
  ⟨(some 7), .slice 71 (.tmp (6 : Nat)) (some (.const (.int .i64 2))) none none, none⟩,
  ⟨(some 8), .call ⟨(.value (.func (91 : Nat))), #[(.tmp (7 : Nat))], #[71]⟩, none⟩,
  ⟨(some 9), .binOp .or 3 (.tmp (5 : Nat)) (.tmp (8 : Nat)) 3, none⟩,
  ⟨(some 2), .assign (.tmp (9 : Nat)), none⟩]
def profile_Get32_a1 : List (List Nat) := [[], [0], [1], [], [3], [4, 1], [2, 5], [6, 5, 0, 1, 2, 3, 4, 5, 6]]
def profile_Get32_c : SF := ⟨10, (.seq (.reg profile_Get32_r0)
  (.seq (.regd profile_Get32_r1 profile_Get32_a1)
  .ret)), [.tmp 2]⟩
theorem profile_Get32_s : slimF Try.prog 90 = some profile_Get32_c := by kernel_rfl
/-- printworks/profile.Get16 -/
def profile_Get16_r0 : List SO := [⟨(some 2), .assign (.const (.int .i64 0)), none⟩]
def profile_Get16_r1 : List SO := [⟨(some 3), .move (.tmp (0 : Nat)), none⟩,
  ⟨(some 4), .indexAddr 71 (.tmp (3 : Nat)) (.const (.int .i64 0)), none⟩,
  ⟨(some 5), .load 5 (.tmp (4 : Nat)), none⟩,
  ⟨(some 6), .convert 5 3 (.tmp (5 : Nat)), none⟩,
  ⟨(some 7), .binOp .shl 3 (.tmp (6 : Nat)) (.const (.int .u64 8)) 153, none⟩,
  ⟨(some 8), .move (.tmp (0 : Nat)), none⟩,
  ⟨(some 9), .indexAddr 71 (.tmp (8 : Nat)) (.const (.int .i64 1)), none⟩,
  ⟨(some 10), .load 5 (.tmp (9 : Nat)), none⟩,
  ⟨(some 11), .convert 5 3 (.tmp (10 : Nat)), none⟩,
  ⟨(some 12), .binOp .or 3 (.tmp (7 : Nat)) (.tmp (11 : Nat)) 3, none⟩,
  ⟨(some 2), .assign (.tmp (12 : Nat)), none⟩]
def profile_Get16_a1 : List (List Nat) := [[], [0], [1], [2], [3], [], [5], [6], [7], [4, 8], [9, 0, 1, 2, 3, 4, 5, 6, 7, 8, 9]]
def profile_Get16_c : SF := ⟨13, (.seq (.reg profile_Get16_r0)
  (.seq (.regd profile_Get16_r1 profile_Get16_a1)
  .ret)), [.tmp 2]⟩
theorem profile_Get16_s : slimF Try.prog 91 = some profile_Get16_c := by kernel_rfl
def tbl_profile : List (Nat × SF) := [(26, profile_Forward_c), (29, profile_Exact_c), (32, profile_Encode_c), (33, profile_Check_c), (34, profile_Decode_c), (41, profile_Names_c), (48, profile_Tones_c), (60, profile_Quick_c), (62, profile_Tags_c), (64, profile_Sum_c), (65, profile_Fine_c), (69, profile_Put16_c), (70, profile_signatures_c), (71, profile_Put32_c), (72, profile_IsName_c), (73, profile_table_c), (74, profile_Decode_1_c), (75, __profile_reader__take_c), (76, __profile_reader__word_c), (89, profile_FineOne_c), (90, profile_Get32_c), (91, profile_Get16_c)]
theorem tbl_profile_ok : okT Try.prog tbl_profile := ⟨profile_Forward_s, profile_Exact_s, profile_Encode_s, profile_Check_s, profile_Decode_s, profile_Names_s, profile_Tones_s, profile_Quick_s, profile_Tags_s, profile_Sum_s, profile_Fine_s, profile_Put16_s, profile_signatures_s, profile_Put32_s, profile_IsName_s, profile_table_s, profile_Decode_1_s, __profile_reader__take_s, __profile_reader__word_s, profile_FineOne_s, profile_Get32_s, profile_Get16_s, trivial⟩

end Go.Proofs.Ytogbkhopanaoiaa
namespace Go.Proofs.Ytogbkhopanaoiaa
open Go Go.Lite
set_option linter.unusedVariables false

end Go.Proofs.Ytogbkhopanaoiaa
namespace Go.Proofs.Ytogbkhopanaoiaa
open Go Go.Lite
set_option linter.unusedVariables false

/-- printworks/grid.Scaled -/
def grid_Scaled_r0 : List SO := [⟨(some 2), .box 25 (.tmp (0 : Nat)), none⟩,
  ⟨(some 4), .assign (.const (.slice none 0 0)), none⟩,
  ⟨(some 5), .assign (.const (.int .i64 0)), none⟩]
def grid_Scaled_r1 : List SO := [⟨(some 8), .load 25 (.tmp (2 : Nat)), none⟩,
  ⟨(some 9), .call ⟨(.value (.func (56 : Nat))), #[(.tmp (8 : Nat))], #[25]⟩, none⟩,
  ⟨(some 6), .assign (.tmp (9 : Nat)), none⟩]
def grid_Scaled_r2 : List SO := [⟨(some 10), .move (.tmp (6 : Nat)), none⟩,
  ⟨(some 11), .binOp .neq 33 (.tmp (10 : Nat)) (.const (.int .i64 0)) 33, none⟩]
def grid_Scaled_r3 : List SO := [⟨(some 12), .move (.tmp (6 : Nat)), none⟩,
  ⟨(some 4), .assign (.const (.slice none 0 0)), none⟩,
  ⟨(some 5), .assign (.tmp (12 : Nat)), none⟩]
def grid_Scaled_r4 : List SO := [⟨(some 13), .move (.tmp (1 : Nat)), none⟩,
  ⟨(some 14), .call ⟨(.value (.func (57 : Nat))), #[(.tmp (2 : Nat)), (.tmp (13 : Nat))], #[82, 23]⟩, none⟩,
  ⟨(some 7), .assign (.tmp (14 : Nat)), none⟩]
def grid_Scaled_r5 : List SO := [⟨(some 15), .move (.tmp (7 : Nat)), none⟩,
  ⟨(some 16), .binOp .neq 33 (.tmp (15 : Nat)) (.const (.int .i64 0)) 33, none⟩]
def grid_Scaled_r6 : List SO := [⟨(some 17), .move (.tmp (7 : Nat)), none⟩,
  ⟨(some 4), .assign (.const (.slice none 0 0)), none⟩,
  ⟨(some 5), .assign (.tmp (17 : Nat)), none⟩]
def grid_Scaled_r7 : List SO := [⟨(some 18), .move (.tmp (1 : Nat)), none⟩,
  ⟨(some 19), .call ⟨(.value (.func (58 : Nat))), #[(.tmp (2 : Nat)), (.tmp (18 : Nat))], #[82, 23]⟩, none⟩,
  ⟨(some 4), .assign (.tmp (19 : Nat)), none⟩,
  ⟨(some 5), .assign (.const (.int .i64 0)), none⟩]
def grid_Scaled_c : SF := ⟨20, (.seq (.reg grid_Scaled_r0)
  (.seq (.seq (.reg grid_Scaled_r1)
  (.seq (.reg grid_Scaled_r2)
  (.cond (.tmp (11 : Nat)) (.seq (.reg grid_Scaled_r3)
  .ret) .skip)))
  (.seq (.seq (.reg grid_Scaled_r4)
  (.seq (.reg grid_Scaled_r5)
  (.cond (.tmp (16 : Nat)) (.seq (.reg grid_Scaled_r6)
  .ret) .skip)))
  (.seq (.reg grid_Scaled_r7)
  .ret)))), [.tmp 4, .tmp 5]⟩
theorem grid_Scaled_s : slimF Try.prog 21 = some grid_Scaled_c := by kernel_rfl
/-- printworks/grid.Step -/
def grid_Step_r0 : List SO := [⟨(some 1), .box 25 (.tmp (0 : Nat)), none⟩,
  ⟨(some 2), .assign (.const (.int .i64 0)), none⟩,
  ⟨(some 3), .assign (.const (.int .i64 0)), none⟩]
def grid_Step_r1 : List SO := [⟨(some 5), .load 25 (.tmp (1 : Nat)), none⟩,
  ⟨(some 6), .call ⟨(.value (.func (56 : Nat))), #[(.tmp (5 : Nat))], #[25]⟩, none⟩,
  ⟨(some 4), .assign (.tmp (6 : Nat)), none⟩]
def grid_Step_r2 : List SO := [⟨(some 7), .move (.tmp (4 : Nat)), none⟩,
  ⟨(some 8), .binOp .neq 33 (.tmp (7 : Nat)) (.const (.int .i64 0)) 33, none⟩]
def grid_Step_r3 : List SO := [⟨(some 9), .move (.tmp (4 : Nat)), none⟩,
  ⟨(some 2), .assign (.const (.int .i64 0)), none⟩,
  ⟨(some 3), .assign (.tmp (9 : Nat)), none⟩]
def grid_Step_r4 : List SO := [⟨(some 10), .fieldAddr 25 (.tmp (1 : Nat)) 2, none⟩,
  ⟨(some 11), .load 3 (.tmp (10 : Nat)), none⟩,
  ⟨(some 12), .binOp .sub 3 (.tmp (11 : Nat)) (.const (.int .i64 1)) 3, none⟩,
  ⟨(some 13), .binOp .quo 3 (.const (.int .i64 65280)) (.tmp (12 : Nat)) 3, none⟩,
  ⟨(some 2), .assign (.tmp (13 : Nat)), none⟩,
  ⟨(some 3), .assign (.const (.int .i64 0)), none⟩]
def grid_Step_c : SF := ⟨14, (.seq (.reg grid_Step_r0)
  (.seq (.seq (.reg grid_Step_r1)
  (.seq (.reg grid_Step_r2)
  (.cond (.tmp (8 : Nat)) (.seq (.reg grid_Step_r3)
  .ret) .skip)))
  (.seq (.reg grid_Step_r4)
  .ret))), [.tmp 2, .tmp 3]⟩
theorem grid_Step_s : slimF Try.prog 22 = some grid_Step_c := by kernel_rfl
/-- printworks/grid.At -/
def grid_At_r0 : List SO := [⟨(some 2), .box 25 (.tmp (0 : Nat)), none⟩,
  ⟨(some 4), .assign (.const (.slice none 0 0)), none⟩,
  ⟨(some 5), .assign (.const (.int .i64 0)), none⟩]
def grid_At_r1 : List SO := [⟨(some 8), .load 25 (.tmp (2 : Nat)), none⟩,
  ⟨(some 9), .call ⟨(.value (.func (56 : Nat))), #[(.tmp (8 : Nat))], #[25]⟩, none⟩,
  ⟨(some 6), .assign (.tmp (9 : Nat)), none⟩]
def grid_At_r2 : List SO := [⟨(some 10), .move (.tmp (6 : Nat)), none⟩,
  ⟨(some 11), .binOp .neq 33 (.tmp (10 : Nat)) (.const (.int .i64 0)) 33, none⟩]
def grid_At_r3 : List SO := [⟨(some 12), .move (.tmp (6 : Nat)), none⟩,
  ⟨(some 4), .assign (.const (.slice none 0 0)), none⟩,
  ⟨(some 5), .assign (.tmp (12 : Nat)), none⟩]
def grid_At_r4 : List SO := [⟨(some 13), .move (.tmp (1 : Nat)), none⟩,
  ⟨(some 14), .call ⟨(.value (.func (57 : Nat))), #[(.tmp (2 : Nat)), (.tmp (13 : Nat))], #[82, 23]⟩, none⟩,
  ⟨(some 7), .assign (.tmp (14 : Nat)), none⟩]
def grid_At_r5 : List SO := [⟨(some 15), .move (.tmp (7 : Nat)), none⟩,
  ⟨(some 16), .binOp .neq 33 (.tmp (15 : Nat)) (.const (.int .i64 0)) 33, none⟩]
def grid_At_r6 : List SO := [⟨(some 17), .move (.tmp (7 : Nat)), none⟩,
  ⟨(some 4), .assign (.const (.slice none 0 0)), none⟩,
  ⟨(some 5), .assign (.tmp (17 : Nat)), none⟩]
def grid_At_r7 : List SO := [⟨(some 18), .move (.tmp (1 : Nat)), none⟩,
  ⟨(some 19), .call ⟨(.value (.func (68 : Nat))), #[(.tmp (2 : Nat)), (.tmp (18 : Nat))], #[82, 23]⟩, none⟩,
  ⟨(some 4), .assign (.tmp (19 : Nat)), none⟩,
  ⟨(some 5), .assign (.const (.int .i64 0)), none⟩]
def grid_At_c : SF := ⟨20, (.seq (.reg grid_At_r0)
  (.seq (.seq (.reg grid_At_r1)
  (.seq (.reg grid_At_r2)
  (.cond (.tmp (11 : Nat)) (.seq (.reg grid_At_r3)
  .ret) .skip)))
  (.seq (.seq (.reg grid_At_r4)
  (.seq (.reg grid_At_r5)
  (.cond (.tmp (16 : Nat)) (.seq (.reg grid_At_r6)
  .ret) .skip)))
  (.seq (.reg grid_At_r7)
  .ret)))), [.tmp 4, .tmp 5]⟩
theorem grid_At_s : slimF Try.prog 31 = some grid_At_c := by kernel_rfl
/-- printworks/grid.Check -/
def grid_Check_r0 : List SO := [⟨(some 1), .box 25 (.tmp (0 : Nat)), none⟩,
  ⟨(some 2), .assign (.const (.int .i64 0)), none⟩]
def grid_Check_r1 : List SO := [⟨(some 8), .fieldAddr 25 (.tmp (1 : Nat)) 0, none⟩,
  ⟨(some 9), .load 3 (.tmp (8 : Nat)), none⟩,
  ⟨(some 10), .fieldAddr 25 (.tmp (1 : Nat)) 1, none⟩,
  ⟨(some 11), .load 3 (.tmp (10 : Nat)), none⟩,
  ⟨(some 12), .fieldAddr 25 (.tmp (1 : Nat)) 2, none⟩,
  ⟨(some 13), .load 3 (.tmp (12 : Nat)), none⟩,
  ⟨(some 14), .call ⟨(.value (.func (87 : Nat))), #[(.tmp (9 : Nat)), (.tmp (11 : Nat)), (.tmp (13 : Nat))], #[3, 3, 3]⟩, none⟩,
  ⟨(some 7), .move (.tmp (14 : Nat)), none⟩,
  ⟨(some 15), .extract (.tmp (7 : Nat)) 0, none⟩,
  ⟨(some 16), .extract (.tmp (7 : Nat)) 1, none⟩,
  ⟨(some 3), .assign (.tmp (15 : Nat)), none⟩,
  ⟨(some 4), .assign (.tmp (16 : Nat)), none⟩]
def grid_Check_r2 : List SO := [⟨(some 17), .move (.tmp (4 : Nat)), none⟩,
  ⟨(some 18), .binOp .neq 33 (.tmp (17 : Nat)) (.const (.int .i64 0)) 33, none⟩]
def grid_Check_r3 : List SO := [⟨(some 19), .move (.tmp (4 : Nat)), none⟩,
  ⟨(some 2), .assign (.tmp (19 : Nat)), none⟩]
def grid_Check_r4 : List SO := [⟨(some 20), .fieldAddr 25 (.tmp (1 : Nat)) 3, none⟩,
  ⟨(some 21), .load 23 (.tmp (20 : Nat)), none⟩,
  ⟨(some 22), .call ⟨(.builtin .len), #[(.tmp (21 : Nat))], #[23]⟩, none⟩,
  ⟨(some 23), .move (.tmp (3 : Nat)), none⟩,
  ⟨(some 24), .fieldAddr 25 (.tmp (1 : Nat)) 1, none⟩,
  ⟨(some 25), .load 3 (.tmp (24 : Nat)), none⟩,
  ⟨(some 26), .binOp .mul 3 (.tmp (23 : Nat)) (.tmp (25 : Nat)) 3, none⟩,
  ⟨(some 27), .binOp .neq 3 (.tmp (22 : Nat)) (.tmp (26 : Nat)) 3, none⟩]
def grid_Check_r5 : List SO := [⟨(some 2), .assign (.const (.int .i64 4)), none⟩]
def grid_Check_r6 : List SO := [⟨(some 28), .fieldAddr 25 (.tmp (1 : Nat)) 3, none⟩,
  ⟨(some 29), .load 23 (.tmp (28 : Nat)), none⟩,
  ⟨(some 30), .call ⟨(.builtin .len), #[(.tmp (29 : Nat))], #[23]⟩, none⟩,
  ⟨(some 31), .move (.const (.int .i64 0)), none⟩]
def grid_Check_r7 : List SO := [⟨(some 32), .binOp .lss 3 (.tmp (31 : Nat)) (.tmp (30 : Nat)) 3, none⟩]
def grid_Check_r8 : List SO := [⟨(some 33), .indexAddr 23 (.tmp (29 : Nat)) (.tmp (31 : Nat)), none⟩,
  ⟨(some 34), .load 3 (.tmp (33 : Nat)), none⟩,
  ⟨(some 6), .assign (.tmp (34 : Nat)), none⟩]
def grid_Check_r9 : List SO := [⟨(some 35), .move (.tmp (6 : Nat)), none⟩,
  ⟨(some 36), .binOp .lss 3 (.tmp (35 : Nat)) (.const (.int .i64 (-32768))) 3, none⟩,
  ⟨(some 37), .move (.tmp (36 : Nat)), none⟩,
  ⟨(some 38), .move (.tmp (6 : Nat)), (some (37, false))⟩,
  ⟨(some 39), .binOp .gtr 3 (.tmp (38 : Nat)) (.const (.int .i64 65535)) 3, (some (37, false))⟩,
  ⟨(some 40), .pick (.tmp (37 : Nat)) (.const (.bool true)) (.tmp (39 : Nat)), none⟩]
def grid_Check_r10 : List SO := [⟨(some 2), .assign (.const (.int .i64 3)), none⟩]
def grid_Check_r11 : List SO := [⟨(some 41), .binOp .add 3 (.tmp (31 : Nat)) (.const (.int .i64 1)) 3, none⟩,
  ⟨(some 31), .move (.tmp (41 : Nat)), none⟩]
def grid_Check_r12 : List SO := [⟨(some 2), .assign (.const (.int .i64 0)), none⟩]
def grid_Check_c : SF := ⟨42, (.seq (.reg grid_Check_r0)
  (.seq (.reg grid_Check_r1)
  (.seq (.seq (.reg grid_Check_r2)
  (.cond (.tmp (18 : Nat)) (.seq (.reg grid_Check_r3)
  .ret) .skip))
  (.seq (.seq (.reg grid_Check_r4)
  (.cond (.tmp (27 : Nat)) (.seq (.reg grid_Check_r5)
  .ret) .skip))
  (.seq (.seq (.reg grid_Check_r6)
  (.block 0 (.loop (.seq (.reg grid_Check_r7)
  (.seq (.cond (.tmp (32 : Nat)) .skip (.exit 0))
  (.seq (.block 1 (.seq (.reg grid_Check_r8)
  (.seq (.reg grid_Check_r9)
  (.cond (.tmp (40 : Nat)) (.seq (.reg grid_Check_r10)
  .ret) .skip))))
  (.reg grid_Check_r11)))))))
  (.seq (.reg grid_Check_r12)
  .ret)))))), [.tmp 2]⟩
theorem grid_Check_s : slimF Try.prog 56 = some grid_Check_c := by kernel_rfl
abbrev grid_Check_f : Nat := 56
/-- printworks/grid.inputs -/
def grid_inputs_r0 : List SO := [⟨(some 4), .assign (.const (.int .i64 0)), none⟩]
def grid_inputs_r1 : List SO := [⟨(some 7), .move (.tmp (1 : Nat)), none⟩,
  ⟨(some 8), .call ⟨(.builtin .len), #[(.tmp (7 : Nat))], #[23]⟩, none⟩,
  ⟨(some 9), .move (.tmp (0 : Nat)), none⟩,
  ⟨(some 10), .nilCheck (.tmp (9 : Nat)), none⟩,
  ⟨(some 11), .fieldAddr 25 (.tmp (10 : Nat)) 0, none⟩,
  ⟨(some 12), .load 3 (.tmp (11 : Nat)), none⟩,
  ⟨(some 13), .binOp .neq 3 (.tmp (8 : Nat)) (.tmp (12 : Nat)) 3, none⟩]
def grid_inputs_r2 : List SO := [⟨(some 4), .assign (.const (.int .i64 4)), none⟩]
def grid_inputs_r3 : List SO := [⟨(some 14), .move (.tmp (1 : Nat)), none⟩,
  ⟨(some 15), .call ⟨(.builtin .len), #[(.tmp (14 : Nat))], #[23]⟩, none⟩,
  ⟨(some 16), .move (.const (.int .i64 0)), none⟩]
def grid_inputs_r4 : List SO := [⟨(some 17), .binOp .lss 3 (.tmp (16 : Nat)) (.tmp (15 : Nat)) 3, none⟩]
def grid_inputs_r5 : List SO := [⟨(some 18), .indexAddr 23 (.tmp (14 : Nat)) (.tmp (16 : Nat)), none⟩,
  ⟨(some 19), .load 3 (.tmp (18 : Nat)), none⟩,
  ⟨(some 6), .assign (.tmp (19 : Nat)), none⟩]
def grid_inputs_r6 : List SO := [⟨(some 20), .move (.tmp (6 : Nat)), none⟩,
  ⟨(some 21), .binOp .lss 3 (.tmp (20 : Nat)) (.const (.int .i64 0)) 3, none⟩,
  ⟨(some 22), .move (.tmp (21 : Nat)), none⟩,
  ⟨(some 23), .move (.tmp (6 : Nat)), (some (22, false))⟩,
  ⟨(some 24), .binOp .gtr 3 (.tmp (23 : Nat)) (.const (.int .i64 65280)) 3, (some (22, false))⟩,
  ⟨(some 25), .pick (.tmp (22 : Nat)) (.const (.bool true)) (.tmp (24 : Nat)), none⟩]
def grid_inputs_r7 : List SO := [⟨(some 4), .assign (.const (.int .i64 3)), none⟩]
def grid_inputs_r8 : List SO := [⟨(some 26), .binOp .add 3 (.tmp (16 : Nat)) (.const (.int .i64 1)) 3, none⟩,
  ⟨(some 16), .move (.tmp (26 : Nat)), none⟩]
def grid_inputs_r9 : List SO := [⟨(some 4), .assign (.const (.int .i64 0)), none⟩]
def grid_inputs_c : SF := ⟨27, (.seq (.reg grid_inputs_r0)
  (.seq (.seq (.reg grid_inputs_r1)
  (.cond (.tmp (13 : Nat)) (.seq (.reg grid_inputs_r2)
  .ret) .skip))
  (.seq (.seq (.reg grid_inputs_r3)
  (.block 0 (.loop (.seq (.reg grid_inputs_r4)
  (.seq (.cond (.tmp (17 : Nat)) .skip (.exit 0))
  (.seq (.block 1 (.seq (.reg grid_inputs_r5)
  (.seq (.reg grid_inputs_r6)
  (.cond (.tmp (25 : Nat)) (.seq (.reg grid_inputs_r7)
  .ret) .skip))))
  (.reg grid_inputs_r8)))))))
  (.seq (.reg grid_inputs_r9)
  .ret)))), [.tmp 4]⟩
theorem grid_inputs_s : slimF Try.prog 57 = some grid_inputs_c := by kernel_rfl
/-- printworks/grid.Raw -/
def grid_Raw_r0 : List SO := [⟨(some 4), .assign (.const (.slice none 0 0)), none⟩]
def grid_Raw_r1 : List SO := [⟨(some 20), .move (.tmp (0 : Nat)), none⟩,
  ⟨(some 21), .nilCheck (.tmp (20 : Nat)), none⟩,
  ⟨(some 22), .fieldAddr 25 (.tmp (21 : Nat)) 2, none⟩,
  ⟨(some 23), .load 3 (.tmp (22 : Nat)), none⟩,
  ⟨(some 24), .binOp .sub 3 (.tmp (23 : Nat)) (.const (.int .i64 1)) 3, none⟩,
  ⟨(some 25), .binOp .quo 3 (.const (.int .i64 65280)) (.tmp (24 : Nat)) 3, none⟩,
  ⟨(some 5), .assign (.tmp (25 : Nat)), none⟩]
def grid_Raw_r2 : List SO := [⟨(some 6), .alloc 150, none⟩,
  ⟨(some 7), .alloc 150, none⟩,
  ⟨(some 8), .alloc 150, none⟩]
def grid_Raw_r3 : List SO := [⟨(some 26), .move (.tmp (0 : Nat)), none⟩,
  ⟨(some 27), .nilCheck (.tmp (26 : Nat)), none⟩,
  ⟨(some 28), .fieldAddr 25 (.tmp (27 : Nat)) 0, none⟩,
  ⟨(some 29), .load 3 (.tmp (28 : Nat)), none⟩,
  ⟨(some 9), .assign (.tmp (29 : Nat)), none⟩]
def grid_Raw_r4 : List SO := [⟨(some 30), .move (.tmp (1 : Nat)), none⟩,
  ⟨(some 31), .call ⟨(.builtin .len), #[(.tmp (30 : Nat))], #[23]⟩, none⟩,
  ⟨(some 32), .move (.const (.int .i64 0)), none⟩]
def grid_Raw_r5 : List SO := [⟨(some 33), .binOp .lss 3 (.tmp (32 : Nat)) (.tmp (31 : Nat)) 3, none⟩]
def grid_Raw_r6 : List SO := [⟨(some 34), .move (.tmp (32 : Nat)), none⟩,
  ⟨(some 35), .indexAddr 23 (.tmp (30 : Nat)) (.tmp (32 : Nat)), none⟩,
  ⟨(some 36), .load 3 (.tmp (35 : Nat)), none⟩,
  ⟨(some 10), .assign (.tmp (34 : Nat)), none⟩,
  ⟨(some 11), .assign (.tmp (36 : Nat)), none⟩]
def grid_Raw_r7 : List SO := [⟨(some 37), .move (.tmp (10 : Nat)), none⟩,
  ⟨(some 38), .move (.tmp (10 : Nat)), none⟩,
  ⟨(some 39), .move (.tmp (11 : Nat)), none⟩,
  ⟨(some 40), .move (.tmp (5 : Nat)), none⟩,
  ⟨(some 41), .binOp .quo 3 (.tmp (39 : Nat)) (.tmp (40 : Nat)) 3, none⟩,
  ⟨(some 42), .move (.tmp (11 : Nat)), none⟩,
  ⟨(some 43), .move (.tmp (5 : Nat)), none⟩,
  ⟨(some 44), .binOp .rem 3 (.tmp (42 : Nat)) (.tmp (43 : Nat)) 3, none⟩,
  ⟨(some 45), .indexAddr 150 (.tmp (6 : Nat)) (.tmp (37 : Nat)), none⟩,
  ⟨none, .store 3 (.tmp (45 : Nat)) (.tmp (41 : Nat)), none⟩,
  ⟨(some 46), .indexAddr 150 (.tmp (7 : Nat)) (.tmp (38 : Nat)), none⟩,
  ⟨none, .store 3 (.tmp (46 : Nat)) (.tmp (44 : Nat)), none⟩]
def grid_Raw_a7 : List (List Nat) := [[], [], [], [], [2, 3], [], [], [5, 6], [0, 0, 2, 3, 4], [8, 4, 0, 2, 3, 4], [1, 0, 1, 2, 3, 4, 5, 6, 7, 8, 9], [10, 7, 9, 0, 1, 2, 3, 4, 5, 6, 7, 8, 9]]
def grid_Raw_r8 : List SO := [⟨(some 47), .move (.tmp (10 : Nat)), none⟩,
  ⟨(some 12), .assign (.tmp (47 : Nat)), none⟩]
def grid_Raw_r9 : List SO := [⟨(some 48), .move (.tmp (12 : Nat)), none⟩,
  ⟨(some 49), .binOp .gtr 3 (.tmp (48 : Nat)) (.const (.int .i64 0)) 3, none⟩,
  ⟨(some 50), .move (.tmp (49 : Nat)), none⟩,
  ⟨(some 51), .move (.tmp (12 : Nat)), (some (50, true))⟩,
  ⟨(some 52), .binOp .sub 3 (.tmp (51 : Nat)) (.const (.int .i64 1)) 3, (some (50, true))⟩,
  ⟨(some 53), .indexAddr 150 (.tmp (8 : Nat)) (.tmp (52 : Nat)), (some (50, true))⟩,
  ⟨(some 54), .load 3 (.tmp (53 : Nat)), (some (50, true))⟩,
  ⟨(some 55), .indexAddr 150 (.tmp (7 : Nat)) (.tmp (54 : Nat)), (some (50, true))⟩,
  ⟨(some 56), .load 3 (.tmp (55 : Nat)), (some (50, true))⟩,
  ⟨(some 57), .move (.tmp (10 : Nat)), (some (50, true))⟩,
  ⟨(some 58), .indexAddr 150 (.tmp (7 : Nat)) (.tmp (57 : Nat)), (some (50, true))⟩,
  ⟨(some 59), .load 3 (.tmp (58 : Nat)), (some (50, true))⟩,
  ⟨(some 60), .binOp .lss 3 (.tmp (56 : Nat)) (.tmp (59 : Nat)) 3, (some (50, true))⟩,
  ⟨(some 61), .pick (.tmp (50 : Nat)) (.tmp (60 : Nat)) (.const (.bool false)), none⟩]
def grid_Raw_a9 : List (List Nat) := [[], [0], [1], [2], [3, 2], [4, 2], [5, 2], [6, 2], [7, 2], [2], [9, 2], [10, 2], [8, 11, 2], [2, 12]]
def grid_Raw_r10 : List SO := [⟨(some 64), .move (.tmp (12 : Nat)), none⟩,
  ⟨(some 65), .move (.tmp (12 : Nat)), none⟩,
  ⟨(some 66), .binOp .sub 3 (.tmp (65 : Nat)) (.const (.int .i64 1)) 3, none⟩,
  ⟨(some 67), .indexAddr 150 (.tmp (8 : Nat)) (.tmp (66 : Nat)), none⟩,
  ⟨(some 68), .load 3 (.tmp (67 : Nat)), none⟩,
  ⟨(some 69), .indexAddr 150 (.tmp (8 : Nat)) (.tmp (64 : Nat)), none⟩,
  ⟨none, .store 3 (.tmp (69 : Nat)) (.tmp (68 : Nat)), none⟩]
def grid_Raw_r11 : List SO := [⟨(some 62), .move (.tmp (12 : Nat)), none⟩,
  ⟨(some 63), .binOp .sub 3 (.tmp (62 : Nat)) (.const (.int .i64 1)) 3, none⟩,
  ⟨(some 12), .assign (.tmp (63 : Nat)), none⟩]
def grid_Raw_r12 : List SO := [⟨(some 70), .move (.tmp (12 : Nat)), none⟩,
  ⟨(some 71), .move (.tmp (10 : Nat)), none⟩,
  ⟨(some 72), .indexAddr 150 (.tmp (8 : Nat)) (.tmp (70 : Nat)), none⟩,
  ⟨none, .store 3 (.tmp (72 : Nat)) (.tmp (71 : Nat)), none⟩]
def grid_Raw_r13 : List SO := [⟨(some 73), .binOp .add 3 (.tmp (32 : Nat)) (.const (.int .i64 1)) 3, none⟩,
  ⟨(some 32), .move (.tmp (73 : Nat)), none⟩]
def grid_Raw_r14 : List SO := [⟨(some 74), .move (.tmp (0 : Nat)), none⟩,
  ⟨(some 75), .nilCheck (.tmp (74 : Nat)), none⟩,
  ⟨(some 76), .fieldAddr 25 (.tmp (75 : Nat)) 1, none⟩,
  ⟨(some 77), .load 3 (.tmp (76 : Nat)), none⟩,
  ⟨(some 78), .makeSlice 23 (.tmp (77 : Nat)) (.tmp (77 : Nat)), none⟩,
  ⟨(some 13), .assign (.tmp (78 : Nat)), none⟩]
def grid_Raw_r15 : List SO := [⟨(some 79), .move (.tmp (5 : Nat)), none⟩,
  ⟨(some 14), .assign (.tmp (79 : Nat)), none⟩]
def grid_Raw_r16 : List SO := [⟨(some 15), .assign (.const (.int .i64 0)), none⟩]
def grid_Raw_r17 : List SO := [⟨(some 80), .move (.tmp (15 : Nat)), none⟩,
  ⟨(some 81), .move (.tmp (9 : Nat)), none⟩,
  ⟨(some 82), .binOp .leq 3 (.tmp (80 : Nat)) (.tmp (81 : Nat)) 3, none⟩]
def grid_Raw_r18 : List SO := [⟨(some 16), .assign (.const (.int .i64 0)), none⟩]
def grid_Raw_r19 : List SO := [⟨(some 85), .move (.tmp (15 : Nat)), none⟩,
  ⟨(some 86), .move (.tmp (9 : Nat)), none⟩,
  ⟨(some 87), .binOp .lss 3 (.tmp (85 : Nat)) (.tmp (86 : Nat)) 3, none⟩]
def grid_Raw_r20 : List SO := [⟨(some 88), .move (.tmp (15 : Nat)), none⟩,
  ⟨(some 89), .indexAddr 150 (.tmp (8 : Nat)) (.tmp (88 : Nat)), none⟩,
  ⟨(some 90), .load 3 (.tmp (89 : Nat)), none⟩,
  ⟨(some 91), .indexAddr 150 (.tmp (7 : Nat)) (.tmp (90 : Nat)), none⟩,
  ⟨(some 92), .load 3 (.tmp (91 : Nat)), none⟩,
  ⟨(some 16), .assign (.tmp (92 : Nat)), none⟩]
def grid_Raw_r21 : List SO := [⟨(some 93), .move (.tmp (14 : Nat)), none⟩,
  ⟨(some 94), .move (.tmp (16 : Nat)), none⟩,
  ⟨(some 95), .binOp .sub 3 (.tmp (93 : Nat)) (.tmp (94 : Nat)) 3, none⟩,
  ⟨(some 17), .assign (.tmp (95 : Nat)), none⟩]
def grid_Raw_r22 : List SO := [⟨(some 96), .move (.tmp (17 : Nat)), none⟩,
  ⟨(some 97), .binOp .gtr 3 (.tmp (96 : Nat)) (.const (.int .i64 0)) 3, none⟩]
def grid_Raw_r23 : List SO := [⟨(some 98), .move (.tmp (0 : Nat)), none⟩,
  ⟨(some 99), .move (.tmp (9 : Nat)), none⟩,
  ⟨(some 100), .slice 150 (.tmp (6 : Nat)) none (some (.tmp (99 : Nat))) none, none⟩,
  ⟨(some 101), .call ⟨(.value (.func (88 : Nat))), #[(.tmp (98 : Nat)), (.tmp (100 : Nat))], #[82, 23]⟩, none⟩,
  ⟨(some 18), .assign (.tmp (101 : Nat)), none⟩]
def grid_Raw_r24 : List SO := [⟨(some 102), .move (.tmp (13 : Nat)), none⟩,
  ⟨(some 103), .call ⟨(.builtin .len), #[(.tmp (102 : Nat))], #[23]⟩, none⟩,
  ⟨(some 104), .move (.const (.int .i64 0)), none⟩]
def grid_Raw_r25 : List SO := [⟨(some 105), .binOp .lss 3 (.tmp (104 : Nat)) (.tmp (103 : Nat)) 3, none⟩]
def grid_Raw_r26 : List SO := [⟨(some 106), .move (.tmp (104 : Nat)), none⟩,
  ⟨(some 19), .assign (.tmp (106 : Nat)), none⟩]
def grid_Raw_r27 : List SO := [⟨(some 107), .move (.tmp (13 : Nat)), none⟩,
  ⟨(some 108), .move (.tmp (19 : Nat)), none⟩,
  ⟨(some 109), .indexAddr 23 (.tmp (107 : Nat)) (.tmp (108 : Nat)), none⟩,
  ⟨(some 110), .load 3 (.tmp (109 : Nat)), none⟩,
  ⟨(some 111), .move (.tmp (17 : Nat)), none⟩,
  ⟨(some 112), .move (.tmp (0 : Nat)), none⟩,
  ⟨(some 113), .nilCheck (.tmp (112 : Nat)), none⟩,
  ⟨(some 114), .fieldAddr 25 (.tmp (113 : Nat)) 3, none⟩,
  ⟨(some 115), .load 23 (.tmp (114 : Nat)), none⟩,
  ⟨(some 116), .move (.tmp (18 : Nat)), none⟩,
  ⟨(some 117), .move (.tmp (19 : Nat)), none⟩,
  ⟨(some 118), .binOp .add 3 (.tmp (116 : Nat)) (.tmp (117 : Nat)) 3, none⟩,
  ⟨(some 119), .indexAddr 23 (.tmp (115 : Nat)) (.tmp (118 : Nat)), none⟩,
  ⟨(some 120), .load 3 (.tmp (119 : Nat)), none⟩,
  ⟨(some 121), .binOp .mul 3 (.tmp (111 : Nat)) (.tmp (120 : Nat)) 3, none⟩,
  ⟨(some 122), .binOp .add 3 (.tmp (110 : Nat)) (.tmp (121 : Nat)) 3, none⟩,
  ⟨(some 123), .indexAddr 23 (.tmp (107 : Nat)) (.tmp (108 : Nat)), none⟩,
  ⟨none, .store 3 (.tmp (123 : Nat)) (.tmp (122 : Nat)), none⟩]
def grid_Raw_a27 : List (List Nat) := [[], [], [0, 1], [2], [], [], [5], [6], [7], [], [], [9, 10], [8, 11], [12], [4, 13], [3, 14], [0, 1, 0, 1, 2, 3, 4, 5, 6, 7, 8, 9, 10, 11, 12, 13, 14, 15], [16, 15, 0, 1, 2, 3, 4, 5, 6, 7, 8, 9, 10, 11, 12, 13, 14, 15]]
def grid_Raw_r28 : List SO := [⟨(some 124), .binOp .add 3 (.tmp (104 : Nat)) (.const (.int .i64 1)) 3, none⟩,
  ⟨(some 104), .move (.tmp (124 : Nat)), none⟩]
def grid_Raw_r29 : List SO := [⟨(some 125), .move (.tmp (15 : Nat)), none⟩,
  ⟨(some 126), .move (.tmp (9 : Nat)), none⟩,
  ⟨(some 127), .binOp .lss 3 (.tmp (125 : Nat)) (.tmp (126 : Nat)) 3, none⟩]
def grid_Raw_r30 : List SO := [⟨(some 128), .move (.tmp (16 : Nat)), none⟩,
  ⟨(some 14), .assign (.tmp (128 : Nat)), none⟩]
def grid_Raw_r31 : List SO := [⟨(some 129), .move (.tmp (16 : Nat)), none⟩,
  ⟨(some 130), .binOp .eql 3 (.tmp (129 : Nat)) (.const (.int .i64 0)) 3, none⟩]
def grid_Raw_r32 : List SO := [⟨(some 131), .move (.tmp (15 : Nat)), none⟩,
  ⟨(some 132), .indexAddr 150 (.tmp (8 : Nat)) (.tmp (131 : Nat)), none⟩,
  ⟨(some 133), .load 3 (.tmp (132 : Nat)), none⟩,
  ⟨(some 134), .indexAddr 150 (.tmp (6 : Nat)) (.tmp (133 : Nat)), none⟩,
  ⟨(some 135), .load 3 (.tmp (134 : Nat)), none⟩,
  ⟨(some 136), .binOp .add 3 (.tmp (135 : Nat)) (.const (.int .i64 1)) 3, none⟩,
  ⟨(some 137), .indexAddr 150 (.tmp (6 : Nat)) (.tmp (133 : Nat)), none⟩,
  ⟨none, .store 3 (.tmp (137 : Nat)) (.tmp (136 : Nat)), none⟩]
def grid_Raw_r33 : List SO := [⟨(some 83), .move (.tmp (15 : Nat)), none⟩,
  ⟨(some 84), .binOp .add 3 (.tmp (83 : Nat)) (.const (.int .i64 1)) 3, none⟩,
  ⟨(some 15), .assign (.tmp (84 : Nat)), none⟩]
def grid_Raw_r34 : List SO := [⟨(some 138), .move (.tmp (13 : Nat)), none⟩,
  ⟨(some 4), .assign (.tmp (138 : Nat)), none⟩]
def grid_Raw_c : SF := ⟨139, (.seq (.reg grid_Raw_r0)
  (.seq (.reg grid_Raw_r1)
  (.seq (.reg grid_Raw_r2)
  (.seq (.reg grid_Raw_r3)
  (.seq (.seq (.reg grid_Raw_r4)
  (.block 0 (.loop (.seq (.reg grid_Raw_r5)
  (.seq (.cond (.tmp (33 : Nat)) .skip (.exit 0))
  (.seq (.block 1 (.seq (.reg grid_Raw_r6)
  (.seq (.regd grid_Raw_r7 grid_Raw_a7)
  (.seq (.reg grid_Raw_r8)
  (.seq (.block 2 (.loop (.seq (.seq (.regd grid_Raw_r9 grid_Raw_a9)
  (.cond (.tmp (61 : Nat)) .skip (.exit 2)))
  (.seq (.block 3 (.reg grid_Raw_r10))
  (.reg grid_Raw_r11)))))
  (.reg grid_Raw_r12))))))
  (.reg grid_Raw_r13)))))))
  (.seq (.reg grid_Raw_r14)
  (.seq (.reg grid_Raw_r15)
  (.seq (.seq (.reg grid_Raw_r16)
  (.block 4 (.loop (.seq (.seq (.reg grid_Raw_r17)
  (.cond (.tmp (82 : Nat)) .skip (.exit 4)))
  (.seq (.block 5 (.seq (.reg grid_Raw_r18)
  (.seq (.seq (.reg grid_Raw_r19)
  (.cond (.tmp (87 : Nat)) (.reg grid_Raw_r20) .skip))
  (.seq (.seq (.reg grid_Raw_r21)
  (.seq (.reg grid_Raw_r22)
  (.cond (.tmp (97 : Nat)) (.seq (.reg grid_Raw_r23)
  (.seq (.reg grid_Raw_r24)
  (.block 6 (.loop (.seq (.reg grid_Raw_r25)
  (.seq (.cond (.tmp (105 : Nat)) .skip (.exit 6))
  (.seq (.block 7 (.seq (.reg grid_Raw_r26)
  (.regd grid_Raw_r27 grid_Raw_a27)))
  (.reg grid_Raw_r28)))))))) .skip)))
  (.seq (.reg grid_Raw_r29)
  (.cond (.tmp (127 : Nat)) (.seq (.reg grid_Raw_r30)
  (.seq (.seq (.reg grid_Raw_r31)
  (.cond (.tmp (130 : Nat)) (.exit 4) .skip))
  (.reg grid_Raw_r32))) .skip))))))
  (.reg grid_Raw_r33))))))
  (.seq (.reg grid_Raw_r34)
  .ret))))))))), [.tmp 4]⟩
theorem grid_Raw_s : slimF Try.prog 58 = some grid_Raw_c := by kernel_rfl
abbrev grid_Raw_f : Nat := 58
/-- printworks/grid.Quick -/
def grid_Quick_r0 : List SO := [⟨(some 4), .assign (.const (.slice none 0 0)), none⟩]
def grid_Quick_r1 : List SO := [⟨(some 9), .move (.tmp (0 : Nat)), none⟩,
  ⟨(some 10), .nilCheck (.tmp (9 : Nat)), none⟩,
  ⟨(some 11), .fieldAddr 25 (.tmp (10 : Nat)) 2, none⟩,
  ⟨(some 12), .load 3 (.tmp (11 : Nat)), none⟩,
  ⟨(some 13), .binOp .sub 3 (.tmp (12 : Nat)) (.const (.int .i64 1)) 3, none⟩,
  ⟨(some 14), .binOp .quo 3 (.const (.int .i64 65280)) (.tmp (13 : Nat)) 3, none⟩,
  ⟨(some 5), .assign (.tmp (14 : Nat)), none⟩]
def grid_Quick_r2 : List SO := [⟨(some 15), .move (.tmp (0 : Nat)), none⟩,
  ⟨(some 16), .move (.tmp (1 : Nat)), none⟩,
  ⟨(some 17), .call ⟨(.value (.func (58 : Nat))), #[(.tmp (15 : Nat)), (.tmp (16 : Nat))], #[82, 23]⟩, none⟩,
  ⟨(some 6), .assign (.tmp (17 : Nat)), none⟩]
def grid_Quick_r3 : List SO := [⟨(some 18), .move (.tmp (6 : Nat)), none⟩,
  ⟨(some 19), .call ⟨(.builtin .len), #[(.tmp (18 : Nat))], #[23]⟩, none⟩,
  ⟨(some 20), .move (.const (.int .i64 0)), none⟩]
def grid_Quick_r4 : List SO := [⟨(some 21), .binOp .lss 3 (.tmp (20 : Nat)) (.tmp (19 : Nat)) 3, none⟩]
def grid_Quick_r5 : List SO := [⟨(some 22), .move (.tmp (20 : Nat)), none⟩,
  ⟨(some 23), .indexAddr 23 (.tmp (18 : Nat)) (.tmp (20 : Nat)), none⟩,
  ⟨(some 24), .load 3 (.tmp (23 : Nat)), none⟩,
  ⟨(some 7), .assign (.tmp (22 : Nat)), none⟩,
  ⟨(some 8), .assign (.tmp (24 : Nat)), none⟩]
def grid_Quick_r6 : List SO := [⟨(some 25), .move (.tmp (6 : Nat)), none⟩,
  ⟨(some 26), .move (.tmp (7 : Nat)), none⟩,
  ⟨(some 27), .move (.tmp (8 : Nat)), none⟩,
  ⟨(some 28), .move (.tmp (5 : Nat)), none⟩,
  ⟨(some 29), .call ⟨(.value (.func (78 : Nat))), #[(.tmp (27 : Nat)), (.tmp (28 : Nat))], #[3, 3]⟩, none⟩,
  ⟨(some 30), .indexAddr 23 (.tmp (25 : Nat)) (.tmp (26 : Nat)), none⟩,
  ⟨none, .store 3 (.tmp (30 : Nat)) (.tmp (29 : Nat)), none⟩]
def grid_Quick_r7 : List SO := [⟨(some 31), .binOp .add 3 (.tmp (20 : Nat)) (.const (.int .i64 1)) 3, none⟩,
  ⟨(some 20), .move (.tmp (31 : Nat)), none⟩]
def grid_Quick_r8 : List SO := [⟨(some 32), .move (.tmp (6 : Nat)), none⟩,
  ⟨(some 4), .assign (.tmp (32 : Nat)), none⟩]
def grid_Quick_c : SF := ⟨33, (.seq (.reg grid_Quick_r0)
  (.seq (.reg grid_Quick_r1)
  (.seq (.reg grid_Quick_r2)
  (.seq (.seq (.reg grid_Quick_r3)
  (.block 0 (.loop (.seq (.reg grid_Quick_r4)
  (.seq (.cond (.tmp (21 : Nat)) .skip (.exit 0))
  (.seq (.block 1 (.seq (.reg grid_Quick_r5)
  (.reg grid_Quick_r6)))
  (.reg grid_Quick_r7)))))))
  (.seq (.reg grid_Quick_r8)
  .ret))))), [.tmp 4]⟩
theorem grid_Quick_s : slimF Try.prog 68 = some grid_Quick_c := by kernel_rfl
abbrev grid_Quick_f : Nat := 68
/-- printworks/grid.Make -/
def grid_Make_r0 : List SO := [⟨(some 8), .alloc 25, none⟩,
  ⟨(some 9), .assign (.const (.int .i64 0)), none⟩]
def grid_Make_r1 : List SO := [⟨(some 19), .move (.tmp (0 : Nat)), none⟩,
  ⟨(some 20), .move (.tmp (1 : Nat)), none⟩,
  ⟨(some 21), .move (.tmp (2 : Nat)), none⟩,
  ⟨(some 22), .call ⟨(.value (.func (87 : Nat))), #[(.tmp (19 : Nat)), (.tmp (20 : Nat)), (.tmp (21 : Nat))], #[3, 3, 3]⟩, none⟩,
  ⟨(some 18), .move (.tmp (22 : Nat)), none⟩,
  ⟨(some 23), .extract (.tmp (18 : Nat)) 0, none⟩,
  ⟨(some 24), .extract (.tmp (18 : Nat)) 1, none⟩,
  ⟨(some 10), .assign (.tmp (23 : Nat)), none⟩,
  ⟨(some 11), .assign (.tmp (24 : Nat)), none⟩]
def grid_Make_r2 : List SO := [⟨(some 25), .move (.tmp (11 : Nat)), none⟩,
  ⟨(some 26), .binOp .neq 33 (.tmp (25 : Nat)) (.const (.int .i64 0)) 33, none⟩]
def grid_Make_r3 : List SO := [⟨(some 27), .build 25 #[], none⟩,
  ⟨(some 28), .move (.tmp (11 : Nat)), none⟩,
  ⟨none, .store 25 (.tmp (8 : Nat)) (.tmp (27 : Nat)), none⟩,
  ⟨(some 9), .assign (.tmp (28 : Nat)), none⟩]
def grid_Make_r4 : List SO := [⟨(some 29), .move (.tmp (0 : Nat)), none⟩,
  ⟨(some 30), .move (.tmp (1 : Nat)), none⟩,
  ⟨(some 31), .move (.tmp (2 : Nat)), none⟩,
  ⟨(some 32), .move (.tmp (10 : Nat)), none⟩,
  ⟨(some 33), .move (.tmp (1 : Nat)), none⟩,
  ⟨(some 34), .binOp .mul 3 (.tmp (32 : Nat)) (.tmp (33 : Nat)) 3, none⟩,
  ⟨(some 35), .makeSlice 23 (.const (.int .i64 0)) (.tmp (34 : Nat)), none⟩,
  ⟨(some 36), .build 25 #[(0, (.tmp (29 : Nat))), (1, (.tmp (30 : Nat))), (2, (.tmp (31 : Nat))), (3, (.tmp (35 : Nat)))], none⟩,
  ⟨(some 12), .alloc 25, none⟩,
  ⟨none, .store 25 (.tmp (12 : Nat)) (.tmp (36 : Nat)), none⟩]
def grid_Make_r5 : List SO := [⟨(some 37), .move (.tmp (0 : Nat)), none⟩,
  ⟨(some 38), .makeSlice 23 (.tmp (37 : Nat)) (.tmp (37 : Nat)), none⟩,
  ⟨(some 13), .assign (.tmp (38 : Nat)), none⟩]
def grid_Make_r6 : List SO := [⟨(some 39), .move (.tmp (10 : Nat)), none⟩,
  ⟨(some 40), .move (.const (.int .i64 0)), none⟩]
def grid_Make_r7 : List SO := [⟨(some 41), .binOp .lss 3 (.tmp (40 : Nat)) (.tmp (39 : Nat)) 3, none⟩]
def grid_Make_r8 : List SO := [⟨(some 43), .move (.tmp (3 : Nat)), none⟩,
  ⟨(some 44), .move (.tmp (13 : Nat)), none⟩,
  ⟨(some 45), .call ⟨(.builtin .append), #[(.const (.slice none 0 0)), (.tmp (44 : Nat))], #[23, 23]⟩, none⟩,
  ⟨(some 46), .call ⟨(.value (.tmp (43 : Nat))), #[(.tmp (45 : Nat))], #[23]⟩, none⟩,
  ⟨(some 42), .move (.tmp (46 : Nat)), none⟩,
  ⟨(some 47), .extract (.tmp (42 : Nat)) 0, none⟩,
  ⟨(some 48), .extract (.tmp (42 : Nat)) 1, none⟩,
  ⟨(some 14), .assign (.tmp (47 : Nat)), none⟩,
  ⟨(some 15), .assign (.tmp (48 : Nat)), none⟩]
def grid_Make_r9 : List SO := [⟨(some 49), .move (.tmp (15 : Nat)), none⟩,
  ⟨(some 50), .binOp .neq 33 (.tmp (49 : Nat)) (.const (.int .i64 0)) 33, none⟩]
def grid_Make_r10 : List SO := [⟨(some 51), .build 25 #[], none⟩,
  ⟨(some 52), .move (.tmp (15 : Nat)), none⟩,
  ⟨none, .store 25 (.tmp (8 : Nat)) (.tmp (51 : Nat)), none⟩,
  ⟨(some 9), .assign (.tmp (52 : Nat)), none⟩]
def grid_Make_r11 : List SO := [⟨(some 53), .move (.tmp (14 : Nat)), none⟩,
  ⟨(some 54), .call ⟨(.builtin .len), #[(.tmp (53 : Nat))], #[23]⟩, none⟩,
  ⟨(some 55), .move (.tmp (1 : Nat)), none⟩,
  ⟨(some 56), .binOp .neq 3 (.tmp (54 : Nat)) (.tmp (55 : Nat)) 3, none⟩]
def grid_Make_r12 : List SO := [⟨(some 57), .build 25 #[], none⟩,
  ⟨none, .store 25 (.tmp (8 : Nat)) (.tmp (57 : Nat)), none⟩,
  ⟨(some 9), .assign (.const (.int .i64 4)), none⟩]
def grid_Make_r13 : List SO := [⟨(some 58), .fieldAddr 25 (.tmp (12 : Nat)) 3, none⟩,
  ⟨(some 59), .load 23 (.tmp (58 : Nat)), none⟩,
  ⟨(some 60), .move (.tmp (14 : Nat)), none⟩,
  ⟨(some 61), .call ⟨(.builtin .append), #[(.tmp (59 : Nat)), (.tmp (60 : Nat))], #[23, 23]⟩, none⟩,
  ⟨(some 62), .fieldAddr 25 (.tmp (12 : Nat)) 3, none⟩,
  ⟨none, .store 23 (.tmp (62 : Nat)) (.tmp (61 : Nat)), none⟩]
def grid_Make_r14 : List SO := [⟨(some 63), .move (.tmp (0 : Nat)), none⟩,
  ⟨(some 64), .binOp .sub 3 (.tmp (63 : Nat)) (.const (.int .i64 1)) 3, none⟩,
  ⟨(some 16), .assign (.tmp (64 : Nat)), none⟩]
def grid_Make_r15 : List SO := [⟨(some 65), .move (.tmp (16 : Nat)), none⟩,
  ⟨(some 66), .binOp .geq 3 (.tmp (65 : Nat)) (.const (.int .i64 0)) 3, none⟩]
def grid_Make_r16 : List SO := [⟨(some 69), .move (.tmp (13 : Nat)), none⟩,
  ⟨(some 70), .move (.tmp (16 : Nat)), none⟩,
  ⟨(some 71), .indexAddr 23 (.tmp (69 : Nat)) (.tmp (70 : Nat)), none⟩,
  ⟨(some 72), .load 3 (.tmp (71 : Nat)), none⟩,
  ⟨(some 73), .binOp .add 3 (.tmp (72 : Nat)) (.const (.int .i64 1)) 3, none⟩,
  ⟨(some 74), .indexAddr 23 (.tmp (69 : Nat)) (.tmp (70 : Nat)), none⟩,
  ⟨none, .store 3 (.tmp (74 : Nat)) (.tmp (73 : Nat)), none⟩]
def grid_Make_r17 : List SO := [⟨(some 75), .move (.tmp (13 : Nat)), none⟩,
  ⟨(some 76), .move (.tmp (16 : Nat)), none⟩,
  ⟨(some 77), .indexAddr 23 (.tmp (75 : Nat)) (.tmp (76 : Nat)), none⟩,
  ⟨(some 78), .load 3 (.tmp (77 : Nat)), none⟩,
  ⟨(some 79), .move (.tmp (2 : Nat)), none⟩,
  ⟨(some 80), .binOp .lss 3 (.tmp (78 : Nat)) (.tmp (79 : Nat)) 3, none⟩]
def grid_Make_r18 : List SO := [⟨(some 81), .move (.tmp (13 : Nat)), none⟩,
  ⟨(some 82), .move (.tmp (16 : Nat)), none⟩,
  ⟨(some 83), .indexAddr 23 (.tmp (81 : Nat)) (.tmp (82 : Nat)), none⟩,
  ⟨none, .store 3 (.tmp (83 : Nat)) (.const (.int .i64 0)), none⟩]
def grid_Make_r19 : List SO := [⟨(some 67), .move (.tmp (16 : Nat)), none⟩,
  ⟨(some 68), .binOp .sub 3 (.tmp (67 : Nat)) (.const (.int .i64 1)) 3, none⟩,
  ⟨(some 16), .assign (.tmp (68 : Nat)), none⟩]
def grid_Make_r20 : List SO := [⟨(some 84), .binOp .add 3 (.tmp (40 : Nat)) (.const (.int .i64 1)) 3, none⟩,
  ⟨(some 40), .move (.tmp (84 : Nat)), none⟩]
def grid_Make_r21 : List SO := [⟨(some 85), .load 25 (.tmp (12 : Nat)), none⟩,
  ⟨(some 86), .call ⟨(.value (.func (56 : Nat))), #[(.tmp (85 : Nat))], #[25]⟩, none⟩,
  ⟨(some 17), .assign (.tmp (86 : Nat)), none⟩]
def grid_Make_r22 : List SO := [⟨(some 87), .move (.tmp (17 : Nat)), none⟩,
  ⟨(some 88), .binOp .neq 33 (.tmp (87 : Nat)) (.const (.int .i64 0)) 33, none⟩]
def grid_Make_r23 : List SO := [⟨(some 89), .build 25 #[], none⟩,
  ⟨(some 90), .move (.tmp (17 : Nat)), none⟩,
  ⟨none, .store 25 (.tmp (8 : Nat)) (.tmp (89 : Nat)), none⟩,
  ⟨(some 9), .assign (.tmp (90 : Nat)), none⟩]
def grid_Make_r24 : List SO := [⟨(some 91), .load 25 (.tmp (12 : Nat)), none⟩,
  ⟨none, .store 25 (.tmp (8 : Nat)) (.tmp (91 : Nat)), none⟩,
  ⟨(some 9), .assign (.const (.int .i64 0)), none⟩]
def grid_Make_c : SF := ⟨92, (.seq (.reg grid_Make_r0)
  (.seq (.reg grid_Make_r1)
  (.seq (.seq (.reg grid_Make_r2)
  (.cond (.tmp (26 : Nat)) (.seq (.reg grid_Make_r3)
  .ret) .skip))
  (.seq (.reg grid_Make_r4)
  (.seq (.reg grid_Make_r5)
  (.seq (.seq (.reg grid_Make_r6)
  (.block 0 (.loop (.seq (.reg grid_Make_r7)
  (.seq (.cond (.tmp (41 : Nat)) .skip (.exit 0))
  (.seq (.block 1 (.seq (.reg grid_Make_r8)
  (.seq (.seq (.reg grid_Make_r9)
  (.cond (.tmp (50 : Nat)) (.seq (.reg grid_Make_r10)
  .ret) .skip))
  (.seq (.seq (.reg grid_Make_r11)
  (.cond (.tmp (56 : Nat)) (.seq (.reg grid_Make_r12)
  .ret) .skip))
  (.seq (.reg grid_Make_r13)
  (.seq (.reg grid_Make_r14)
  (.block 2 (.loop (.seq (.seq (.reg grid_Make_r15)
  (.cond (.tmp (66 : Nat)) .skip (.exit 2)))
  (.seq (.block 3 (.seq (.seq (.reg grid_Make_r16)
  (.seq (.reg grid_Make_r17)
  (.cond (.tmp (80 : Nat)) (.exit 2) .skip)))
  (.reg grid_Make_r18)))
  (.reg grid_Make_r19)))))))))))
  (.reg grid_Make_r20)))))))
  (.seq (.seq (.reg grid_Make_r21)
  (.seq (.reg grid_Make_r22)
  (.cond (.tmp (88 : Nat)) (.seq (.reg grid_Make_r23)
  .ret) .skip)))
  (.seq (.reg grid_Make_r24)
  .ret)))))))), [.cell 8 25, .tmp 9]⟩
theorem grid_Make_s : slimF Try.prog 81 = some grid_Make_c := by kernel_rfl
/-- printworks/grid.nodes -/
def grid_nodes_r0 : List SO := [⟨(some 6), .assign (.const (.int .i64 0)), none⟩,
  ⟨(some 7), .assign (.const (.int .i64 0)), none⟩]
def grid_nodes_r1 : List SO := [⟨(some 9), .move (.tmp (0 : Nat)), none⟩,
  ⟨(some 10), .binOp .lss 3 (.tmp (9 : Nat)) (.const (.int .i64 1)) 3, none⟩,
  ⟨(some 11), .move (.tmp (10 : Nat)), none⟩,
  ⟨(some 12), .move (.tmp (0 : Nat)), (some (11, false))⟩,
  ⟨(some 13), .binOp .gtr 3 (.tmp (12 : Nat)) (.const (.int .i64 4)) 3, (some (11, false))⟩,
  ⟨(some 14), .pick (.tmp (11 : Nat)) (.const (.bool true)) (.tmp (13 : Nat)), none⟩,
  ⟨(some 15), .move (.tmp (14 : Nat)), none⟩,
  ⟨(some 16), .move (.tmp (1 : Nat)), (some (15, false))⟩,
  ⟨(some 17), .binOp .lss 3 (.tmp (16 : Nat)) (.const (.int .i64 1)) 3, (some (15, false))⟩,
  ⟨(some 18), .pick (.tmp (15 : Nat)) (.const (.bool true)) (.tmp (17 : Nat)), none⟩,
  ⟨(some 19), .move (.tmp (18 : Nat)), none⟩,
  ⟨(some 20), .move (.tmp (1 : Nat)), (some (19, false))⟩,
  ⟨(some 21), .binOp .gtr 3 (.tmp (20 : Nat)) (.const (.int .i64 8)) 3, (some (19, false))⟩,
  ⟨(some 22), .pick (.tmp (19 : Nat)) (.const (.bool true)) (.tmp (21 : Nat)), none⟩]
def grid_nodes_r2 : List SO := [⟨(some 6), .assign (.const (.int .i64 0)), none⟩,
  ⟨(some 7), .assign (.const (.int .i64 3)), none⟩]
def grid_nodes_r3 : List SO := [⟨(some 23), .move (.tmp (2 : Nat)), none⟩]
def grid_nodes_r4 : List SO := [⟨(some 25), .binOp .eql 3 (.tmp (23 : Nat)) (.const (.int .i64 2)) 3, none⟩,
  ⟨(some 24), .assign (.tmp (25 : Nat)), none⟩]
def grid_nodes_r5 : List SO := [⟨(some 26), .binOp .eql 3 (.tmp (23 : Nat)) (.const (.int .i64 3)) 3, none⟩,
  ⟨(some 24), .assign (.tmp (26 : Nat)), none⟩]
def grid_nodes_r6 : List SO := [⟨(some 27), .binOp .eql 3 (.tmp (23 : Nat)) (.const (.int .i64 4)) 3, none⟩,
  ⟨(some 24), .assign (.tmp (27 : Nat)), none⟩]
def grid_nodes_r7 : List SO := [⟨(some 28), .binOp .eql 3 (.tmp (23 : Nat)) (.const (.int .i64 5)) 3, none⟩,
  ⟨(some 24), .assign (.tmp (28 : Nat)), none⟩]
def grid_nodes_r8 : List SO := [⟨(some 29), .binOp .eql 3 (.tmp (23 : Nat)) (.const (.int .i64 6)) 3, none⟩,
  ⟨(some 24), .assign (.tmp (29 : Nat)), none⟩]
def grid_nodes_r9 : List SO := [⟨(some 30), .binOp .eql 3 (.tmp (23 : Nat)) (.const (.int .i64 7)) 3, none⟩,
  ⟨(some 24), .assign (.tmp (30 : Nat)), none⟩]
def grid_nodes_r10 : List SO := [⟨(some 31), .binOp .eql 3 (.tmp (23 : Nat)) (.const (.int .i64 9)) 3, none⟩,
  ⟨(some 24), .assign (.tmp (31 : Nat)), none⟩]
def grid_nodes_r11 : List SO := [⟨(some 6), .assign (.const (.int .i64 0)), none⟩,
  ⟨(some 7), .assign (.const (.int .i64 3)), none⟩]
def grid_nodes_r12 : List SO := [⟨(some 8), .assign (.const (.int .i64 1)), none⟩]
def grid_nodes_r13 : List SO := [⟨(some 32), .move (.tmp (0 : Nat)), none⟩,
  ⟨(some 33), .move (.const (.int .i64 0)), none⟩]
def grid_nodes_r14 : List SO := [⟨(some 34), .binOp .lss 3 (.tmp (33 : Nat)) (.tmp (32 : Nat)) 3, none⟩]
def grid_nodes_r15 : List SO := [⟨(some 35), .move (.tmp (8 : Nat)), none⟩,
  ⟨(some 36), .move (.tmp (2 : Nat)), none⟩,
  ⟨(some 37), .binOp .mul 3 (.tmp (35 : Nat)) (.tmp (36 : Nat)) 3, none⟩,
  ⟨(some 8), .assign (.tmp (37 : Nat)), none⟩]
def grid_nodes_r16 : List SO := [⟨(some 38), .binOp .add 3 (.tmp (33 : Nat)) (.const (.int .i64 1)) 3, none⟩,
  ⟨(some 33), .move (.tmp (38 : Nat)), none⟩]
def grid_nodes_r17 : List SO := [⟨(some 39), .move (.tmp (8 : Nat)), none⟩,
  ⟨(some 40), .move (.tmp (1 : Nat)), none⟩,
  ⟨(some 41), .binOp .mul 3 (.tmp (39 : Nat)) (.tmp (40 : Nat)) 3, none⟩,
  ⟨(some 42), .binOp .gtr 3 (.tmp (41 : Nat)) (.const (.int .i64 32768)) 3, none⟩]
def grid_nodes_r18 : List SO := [⟨(some 6), .assign (.const (.int .i64 0)), none⟩,
  ⟨(some 7), .assign (.const (.int .i64 2)), none⟩]
def grid_nodes_r19 : List SO := [⟨(some 43), .move (.tmp (8 : Nat)), none⟩,
  ⟨(some 6), .assign (.tmp (43 : Nat)), none⟩,
  ⟨(some 7), .assign (.const (.int .i64 0)), none⟩]
def grid_nodes_c : SF := ⟨44, (.seq (.reg grid_nodes_r0)
  (.seq (.seq (.reg grid_nodes_r1)
  (.cond (.tmp (22 : Nat)) (.seq (.reg grid_nodes_r2)
  .ret) .skip))
  (.seq (.seq (.reg grid_nodes_r3)
  (.block 0 (.seq (.seq (.reg grid_nodes_r4)
  (.cond (.tmp (24 : Nat)) .skip (.seq (.reg grid_nodes_r5)
  (.cond (.tmp (24 : Nat)) .skip (.seq (.reg grid_nodes_r6)
  (.cond (.tmp (24 : Nat)) .skip (.seq (.reg grid_nodes_r7)
  (.cond (.tmp (24 : Nat)) .skip (.seq (.reg grid_nodes_r8)
  (.cond (.tmp (24 : Nat)) .skip (.seq (.reg grid_nodes_r9)
  (.cond (.tmp (24 : Nat)) .skip (.reg grid_nodes_r10)))))))))))))
  (.cond (.tmp (24 : Nat)) .skip (.seq (.reg grid_nodes_r11)
  .ret)))))
  (.seq (.reg grid_nodes_r12)
  (.seq (.seq (.reg grid_nodes_r13)
  (.block 1 (.loop (.seq (.reg grid_nodes_r14)
  (.seq (.cond (.tmp (34 : Nat)) .skip (.exit 1))
  (.seq (.block 2 (.reg grid_nodes_r15))
  (.reg grid_nodes_r16)))))))
  (.seq (.seq (.reg grid_nodes_r17)
  (.cond (.tmp (42 : Nat)) (.seq (.reg grid_nodes_r18)
  .ret) .skip))
  (.seq (.reg grid_nodes_r19)
  .ret))))))), [.tmp 6, .tmp 7]⟩
theorem grid_nodes_s : slimF Try.prog 87 = some grid_nodes_c := by kernel_rfl
abbrev grid_nodes_f : Nat := 87
/-- printworks/grid.at -/
def grid_at_r0 : List SO := [⟨(some 4), .assign (.const (.int .i64 0)), none⟩]
def grid_at_r1 : List SO := [⟨(some 5), .assign (.const (.int .i64 0)), none⟩]
def grid_at_r2 : List SO := [⟨(some 8), .move (.tmp (1 : Nat)), none⟩,
  ⟨(some 9), .call ⟨(.builtin .len), #[(.tmp (8 : Nat))], #[23]⟩, none⟩,
  ⟨(some 10), .move (.const (.int .i64 0)), none⟩]
def grid_at_r3 : List SO := [⟨(some 11), .binOp .lss 3 (.tmp (10 : Nat)) (.tmp (9 : Nat)) 3, none⟩]
def grid_at_r4 : List SO := [⟨(some 12), .indexAddr 23 (.tmp (8 : Nat)) (.tmp (10 : Nat)), none⟩,
  ⟨(some 13), .load 3 (.tmp (12 : Nat)), none⟩,
  ⟨(some 7), .assign (.tmp (13 : Nat)), none⟩]
def grid_at_r5 : List SO := [⟨(some 14), .move (.tmp (5 : Nat)), none⟩,
  ⟨(some 15), .move (.tmp (0 : Nat)), none⟩,
  ⟨(some 16), .nilCheck (.tmp (15 : Nat)), none⟩,
  ⟨(some 17), .fieldAddr 25 (.tmp (16 : Nat)) 2, none⟩,
  ⟨(some 18), .load 3 (.tmp (17 : Nat)), none⟩,
  ⟨(some 19), .binOp .mul 3 (.tmp (14 : Nat)) (.tmp (18 : Nat)) 3, none⟩,
  ⟨(some 20), .move (.tmp (7 : Nat)), none⟩,
  ⟨(some 21), .binOp .add 3 (.tmp (19 : Nat)) (.tmp (20 : Nat)) 3, none⟩,
  ⟨(some 5), .assign (.tmp (21 : Nat)), none⟩]
def grid_at_r6 : List SO := [⟨(some 22), .binOp .add 3 (.tmp (10 : Nat)) (.const (.int .i64 1)) 3, none⟩,
  ⟨(some 10), .move (.tmp (22 : Nat)), none⟩]
def grid_at_r7 : List SO := [⟨(some 23), .move (.tmp (5 : Nat)), none⟩,
  ⟨(some 24), .move (.tmp (0 : Nat)), none⟩,
  ⟨(some 25), .nilCheck (.tmp (24 : Nat)), none⟩,
  ⟨(some 26), .fieldAddr 25 (.tmp (25 : Nat)) 1, none⟩,
  ⟨(some 27), .load 3 (.tmp (26 : Nat)), none⟩,
  ⟨(some 28), .binOp .mul 3 (.tmp (23 : Nat)) (.tmp (27 : Nat)) 3, none⟩,
  ⟨(some 4), .assign (.tmp (28 : Nat)), none⟩]
def grid_at_c : SF := ⟨29, (.seq (.reg grid_at_r0)
  (.seq (.reg grid_at_r1)
  (.seq (.seq (.reg grid_at_r2)
  (.block 0 (.loop (.seq (.reg grid_at_r3)
  (.seq (.cond (.tmp (11 : Nat)) .skip (.exit 0))
  (.seq (.block 1 (.seq (.reg grid_at_r4)
  (.reg grid_at_r5)))
  (.reg grid_at_r6)))))))
  (.seq (.reg grid_at_r7)
  .ret)))), [.tmp 4]⟩
theorem grid_at_s : slimF Try.prog 88 = some grid_at_c := by kernel_rfl
abbrev grid_at_f : Nat := 88
/-- printworks/grid.Hull -/
def grid_Hull_r0 : List SO := [⟨(some 6), .assign (.const (.slice none 0 0)), none⟩,
  ⟨(some 7), .assign (.const (.slice none 0 0)), none⟩]
def grid_Hull_r1 : List SO := [⟨(some 20), .move (.tmp (0 : Nat)), none⟩,
  ⟨(some 21), .nilCheck (.tmp (20 : Nat)), none⟩,
  ⟨(some 22), .fieldAddr 25 (.tmp (21 : Nat)) 2, none⟩,
  ⟨(some 23), .load 3 (.tmp (22 : Nat)), none⟩,
  ⟨(some 24), .binOp .sub 3 (.tmp (23 : Nat)) (.const (.int .i64 1)) 3, none⟩,
  ⟨(some 25), .binOp .quo 3 (.const (.int .i64 65280)) (.tmp (24 : Nat)) 3, none⟩,
  ⟨(some 8), .assign (.tmp (25 : Nat)), none⟩]
def grid_Hull_r2 : List SO := [⟨(some 9), .alloc 150, none⟩,
  ⟨(some 10), .alloc 150, none⟩,
  ⟨(some 11), .alloc 150, none⟩]
def grid_Hull_r3 : List SO := [⟨(some 26), .move (.tmp (1 : Nat)), none⟩,
  ⟨(some 27), .call ⟨(.builtin .len), #[(.tmp (26 : Nat))], #[23]⟩, none⟩,
  ⟨(some 28), .move (.const (.int .i64 0)), none⟩]
def grid_Hull_r4 : List SO := [⟨(some 29), .binOp .lss 3 (.tmp (28 : Nat)) (.tmp (27 : Nat)) 3, none⟩]
def grid_Hull_r5 : List SO := [⟨(some 30), .move (.tmp (28 : Nat)), none⟩,
  ⟨(some 12), .assign (.tmp (30 : Nat)), none⟩]
def grid_Hull_r6 : List SO := [⟨(some 31), .move (.tmp (12 : Nat)), none⟩,
  ⟨(some 32), .move (.tmp (12 : Nat)), none⟩,
  ⟨(some 33), .move (.tmp (1 : Nat)), none⟩,
  ⟨(some 34), .move (.tmp (12 : Nat)), none⟩,
  ⟨(some 35), .indexAddr 23 (.tmp (33 : Nat)) (.tmp (34 : Nat)), none⟩,
  ⟨(some 36), .load 3 (.tmp (35 : Nat)), none⟩,
  ⟨(some 37), .move (.tmp (8 : Nat)), none⟩,
  ⟨(some 38), .binOp .quo 3 (.tmp (36 : Nat)) (.tmp (37 : Nat)) 3, none⟩,
  ⟨(some 39), .move (.tmp (2 : Nat)), none⟩,
  ⟨(some 40), .move (.tmp (12 : Nat)), none⟩,
  ⟨(some 41), .indexAddr 23 (.tmp (39 : Nat)) (.tmp (40 : Nat)), none⟩,
  ⟨(some 42), .load 3 (.tmp (41 : Nat)), none⟩,
  ⟨(some 43), .move (.tmp (8 : Nat)), none⟩,
  ⟨(some 44), .binOp .add 3 (.tmp (42 : Nat)) (.tmp (43 : Nat)) 3, none⟩,
  ⟨(some 45), .binOp .sub 3 (.tmp (44 : Nat)) (.const (.int .i64 1)) 3, none⟩,
  ⟨(some 46), .move (.tmp (8 : Nat)), none⟩,
  ⟨(some 47), .binOp .quo 3 (.tmp (45 : Nat)) (.tmp (46 : Nat)) 3, none⟩,
  ⟨(some 48), .indexAddr 150 (.tmp (9 : Nat)) (.tmp (31 : Nat)), none⟩,
  ⟨none, .store 3 (.tmp (48 : Nat)) (.tmp (38 : Nat)), none⟩,
  ⟨(some 49), .indexAddr 150 (.tmp (10 : Nat)) (.tmp (32 : Nat)), none⟩,
  ⟨none, .store 3 (.tmp (49 : Nat)) (.tmp (47 : Nat)), none⟩]
def grid_Hull_a6 : List (List Nat) := [[], [], [], [], [2, 3], [4], [], [5, 6], [], [], [8, 9], [10], [], [11, 12], [13], [], [14, 15], [0, 0, 2, 3, 4, 5, 6, 7], [17, 7, 0, 2, 3, 4, 5, 6, 7], [1, 0, 1, 2, 3, 4, 5, 6, 7, 8, 9, 10, 11, 12, 13, 14, 15, 16, 17, 18], [19, 16, 18, 0, 1, 2, 3, 4, 5, 6, 7, 8, 9, 10, 11, 12, 13, 14, 15, 16, 17, 18]]
def grid_Hull_r7 : List SO := [⟨(some 50), .binOp .add 3 (.tmp (28 : Nat)) (.const (.int .i64 1)) 3, none⟩,
  ⟨(some 28), .move (.tmp (50 : Nat)), none⟩]
def grid_Hull_r8 : List SO := [⟨(some 51), .load 150 (.tmp (9 : Nat)), none⟩,
  ⟨none, .store 150 (.tmp (11 : Nat)) (.tmp (51 : Nat)), none⟩]
def grid_Hull_r9 : List SO := [⟨(some 52), .move (.tmp (0 : Nat)), none⟩,
  ⟨(some 53), .nilCheck (.tmp (52 : Nat)), none⟩,
  ⟨(some 54), .fieldAddr 25 (.tmp (53 : Nat)) 1, none⟩,
  ⟨(some 55), .load 3 (.tmp (54 : Nat)), none⟩,
  ⟨(some 56), .makeSlice 23 (.tmp (55 : Nat)) (.tmp (55 : Nat)), none⟩,
  ⟨(some 57), .move (.tmp (0 : Nat)), none⟩,
  ⟨(some 58), .nilCheck (.tmp (57 : Nat)), none⟩,
  ⟨(some 59), .fieldAddr 25 (.tmp (58 : Nat)) 1, none⟩,
  ⟨(some 60), .load 3 (.tmp (59 : Nat)), none⟩,
  ⟨(some 61), .makeSlice 23 (.tmp (60 : Nat)) (.tmp (60 : Nat)), none⟩,
  ⟨(some 13), .assign (.tmp (56 : Nat)), none⟩,
  ⟨(some 14), .assign (.tmp (61 : Nat)), none⟩]
def grid_Hull_a9 : List (List Nat) := [[], [0], [1], [2], [3, 3], [], [5], [6], [7], [8, 8], [4, 0, 1, 2, 3, 4], [9, 10, 0, 1, 2, 3, 4, 5, 6, 7, 8, 9, 10]]
def grid_Hull_r10 : List SO := [⟨(some 15), .assign (.const (.bool true)), none⟩]
def grid_Hull_r11 : List SO := [⟨(some 62), .move (.tmp (0 : Nat)), none⟩,
  ⟨(some 63), .move (.tmp (0 : Nat)), none⟩,
  ⟨(some 64), .nilCheck (.tmp (63 : Nat)), none⟩,
  ⟨(some 65), .fieldAddr 25 (.tmp (64 : Nat)) 0, none⟩,
  ⟨(some 66), .load 3 (.tmp (65 : Nat)), none⟩,
  ⟨(some 67), .slice 150 (.tmp (11 : Nat)) none (some (.tmp (66 : Nat))) none, none⟩,
  ⟨(some 68), .call ⟨(.value (.func (88 : Nat))), #[(.tmp (62 : Nat)), (.tmp (67 : Nat))], #[82, 23]⟩, none⟩,
  ⟨(some 16), .assign (.tmp (68 : Nat)), none⟩]
def grid_Hull_r12 : List SO := [⟨(some 69), .move (.tmp (0 : Nat)), none⟩,
  ⟨(some 70), .nilCheck (.tmp (69 : Nat)), none⟩,
  ⟨(some 71), .fieldAddr 25 (.tmp (70 : Nat)) 1, none⟩,
  ⟨(some 72), .load 3 (.tmp (71 : Nat)), none⟩,
  ⟨(some 73), .move (.const (.int .i64 0)), none⟩]
def grid_Hull_r13 : List SO := [⟨(some 74), .binOp .lss 3 (.tmp (73 : Nat)) (.tmp (72 : Nat)) 3, none⟩]
def grid_Hull_r14 : List SO := [⟨(some 75), .move (.tmp (73 : Nat)), none⟩,
  ⟨(some 17), .assign (.tmp (75 : Nat)), none⟩]
def grid_Hull_r15 : List SO := [⟨(some 76), .move (.tmp (0 : Nat)), none⟩,
  ⟨(some 77), .nilCheck (.tmp (76 : Nat)), none⟩,
  ⟨(some 78), .fieldAddr 25 (.tmp (77 : Nat)) 3, none⟩,
  ⟨(some 79), .load 23 (.tmp (78 : Nat)), none⟩,
  ⟨(some 80), .move (.tmp (16 : Nat)), none⟩,
  ⟨(some 81), .move (.tmp (17 : Nat)), none⟩,
  ⟨(some 82), .binOp .add 3 (.tmp (80 : Nat)) (.tmp (81 : Nat)) 3, none⟩,
  ⟨(some 83), .indexAddr 23 (.tmp (79 : Nat)) (.tmp (82 : Nat)), none⟩,
  ⟨(some 84), .load 3 (.tmp (83 : Nat)), none⟩,
  ⟨(some 18), .assign (.tmp (84 : Nat)), none⟩]
def grid_Hull_r16 : List SO := [⟨(some 85), .move (.tmp (15 : Nat)), none⟩,
  ⟨(some 86), .move (.tmp (85 : Nat)), none⟩,
  ⟨(some 87), .move (.tmp (18 : Nat)), (some (86, false))⟩,
  ⟨(some 88), .move (.tmp (13 : Nat)), (some (86, false))⟩,
  ⟨(some 89), .move (.tmp (17 : Nat)), (some (86, false))⟩,
  ⟨(some 90), .indexAddr 23 (.tmp (88 : Nat)) (.tmp (89 : Nat)), (some (86, false))⟩,
  ⟨(some 91), .load 3 (.tmp (90 : Nat)), (some (86, false))⟩,
  ⟨(some 92), .binOp .lss 3 (.tmp (87 : Nat)) (.tmp (91 : Nat)) 3, (some (86, false))⟩,
  ⟨(some 93), .pick (.tmp (86 : Nat)) (.const (.bool true)) (.tmp (92 : Nat)), none⟩]
def grid_Hull_r17 : List SO := [⟨(some 94), .move (.tmp (13 : Nat)), none⟩,
  ⟨(some 95), .move (.tmp (17 : Nat)), none⟩,
  ⟨(some 96), .move (.tmp (18 : Nat)), none⟩,
  ⟨(some 97), .indexAddr 23 (.tmp (94 : Nat)) (.tmp (95 : Nat)), none⟩,
  ⟨none, .store 3 (.tmp (97 : Nat)) (.tmp (96 : Nat)), none⟩]
def grid_Hull_r18 : List SO := [⟨(some 98), .move (.tmp (15 : Nat)), none⟩,
  ⟨(some 99), .move (.tmp (98 : Nat)), none⟩,
  ⟨(some 100), .move (.tmp (18 : Nat)), (some (99, false))⟩,
  ⟨(some 101), .move (.tmp (14 : Nat)), (some (99, false))⟩,
  ⟨(some 102), .move (.tmp (17 : Nat)), (some (99, false))⟩,
  ⟨(some 103), .indexAddr 23 (.tmp (101 : Nat)) (.tmp (102 : Nat)), (some (99, false))⟩,
  ⟨(some 104), .load 3 (.tmp (103 : Nat)), (some (99, false))⟩,
  ⟨(some 105), .binOp .gtr 3 (.tmp (100 : Nat)) (.tmp (104 : Nat)) 3, (some (99, false))⟩,
  ⟨(some 106), .pick (.tmp (99 : Nat)) (.const (.bool true)) (.tmp (105 : Nat)), none⟩]
def grid_Hull_r19 : List SO := [⟨(some 107), .move (.tmp (14 : Nat)), none⟩,
  ⟨(some 108), .move (.tmp (17 : Nat)), none⟩,
  ⟨(some 109), .move (.tmp (18 : Nat)), none⟩,
  ⟨(some 110), .indexAddr 23 (.tmp (107 : Nat)) (.tmp (108 : Nat)), none⟩,
  ⟨none, .store 3 (.tmp (110 : Nat)) (.tmp (109 : Nat)), none⟩]
def grid_Hull_r20 : List SO := [⟨(some 111), .binOp .add 3 (.tmp (73 : Nat)) (.const (.int .i64 1)) 3, none⟩,
  ⟨(some 73), .move (.tmp (111 : Nat)), none⟩]
def grid_Hull_r21 : List SO := [⟨(some 15), .assign (.const (.bool false)), none⟩]
def grid_Hull_r22 : List SO := [⟨(some 112), .move (.tmp (0 : Nat)), none⟩,
  ⟨(some 113), .nilCheck (.tmp (112 : Nat)), none⟩,
  ⟨(some 114), .fieldAddr 25 (.tmp (113 : Nat)) 0, none⟩,
  ⟨(some 115), .load 3 (.tmp (114 : Nat)), none⟩,
  ⟨(some 116), .binOp .sub 3 (.tmp (115 : Nat)) (.const (.int .i64 1)) 3, none⟩,
  ⟨(some 19), .assign (.tmp (116 : Nat)), none⟩]
def grid_Hull_r23 : List SO := [⟨(some 117), .move (.tmp (19 : Nat)), none⟩,
  ⟨(some 118), .binOp .geq 3 (.tmp (117 : Nat)) (.const (.int .i64 0)) 3, none⟩,
  ⟨(some 119), .move (.tmp (118 : Nat)), none⟩,
  ⟨(some 120), .move (.tmp (19 : Nat)), (some (119, true))⟩,
  ⟨(some 121), .indexAddr 150 (.tmp (11 : Nat)) (.tmp (120 : Nat)), (some (119, true))⟩,
  ⟨(some 122), .load 3 (.tmp (121 : Nat)), (some (119, true))⟩,
  ⟨(some 123), .move (.tmp (19 : Nat)), (some (119, true))⟩,
  ⟨(some 124), .indexAddr 150 (.tmp (10 : Nat)) (.tmp (123 : Nat)), (some (119, true))⟩,
  ⟨(some 125), .load 3 (.tmp (124 : Nat)), (some (119, true))⟩,
  ⟨(some 126), .binOp .eql 3 (.tmp (122 : Nat)) (.tmp (125 : Nat)) 3, (some (119, true))⟩,
  ⟨(some 127), .pick (.tmp (119 : Nat)) (.tmp (126 : Nat)) (.const (.bool false)), none⟩]
def grid_Hull_a23 : List (List Nat) := [[], [0], [1], [2], [3, 2], [4, 2], [2], [6, 2], [7, 2], [5, 8, 2], [2, 9]]
def grid_Hull_r24 : List SO := [⟨(some 128), .move (.tmp (19 : Nat)), none⟩,
  ⟨(some 129), .move (.tmp (19 : Nat)), none⟩,
  ⟨(some 130), .indexAddr 150 (.tmp (9 : Nat)) (.tmp (129 : Nat)), none⟩,
  ⟨(some 131), .load 3 (.tmp (130 : Nat)), none⟩,
  ⟨(some 132), .indexAddr 150 (.tmp (11 : Nat)) (.tmp (128 : Nat)), none⟩,
  ⟨none, .store 3 (.tmp (132 : Nat)) (.tmp (131 : Nat)), none⟩]
def grid_Hull_r25 : List SO := [⟨(some 133), .move (.tmp (19 : Nat)), none⟩,
  ⟨(some 134), .binOp .sub 3 (.tmp (133 : Nat)) (.const (.int .i64 1)) 3, none⟩,
  ⟨(some 19), .assign (.tmp (134 : Nat)), none⟩]
def grid_Hull_r26 : List SO := [⟨(some 135), .move (.tmp (19 : Nat)), none⟩,
  ⟨(some 136), .binOp .lss 3 (.tmp (135 : Nat)) (.const (.int .i64 0)) 3, none⟩]
def grid_Hull_r27 : List SO := [⟨(some 137), .move (.tmp (13 : Nat)), none⟩,
  ⟨(some 138), .move (.tmp (14 : Nat)), none⟩,
  ⟨(some 6), .assign (.tmp (137 : Nat)), none⟩,
  ⟨(some 7), .assign (.tmp (138 : Nat)), none⟩]
def grid_Hull_r28 : List SO := [⟨(some 139), .move (.tmp (19 : Nat)), none⟩,
  ⟨(some 140), .indexAddr 150 (.tmp (11 : Nat)) (.tmp (139 : Nat)), none⟩,
  ⟨(some 141), .load 3 (.tmp (140 : Nat)), none⟩,
  ⟨(some 142), .binOp .add 3 (.tmp (141 : Nat)) (.const (.int .i64 1)) 3, none⟩,
  ⟨(some 143), .indexAddr 150 (.tmp (11 : Nat)) (.tmp (139 : Nat)), none⟩,
  ⟨none, .store 3 (.tmp (143 : Nat)) (.tmp (142 : Nat)), none⟩]
def grid_Hull_c : SF := ⟨144, (.seq (.reg grid_Hull_r0)
  (.seq (.reg grid_Hull_r1)
  (.seq (.reg grid_Hull_r2)
  (.seq (.seq (.reg grid_Hull_r3)
  (.block 0 (.loop (.seq (.reg grid_Hull_r4)
  (.seq (.cond (.tmp (29 : Nat)) .skip (.exit 0))
  (.seq (.block 1 (.seq (.reg grid_Hull_r5)
  (.regd grid_Hull_r6 grid_Hull_a6)))
  (.reg grid_Hull_r7)))))))
  (.seq (.reg grid_Hull_r8)
  (.seq (.regd grid_Hull_r9 grid_Hull_a9)
  (.seq (.reg grid_Hull_r10)
  (.block 2 (.loop (.block 3 (.seq (.reg grid_Hull_r11)
  (.seq (.seq (.reg grid_Hull_r12)
  (.block 4 (.loop (.seq (.reg grid_Hull_r13)
  (.seq (.cond (.tmp (74 : Nat)) .skip (.exit 4))
  (.seq (.block 5 (.seq (.reg grid_Hull_r14)
  (.seq (.reg grid_Hull_r15)
  (.seq (.seq (.reg grid_Hull_r16)
  (.cond (.tmp (93 : Nat)) (.reg grid_Hull_r17) .skip))
  (.seq (.reg grid_Hull_r18)
  (.cond (.tmp (106 : Nat)) (.reg grid_Hull_r19) .skip))))))
  (.reg grid_Hull_r20)))))))
  (.seq (.reg grid_Hull_r21)
  (.seq (.reg grid_Hull_r22)
  (.seq (.block 6 (.loop (.seq (.seq (.regd grid_Hull_r23 grid_Hull_a23)
  (.cond (.tmp (127 : Nat)) .skip (.exit 6)))
  (.block 7 (.seq (.reg grid_Hull_r24)
  (.reg grid_Hull_r25))))))
  (.seq (.seq (.reg grid_Hull_r26)
  (.cond (.tmp (136 : Nat)) (.seq (.reg grid_Hull_r27)
  .ret) .skip))
  (.reg grid_Hull_r28))))))))))))))))), [.tmp 6, .tmp 7]⟩
theorem grid_Hull_s : slimF Try.prog 110 = some grid_Hull_c := by kernel_rfl
def tbl_grid : List (Nat × SF) := [(21, grid_Scaled_c), (22, grid_Step_c), (31, grid_At_c), (56, grid_Check_c), (57, grid_inputs_c), (58, grid_Raw_c), (68, grid_Quick_c), (81, grid_Make_c), (87, grid_nodes_c), (88, grid_at_c), (110, grid_Hull_c)]
theorem tbl_grid_ok : okT Try.prog tbl_grid := ⟨grid_Scaled_s, grid_Step_s, grid_At_s, grid_Check_s, grid_inputs_s, grid_Raw_s, grid_Quick_s, grid_Make_s, grid_nodes_s, grid_at_s, grid_Hull_s, trivial⟩

end Go.Proofs.Ytogbkhopanaoiaa
namespace Go.Proofs.Ytogbkhopanaoiaa
open Go Go.Lite
set_option linter.unusedVariables false

/-- printworks/devicelink.Convert -/
def devicelink_Convert_r0 : List SO := [⟨(some 2), .box 25 (.tmp (0 : Nat)), none⟩,
  ⟨(some 4), .assign (.const (.slice none 0 0)), none⟩,
  ⟨(some 5), .assign (.const (.int .i64 0)), none⟩]
def devicelink_Convert_r1 : List SO := [⟨(some 8), .load 25 (.tmp (2 : Nat)), none⟩,
  ⟨(some 9), .call ⟨(.value (.func (47 : Nat))), #[(.tmp (8 : Nat))], #[25]⟩, none⟩,
  ⟨(some 6), .assign (.tmp (9 : Nat)), none⟩]
def devicelink_Convert_r2 : List SO := [⟨(some 10), .move (.tmp (6 : Nat)), none⟩,
  ⟨(some 11), .binOp .neq 33 (.tmp (10 : Nat)) (.const (.int .i64 0)) 33, none⟩]
def devicelink_Convert_r3 : List SO := [⟨(some 12), .move (.tmp (6 : Nat)), none⟩,
  ⟨(some 4), .assign (.const (.slice none 0 0)), none⟩,
  ⟨(some 5), .assign (.tmp (12 : Nat)), none⟩]
def devicelink_Convert_r4 : List SO := [⟨(some 13), .move (.tmp (1 : Nat)), none⟩,
  ⟨(some 14), .fieldAddr 25 (.tmp (2 : Nat)) 0, none⟩,
  ⟨(some 15), .load 3 (.tmp (14 : Nat)), none⟩,
  ⟨(some 16), .call ⟨(.value (.func (48 : Nat))), #[(.tmp (13 : Nat)), (.tmp (15 : Nat))], #[23, 3]⟩, none⟩,
  ⟨(some 7), .assign (.tmp (16 : Nat)), none⟩]
def devicelink_Convert_r5 : List SO := [⟨(some 17), .move (.tmp (7 : Nat)), none⟩,
  ⟨(some 18), .binOp .neq 33 (.tmp (17 : Nat)) (.const (.int .i64 0)) 33, none⟩]
def devicelink_Convert_r6 : List SO := [⟨(some 19), .move (.tmp (7 : Nat)), none⟩,
  ⟨(some 4), .assign (.const (.slice none 0 0)), none⟩,
  ⟨(some 5), .assign (.tmp (19 : Nat)), none⟩]
def devicelink_Convert_r7 : List SO := [⟨(some 20), .move (.tmp (1 : Nat)), none⟩,
  ⟨(some 21), .call ⟨(.value (.func (49 : Nat))), #[(.tmp (2 : Nat)), (.tmp (20 : Nat))], #[82, 23]⟩, none⟩,
  ⟨(some 4), .assign (.tmp (21 : Nat)), none⟩,
  ⟨(some 5), .assign (.const (.int .i64 0)), none⟩]
def devicelink_Convert_c : SF := ⟨22, (.seq (.reg devicelink_Convert_r0)
  (.seq (.seq (.reg devicelink_Convert_r1)
  (.seq (.reg devicelink_Convert_r2)
  (.cond (.tmp (11 : Nat)) (.seq (.reg devicelink_Convert_r3)
  .ret) .skip)))
  (.seq (.seq (.reg devicelink_Convert_r4)
  (.seq (.reg devicelink_Convert_r5)
  (.cond (.tmp (18 : Nat)) (.seq (.reg devicelink_Convert_r6)
  .ret) .skip)))
  (.seq (.reg devicelink_Convert_r7)
  .ret)))), [.tmp 4, .tmp 5]⟩
theorem devicelink_Convert_s : slimF Try.prog 18 = some devicelink_Convert_c := by kernel_rfl
abbrev devicelink_Convert_f : Nat := 18
/-- printworks/devicelink.Far -/
def devicelink_Far_r0 : List SO := [⟨(some 4), .box 62 (.tmp (0 : Nat)), none⟩,
  ⟨(some 5), .box 62 (.tmp (1 : Nat)), none⟩,
  ⟨(some 6), .box 25 (.tmp (2 : Nat)), none⟩,
  ⟨(some 8), .assign (.const (.int .i64 0)), none⟩,
  ⟨(some 9), .assign (.const (.int .i64 0)), none⟩]
def devicelink_Far_r1 : List SO := [⟨(some 14), .load 62 (.tmp (4 : Nat)), none⟩,
  ⟨(some 15), .call ⟨(.value (.func (33 : Nat))), #[(.tmp (14 : Nat))], #[62]⟩, none⟩,
  ⟨(some 10), .assign (.tmp (15 : Nat)), none⟩]
def devicelink_Far_r2 : List SO := [⟨(some 16), .move (.tmp (10 : Nat)), none⟩,
  ⟨(some 17), .binOp .neq 33 (.tmp (16 : Nat)) (.const (.int .i64 0)) 33, none⟩]
def devicelink_Far_r3 : List SO := [⟨(some 18), .move (.tmp (10 : Nat)), none⟩,
  ⟨(some 8), .assign (.const (.int .i64 0)), none⟩,
  ⟨(some 9), .assign (.tmp (18 : Nat)), none⟩]
def devicelink_Far_r4 : List SO := [⟨(some 19), .load 62 (.tmp (5 : Nat)), none⟩,
  ⟨(some 20), .call ⟨(.value (.func (33 : Nat))), #[(.tmp (19 : Nat))], #[62]⟩, none⟩,
  ⟨(some 11), .assign (.tmp (20 : Nat)), none⟩]
def devicelink_Far_r5 : List SO := [⟨(some 21), .move (.tmp (11 : Nat)), none⟩,
  ⟨(some 22), .binOp .neq 33 (.tmp (21 : Nat)) (.const (.int .i64 0)) 33, none⟩]
def devicelink_Far_r6 : List SO := [⟨(some 23), .move (.tmp (11 : Nat)), none⟩,
  ⟨(some 8), .assign (.const (.int .i64 0)), none⟩,
  ⟨(some 9), .assign (.tmp (23 : Nat)), none⟩]
def devicelink_Far_r7 : List SO := [⟨(some 24), .load 25 (.tmp (6 : Nat)), none⟩,
  ⟨(some 25), .call ⟨(.value (.func (47 : Nat))), #[(.tmp (24 : Nat))], #[25]⟩, none⟩,
  ⟨(some 12), .assign (.tmp (25 : Nat)), none⟩]
def devicelink_Far_r8 : List SO := [⟨(some 26), .move (.tmp (12 : Nat)), none⟩,
  ⟨(some 27), .binOp .neq 33 (.tmp (26 : Nat)) (.const (.int .i64 0)) 33, none⟩]
def devicelink_Far_r9 : List SO := [⟨(some 28), .move (.tmp (12 : Nat)), none⟩,
  ⟨(some 8), .assign (.const (.int .i64 0)), none⟩,
  ⟨(some 9), .assign (.tmp (28 : Nat)), none⟩]
def devicelink_Far_r10 : List SO := [⟨(some 29), .fieldAddr 25 (.tmp (6 : Nat)) 0, none⟩,
  ⟨(some 30), .load 3 (.tmp (29 : Nat)), none⟩,
  ⟨(some 31), .fieldAddr 62 (.tmp (4 : Nat)) 1, none⟩,
  ⟨(some 32), .load 22 (.tmp (31 : Nat)), none⟩,
  ⟨(some 33), .call ⟨(.builtin .len), #[(.tmp (32 : Nat))], #[22]⟩, none⟩,
  ⟨(some 34), .binOp .neq 3 (.tmp (30 : Nat)) (.tmp (33 : Nat)) 3, none⟩,
  ⟨(some 35), .move (.tmp (34 : Nat)), none⟩,
  ⟨(some 36), .fieldAddr 25 (.tmp (6 : Nat)) 1, (some (35, false))⟩,
  ⟨(some 37), .load 3 (.tmp (36 : Nat)), (some (35, false))⟩,
  ⟨(some 38), .fieldAddr 62 (.tmp (5 : Nat)) 1, (some (35, false))⟩,
  ⟨(some 39), .load 22 (.tmp (38 : Nat)), (some (35, false))⟩,
  ⟨(some 40), .call ⟨(.builtin .len), #[(.tmp (39 : Nat))], #[22]⟩, (some (35, false))⟩,
  ⟨(some 41), .binOp .neq 3 (.tmp (37 : Nat)) (.tmp (40 : Nat)) 3, (some (35, false))⟩,
  ⟨(some 42), .pick (.tmp (35 : Nat)) (.const (.bool true)) (.tmp (41 : Nat)), none⟩]
def devicelink_Far_r11 : List SO := [⟨(some 8), .assign (.const (.int .i64 0)), none⟩,
  ⟨(some 9), .assign (.const (.int .i64 4)), none⟩]
def devicelink_Far_r12 : List SO := [⟨(some 43), .move (.tmp (3 : Nat)), none⟩,
  ⟨(some 44), .fieldAddr 25 (.tmp (6 : Nat)) 0, none⟩,
  ⟨(some 45), .load 3 (.tmp (44 : Nat)), none⟩,
  ⟨(some 46), .call ⟨(.value (.func (48 : Nat))), #[(.tmp (43 : Nat)), (.tmp (45 : Nat))], #[23, 3]⟩, none⟩,
  ⟨(some 13), .assign (.tmp (46 : Nat)), none⟩]
def devicelink_Far_r13 : List SO := [⟨(some 47), .move (.tmp (13 : Nat)), none⟩,
  ⟨(some 48), .binOp .neq 33 (.tmp (47 : Nat)) (.const (.int .i64 0)) 33, none⟩]
def devicelink_Far_r14 : List SO := [⟨(some 49), .move (.tmp (13 : Nat)), none⟩,
  ⟨(some 8), .assign (.const (.int .i64 0)), none⟩,
  ⟨(some 9), .assign (.tmp (49 : Nat)), none⟩]
def devicelink_Far_r15 : List SO := [⟨(some 50), .move (.tmp (3 : Nat)), none⟩,
  ⟨(some 51), .call ⟨(.value (.func (60 : Nat))), #[(.tmp (4 : Nat)), (.tmp (50 : Nat))], #[105, 23]⟩, none⟩,
  ⟨(some 52), .move (.tmp (3 : Nat)), none⟩,
  ⟨(some 53), .call ⟨(.value (.func (49 : Nat))), #[(.tmp (6 : Nat)), (.tmp (52 : Nat))], #[82, 23]⟩, none⟩,
  ⟨(some 54), .call ⟨(.value (.func (60 : Nat))), #[(.tmp (5 : Nat)), (.tmp (53 : Nat))], #[105, 23]⟩, none⟩,
  ⟨(some 55), .call ⟨(.value (.func (59 : Nat))), #[(.tmp (51 : Nat)), (.tmp (54 : Nat))], #[43, 43]⟩, none⟩,
  ⟨(some 8), .assign (.tmp (55 : Nat)), none⟩,
  ⟨(some 9), .assign (.const (.int .i64 0)), none⟩]
def devicelink_Far_c : SF := ⟨56, (.seq (.reg devicelink_Far_r0)
  (.seq (.seq (.reg devicelink_Far_r1)
  (.seq (.reg devicelink_Far_r2)
  (.cond (.tmp (17 : Nat)) (.seq (.reg devicelink_Far_r3)
  .ret) .skip)))
  (.seq (.seq (.reg devicelink_Far_r4)
  (.seq (.reg devicelink_Far_r5)
  (.cond (.tmp (22 : Nat)) (.seq (.reg devicelink_Far_r6)
  .ret) .skip)))
  (.seq (.seq (.reg devicelink_Far_r7)
  (.seq (.reg devicelink_Far_r8)
  (.cond (.tmp (27 : Nat)) (.seq (.reg devicelink_Far_r9)
  .ret) .skip)))
  (.seq (.seq (.reg devicelink_Far_r10)
  (.cond (.tmp (42 : Nat)) (.seq (.reg devicelink_Far_r11)
  .ret) .skip))
  (.seq (.seq (.reg devicelink_Far_r12)
  (.seq (.reg devicelink_Far_r13)
  (.cond (.tmp (48 : Nat)) (.seq (.reg devicelink_Far_r14)
  .ret) .skip)))
  (.seq (.reg devicelink_Far_r15)
  .ret))))))), [.tmp 8, .tmp 9]⟩
theorem devicelink_Far_s : slimF Try.prog 25 = some devicelink_Far_c := by kernel_rfl
abbrev devicelink_Far_f : Nat := 25
/-- printworks/devicelink.Check -/
def devicelink_Check_r0 : List SO := [⟨(some 1), .box 25 (.tmp (0 : Nat)), none⟩,
  ⟨(some 2), .assign (.const (.int .i64 0)), none⟩]
def devicelink_Check_r1 : List SO := [⟨(some 6), .load 25 (.tmp (1 : Nat)), none⟩,
  ⟨(some 7), .call ⟨(.value (.func (56 : Nat))), #[(.tmp (6 : Nat))], #[25]⟩, none⟩,
  ⟨(some 3), .assign (.tmp (7 : Nat)), none⟩]
def devicelink_Check_r2 : List SO := [⟨(some 8), .move (.tmp (3 : Nat)), none⟩,
  ⟨(some 9), .binOp .neq 33 (.tmp (8 : Nat)) (.const (.int .i64 0)) 33, none⟩]
def devicelink_Check_r3 : List SO := [⟨(some 10), .move (.tmp (3 : Nat)), none⟩,
  ⟨(some 2), .assign (.tmp (10 : Nat)), none⟩]
def devicelink_Check_r4 : List SO := [⟨(some 11), .fieldAddr 25 (.tmp (1 : Nat)) 3, none⟩,
  ⟨(some 12), .load 23 (.tmp (11 : Nat)), none⟩,
  ⟨(some 13), .call ⟨(.builtin .len), #[(.tmp (12 : Nat))], #[23]⟩, none⟩,
  ⟨(some 14), .move (.const (.int .i64 0)), none⟩]
def devicelink_Check_r5 : List SO := [⟨(some 15), .binOp .lss 3 (.tmp (14 : Nat)) (.tmp (13 : Nat)) 3, none⟩]
def devicelink_Check_r6 : List SO := [⟨(some 16), .indexAddr 23 (.tmp (12 : Nat)) (.tmp (14 : Nat)), none⟩,
  ⟨(some 17), .load 3 (.tmp (16 : Nat)), none⟩,
  ⟨(some 5), .assign (.tmp (17 : Nat)), none⟩]
def devicelink_Check_r7 : List SO := [⟨(some 18), .move (.tmp (5 : Nat)), none⟩,
  ⟨(some 19), .binOp .lss 3 (.tmp (18 : Nat)) (.const (.int .i64 0)) 3, none⟩,
  ⟨(some 20), .move (.tmp (19 : Nat)), none⟩,
  ⟨(some 21), .move (.tmp (5 : Nat)), (some (20, false))⟩,
  ⟨(some 22), .binOp .gtr 3 (.tmp (21 : Nat)) (.const (.int .i64 65280)) 3, (some (20, false))⟩,
  ⟨(some 23), .pick (.tmp (20 : Nat)) (.const (.bool true)) (.tmp (22 : Nat)), none⟩]
def devicelink_Check_r8 : List SO := [⟨(some 2), .assign (.const (.int .i64 3)), none⟩]
def devicelink_Check_r9 : List SO := [⟨(some 24), .binOp .add 3 (.tmp (14 : Nat)) (.const (.int .i64 1)) 3, none⟩,
  ⟨(some 14), .move (.tmp (24 : Nat)), none⟩]
def devicelink_Check_r10 : List SO := [⟨(some 2), .assign (.const (.int .i64 0)), none⟩]
def devicelink_Check_c : SF := ⟨25, (.seq (.reg devicelink_Check_r0)
  (.seq (.seq (.reg devicelink_Check_r1)
  (.seq (.reg devicelink_Check_r2)
  (.cond (.tmp (9 : Nat)) (.seq (.reg devicelink_Check_r3)
  .ret) .skip)))
  (.seq (.seq (.reg devicelink_Check_r4)
  (.block 0 (.loop (.seq (.reg devicelink_Check_r5)
  (.seq (.cond (.tmp (15 : Nat)) .skip (.exit 0))
  (.seq (.block 1 (.seq (.reg devicelink_Check_r6)
  (.seq (.reg devicelink_Check_r7)
  (.cond (.tmp (23 : Nat)) (.seq (.reg devicelink_Check_r8)
  .ret) .skip))))
  (.reg devicelink_Check_r9)))))))
  (.seq (.reg devicelink_Check_r10)
  .ret)))), [.tmp 2]⟩
theorem devicelink_Check_s : slimF Try.prog 47 = some devicelink_Check_c := by kernel_rfl
abbrev devicelink_Check_f : Nat := 47
/-- printworks/devicelink.Quick -/
def devicelink_Quick_r0 : List SO := [⟨(some 4), .assign (.const (.slice none 0 0)), none⟩]
def devicelink_Quick_r1 : List SO := [⟨(some 11), .move (.tmp (1 : Nat)), none⟩,
  ⟨(some 12), .call ⟨(.builtin .len), #[(.tmp (11 : Nat))], #[23]⟩, none⟩,
  ⟨(some 13), .makeSlice 23 (.tmp (12 : Nat)) (.tmp (12 : Nat)), none⟩,
  ⟨(some 5), .assign (.tmp (13 : Nat)), none⟩]
def devicelink_Quick_r2 : List SO := [⟨(some 14), .move (.tmp (1 : Nat)), none⟩,
  ⟨(some 15), .call ⟨(.builtin .len), #[(.tmp (14 : Nat))], #[23]⟩, none⟩,
  ⟨(some 16), .move (.const (.int .i64 0)), none⟩]
def devicelink_Quick_r3 : List SO := [⟨(some 17), .binOp .lss 3 (.tmp (16 : Nat)) (.tmp (15 : Nat)) 3, none⟩]
def devicelink_Quick_r4 : List SO := [⟨(some 18), .move (.tmp (16 : Nat)), none⟩,
  ⟨(some 19), .indexAddr 23 (.tmp (14 : Nat)) (.tmp (16 : Nat)), none⟩,
  ⟨(some 20), .load 3 (.tmp (19 : Nat)), none⟩,
  ⟨(some 6), .assign (.tmp (18 : Nat)), none⟩,
  ⟨(some 7), .assign (.tmp (20 : Nat)), none⟩]
def devicelink_Quick_r5 : List SO := [⟨(some 21), .move (.tmp (5 : Nat)), none⟩,
  ⟨(some 22), .move (.tmp (6 : Nat)), none⟩,
  ⟨(some 23), .move (.tmp (7 : Nat)), none⟩,
  ⟨(some 24), .binOp .mul 3 (.const (.int .i64 256)) (.tmp (23 : Nat)) 3, none⟩,
  ⟨(some 25), .indexAddr 23 (.tmp (21 : Nat)) (.tmp (22 : Nat)), none⟩,
  ⟨none, .store 3 (.tmp (25 : Nat)) (.tmp (24 : Nat)), none⟩]
def devicelink_Quick_r6 : List SO := [⟨(some 26), .binOp .add 3 (.tmp (16 : Nat)) (.const (.int .i64 1)) 3, none⟩,
  ⟨(some 16), .move (.tmp (26 : Nat)), none⟩]
def devicelink_Quick_r7 : List SO := [⟨(some 27), .move (.tmp (0 : Nat)), none⟩,
  ⟨(some 28), .move (.tmp (5 : Nat)), none⟩,
  ⟨(some 29), .call ⟨(.value (.func (58 : Nat))), #[(.tmp (27 : Nat)), (.tmp (28 : Nat))], #[82, 23]⟩, none⟩,
  ⟨(some 8), .assign (.tmp (29 : Nat)), none⟩]
def devicelink_Quick_r8 : List SO := [⟨(some 30), .move (.tmp (8 : Nat)), none⟩,
  ⟨(some 31), .call ⟨(.builtin .len), #[(.tmp (30 : Nat))], #[23]⟩, none⟩,
  ⟨(some 32), .move (.const (.int .i64 0)), none⟩]
def devicelink_Quick_r9 : List SO := [⟨(some 33), .binOp .lss 3 (.tmp (32 : Nat)) (.tmp (31 : Nat)) 3, none⟩]
def devicelink_Quick_r10 : List SO := [⟨(some 34), .move (.tmp (32 : Nat)), none⟩,
  ⟨(some 35), .indexAddr 23 (.tmp (30 : Nat)) (.tmp (32 : Nat)), none⟩,
  ⟨(some 36), .load 3 (.tmp (35 : Nat)), none⟩,
  ⟨(some 9), .assign (.tmp (34 : Nat)), none⟩,
  ⟨(some 10), .assign (.tmp (36 : Nat)), none⟩]
def devicelink_Quick_r11 : List SO := [⟨(some 37), .move (.tmp (8 : Nat)), none⟩,
  ⟨(some 38), .move (.tmp (9 : Nat)), none⟩,
  ⟨(some 39), .move (.tmp (10 : Nat)), none⟩,
  ⟨(some 40), .move (.tmp (0 : Nat)), none⟩,
  ⟨(some 41), .nilCheck (.tmp (40 : Nat)), none⟩,
  ⟨(some 42), .fieldAddr 25 (.tmp (41 : Nat)) 2, none⟩,
  ⟨(some 43), .load 3 (.tmp (42 : Nat)), none⟩,
  ⟨(some 44), .binOp .sub 3 (.tmp (43 : Nat)) (.const (.int .i64 1)) 3, none⟩,
  ⟨(some 45), .binOp .quo 3 (.const (.int .i64 65280)) (.tmp (44 : Nat)) 3, none⟩,
  ⟨(some 46), .binOp .mul 3 (.const (.int .i64 256)) (.tmp (45 : Nat)) 3, none⟩,
  ⟨(some 47), .call ⟨(.value (.func (78 : Nat))), #[(.tmp (39 : Nat)), (.tmp (46 : Nat))], #[3, 3]⟩, none⟩,
  ⟨(some 48), .indexAddr 23 (.tmp (37 : Nat)) (.tmp (38 : Nat)), none⟩,
  ⟨none, .store 3 (.tmp (48 : Nat)) (.tmp (47 : Nat)), none⟩]
def devicelink_Quick_r12 : List SO := [⟨(some 49), .binOp .add 3 (.tmp (32 : Nat)) (.const (.int .i64 1)) 3, none⟩,
  ⟨(some 32), .move (.tmp (49 : Nat)), none⟩]
def devicelink_Quick_r13 : List SO := [⟨(some 50), .move (.tmp (8 : Nat)), none⟩,
  ⟨(some 4), .assign (.tmp (50 : Nat)), none⟩]
def devicelink_Quick_c : SF := ⟨51, (.seq (.reg devicelink_Quick_r0)
  (.seq (.reg devicelink_Quick_r1)
  (.seq (.seq (.reg devicelink_Quick_r2)
  (.block 0 (.loop (.seq (.reg devicelink_Quick_r3)
  (.seq (.cond (.tmp (17 : Nat)) .skip (.exit 0))
  (.seq (.block 1 (.seq (.reg devicelink_Quick_r4)
  (.reg devicelink_Quick_r5)))
  (.reg devicelink_Quick_r6)))))))
  (.seq (.reg devicelink_Quick_r7)
  (.seq (.seq (.reg devicelink_Quick_r8)
  (.block 2 (.loop (.seq (.reg devicelink_Quick_r9)
  (.seq (.cond (.tmp (33 : Nat)) .skip (.exit 2))
  (.seq (.block 3 (.seq (.reg devicelink_Quick_r10)
  (.reg devicelink_Quick_r11)))
  (.reg devicelink_Quick_r12)))))))
  (.seq (.reg devicelink_Quick_r13)
  .ret)))))), [.tmp 4]⟩
theorem devicelink_Quick_s : slimF Try.prog 49 = some devicelink_Quick_c := by kernel_rfl
abbrev devicelink_Quick_f : Nat := 49
/-- printworks/devicelink.Build -/
def devicelink_Build_r0 : List SO := [⟨(some 3), .box 62 (.tmp (0 : Nat)), none⟩,
  ⟨(some 4), .box 62 (.tmp (1 : Nat)), none⟩,
  ⟨(some 5), .box 100 (.tmp (2 : Nat)), none⟩,
  ⟨(some 6), .alloc 25, none⟩,
  ⟨(some 7), .assign (.const (.int .i64 0)), none⟩]
def devicelink_Build_r1 : List SO := [⟨(some 11), .load 62 (.tmp (3 : Nat)), none⟩,
  ⟨(some 12), .call ⟨(.value (.func (33 : Nat))), #[(.tmp (11 : Nat))], #[62]⟩, none⟩,
  ⟨(some 8), .assign (.tmp (12 : Nat)), none⟩]
def devicelink_Build_r2 : List SO := [⟨(some 13), .move (.tmp (8 : Nat)), none⟩,
  ⟨(some 14), .binOp .neq 33 (.tmp (13 : Nat)) (.const (.int .i64 0)) 33, none⟩]
def devicelink_Build_r3 : List SO := [⟨(some 15), .build 25 #[], none⟩,
  ⟨(some 16), .move (.tmp (8 : Nat)), none⟩,
  ⟨none, .store 25 (.tmp (6 : Nat)) (.tmp (15 : Nat)), none⟩,
  ⟨(some 7), .assign (.tmp (16 : Nat)), none⟩]
def devicelink_Build_r4 : List SO := [⟨(some 17), .load 62 (.tmp (4 : Nat)), none⟩,
  ⟨(some 18), .call ⟨(.value (.func (33 : Nat))), #[(.tmp (17 : Nat))], #[62]⟩, none⟩,
  ⟨(some 9), .assign (.tmp (18 : Nat)), none⟩]
def devicelink_Build_r5 : List SO := [⟨(some 19), .move (.tmp (9 : Nat)), none⟩,
  ⟨(some 20), .binOp .neq 33 (.tmp (19 : Nat)) (.const (.int .i64 0)) 33, none⟩]
def devicelink_Build_r6 : List SO := [⟨(some 21), .build 25 #[], none⟩,
  ⟨(some 22), .move (.tmp (9 : Nat)), none⟩,
  ⟨none, .store 25 (.tmp (6 : Nat)) (.tmp (21 : Nat)), none⟩,
  ⟨(some 7), .assign (.tmp (22 : Nat)), none⟩]
def devicelink_Build_r7 : List SO := [⟨(some 23), .call ⟨(.value (.func (80 : Nat))), #[(.tmp (3 : Nat)), (.tmp (4 : Nat)), (.tmp (5 : Nat))], #[105, 105, 137]⟩, none⟩,
  ⟨(some 10), .assign (.tmp (23 : Nat)), none⟩]
def devicelink_Build_r8 : List SO := [⟨(some 24), .move (.tmp (10 : Nat)), none⟩,
  ⟨(some 25), .binOp .neq 33 (.tmp (24 : Nat)) (.const (.int .i64 0)) 33, none⟩]
def devicelink_Build_r9 : List SO := [⟨(some 26), .build 25 #[], none⟩,
  ⟨(some 27), .move (.tmp (10 : Nat)), none⟩,
  ⟨none, .store 25 (.tmp (6 : Nat)) (.tmp (26 : Nat)), none⟩,
  ⟨(some 7), .assign (.tmp (27 : Nat)), none⟩]
def devicelink_Build_r10 : List SO := [⟨(some 28), .fieldAddr 62 (.tmp (3 : Nat)) 1, none⟩,
  ⟨(some 29), .load 22 (.tmp (28 : Nat)), none⟩,
  ⟨(some 30), .call ⟨(.builtin .len), #[(.tmp (29 : Nat))], #[22]⟩, none⟩,
  ⟨(some 31), .fieldAddr 62 (.tmp (4 : Nat)) 1, none⟩,
  ⟨(some 32), .load 22 (.tmp (31 : Nat)), none⟩,
  ⟨(some 33), .call ⟨(.builtin .len), #[(.tmp (32 : Nat))], #[22]⟩, none⟩,
  ⟨(some 34), .fieldAddr 100 (.tmp (5 : Nat)) 0, none⟩,
  ⟨(some 35), .load 3 (.tmp (34 : Nat)), none⟩,
  ⟨(some 36), .makeFunc (.func (82 : Nat)) #[] #[(.tmp (5 : Nat)), (.tmp (3 : Nat)), (.tmp (4 : Nat))], none⟩,
  ⟨(some 37), .call ⟨(.value (.func (81 : Nat))), #[(.tmp (30 : Nat)), (.tmp (33 : Nat)), (.tmp (35 : Nat)), (.tmp (36 : Nat))], #[3, 3, 3, 147]⟩, none⟩,
  ⟨(some 38), .extract (.tmp (37 : Nat)) 0, none⟩,
  ⟨(some 39), .extract (.tmp (37 : Nat)) 1, none⟩,
  ⟨none, .store 25 (.tmp (6 : Nat)) (.tmp (38 : Nat)), none⟩,
  ⟨(some 7), .assign (.tmp (39 : Nat)), none⟩]
def devicelink_Build_c : SF := ⟨40, (.seq (.reg devicelink_Build_r0)
  (.seq (.seq (.reg devicelink_Build_r1)
  (.seq (.reg devicelink_Build_r2)
  (.cond (.tmp (14 : Nat)) (.seq (.reg devicelink_Build_r3)
  .ret) .skip)))
  (.seq (.seq (.reg devicelink_Build_r4)
  (.seq (.reg devicelink_Build_r5)
  (.cond (.tmp (20 : Nat)) (.seq (.reg devicelink_Build_r6)
  .ret) .skip)))
  (.seq (.seq (.reg devicelink_Build_r7)
  (.seq (.reg devicelink_Build_r8)
  (.cond (.tmp (25 : Nat)) (.seq (.reg devicelink_Build_r9)
  .ret) .skip)))
  (.seq (.reg devicelink_Build_r10)
  .ret))))), [.cell 6 25, .tmp 7]⟩
theorem devicelink_Build_s : slimF Try.prog 53 = some devicelink_Build_c := by kernel_rfl
/-- printworks/devicelink.check -/
def devicelink_check_r0 : List SO := [⟨(some 6), .assign (.const (.int .i64 0)), none⟩]
def devicelink_check_r1 : List SO := [⟨(some 7), .assign (.const (.int .i64 1)), none⟩]
def devicelink_check_r2 : List SO := [⟨(some 12), .move (.tmp (2 : Nat)), none⟩,
  ⟨(some 13), .nilCheck (.tmp (12 : Nat)), none⟩,
  ⟨(some 14), .fieldAddr 100 (.tmp (13 : Nat)) 0, none⟩,
  ⟨(some 15), .load 3 (.tmp (14 : Nat)), none⟩]
def devicelink_check_r3 : List SO := [⟨(some 17), .binOp .eql 3 (.tmp (15 : Nat)) (.const (.int .i64 2)) 3, none⟩,
  ⟨(some 16), .assign (.tmp (17 : Nat)), none⟩]
def devicelink_check_r4 : List SO := [⟨(some 18), .binOp .eql 3 (.tmp (15 : Nat)) (.const (.int .i64 4)) 3, none⟩,
  ⟨(some 16), .assign (.tmp (18 : Nat)), none⟩]
def devicelink_check_r5 : List SO := [⟨(some 19), .binOp .eql 3 (.tmp (15 : Nat)) (.const (.int .i64 6)) 3, none⟩,
  ⟨(some 16), .assign (.tmp (19 : Nat)), none⟩]
def devicelink_check_r6 : List SO := [⟨(some 20), .move (.tmp (0 : Nat)), none⟩,
  ⟨(some 21), .nilCheck (.tmp (20 : Nat)), none⟩,
  ⟨(some 22), .fieldAddr 62 (.tmp (21 : Nat)) 1, none⟩,
  ⟨(some 23), .load 22 (.tmp (22 : Nat)), none⟩,
  ⟨(some 24), .call ⟨(.builtin .len), #[(.tmp (23 : Nat))], #[22]⟩, none⟩,
  ⟨(some 25), .move (.const (.int .i64 0)), none⟩]
def devicelink_check_r7 : List SO := [⟨(some 26), .binOp .lss 3 (.tmp (25 : Nat)) (.tmp (24 : Nat)) 3, none⟩]
def devicelink_check_r8 : List SO := [⟨(some 27), .move (.tmp (7 : Nat)), none⟩,
  ⟨(some 28), .move (.tmp (2 : Nat)), none⟩,
  ⟨(some 29), .nilCheck (.tmp (28 : Nat)), none⟩,
  ⟨(some 30), .fieldAddr 100 (.tmp (29 : Nat)) 0, none⟩,
  ⟨(some 31), .load 3 (.tmp (30 : Nat)), none⟩,
  ⟨(some 32), .binOp .mul 3 (.tmp (27 : Nat)) (.tmp (31 : Nat)) 3, none⟩,
  ⟨(some 7), .assign (.tmp (32 : Nat)), none⟩]
def devicelink_check_r9 : List SO := [⟨(some 33), .binOp .add 3 (.tmp (25 : Nat)) (.const (.int .i64 1)) 3, none⟩,
  ⟨(some 25), .move (.tmp (33 : Nat)), none⟩]
def devicelink_check_r10 : List SO := [⟨(some 6), .assign (.const (.int .i64 3)), none⟩]
def devicelink_check_r11 : List SO := [⟨(some 34), .move (.tmp (7 : Nat)), none⟩,
  ⟨(some 35), .binOp .gtr 3 (.tmp (34 : Nat)) (.const (.int .i64 256)) 3, none⟩]
def devicelink_check_r12 : List SO := [⟨(some 6), .assign (.const (.int .i64 2)), none⟩]
def devicelink_check_r13 : List SO := [⟨(some 36), .move (.tmp (1 : Nat)), none⟩,
  ⟨(some 37), .nilCheck (.tmp (36 : Nat)), none⟩,
  ⟨(some 38), .fieldAddr 62 (.tmp (37 : Nat)) 1, none⟩,
  ⟨(some 39), .load 22 (.tmp (38 : Nat)), none⟩,
  ⟨(some 40), .call ⟨(.builtin .len), #[(.tmp (39 : Nat))], #[22]⟩, none⟩,
  ⟨(some 41), .move (.tmp (1 : Nat)), none⟩,
  ⟨(some 42), .nilCheck (.tmp (41 : Nat)), none⟩,
  ⟨(some 43), .fieldAddr 62 (.tmp (42 : Nat)) 1, none⟩,
  ⟨(some 44), .load 22 (.tmp (43 : Nat)), none⟩,
  ⟨(some 45), .call ⟨(.builtin .len), #[(.tmp (44 : Nat))], #[22]⟩, none⟩,
  ⟨(some 46), .build 43 #[], none⟩,
  ⟨(some 47), .move (.tmp (2 : Nat)), none⟩,
  ⟨(some 48), .call ⟨(.value (.func (84 : Nat))), #[(.tmp (45 : Nat)), (.tmp (46 : Nat)), (.tmp (47 : Nat))], #[3, 43, 137]⟩, none⟩,
  ⟨(some 49), .call ⟨(.value (.func (92 : Nat))), #[(.tmp (40 : Nat)), (.tmp (48 : Nat))], #[3, 142]⟩, none⟩,
  ⟨(some 8), .assign (.tmp (49 : Nat)), none⟩]
def devicelink_check_a13 : List (List Nat) := [[], [0], [1], [2], [3], [], [5], [6], [7], [8], [], [], [9, 10, 11], [4, 12, 12], [13, 13, 0, 1, 2, 3, 4, 5, 6, 7, 8, 9, 10, 11, 12, 13]]
def devicelink_check_r14 : List SO := [⟨(some 50), .move (.tmp (8 : Nat)), none⟩,
  ⟨(some 51), .binOp .neq 33 (.tmp (50 : Nat)) (.const (.int .i64 0)) 33, none⟩]
def devicelink_check_r15 : List SO := [⟨(some 52), .move (.tmp (8 : Nat)), none⟩,
  ⟨(some 6), .assign (.tmp (52 : Nat)), none⟩]
def devicelink_check_r16 : List SO := [⟨(some 53), .move (.tmp (2 : Nat)), none⟩,
  ⟨(some 54), .nilCheck (.tmp (53 : Nat)), none⟩,
  ⟨(some 55), .fieldAddr 100 (.tmp (54 : Nat)) 3, none⟩,
  ⟨(some 56), .load 4 (.tmp (55 : Nat)), none⟩,
  ⟨(some 57), .unOp .not 4 (.tmp (56 : Nat)), none⟩]
def devicelink_check_r17 : List SO := [⟨(some 58), .move (.tmp (2 : Nat)), none⟩,
  ⟨(some 59), .nilCheck (.tmp (58 : Nat)), none⟩,
  ⟨(some 60), .fieldAddr 100 (.tmp (59 : Nat)) 4, none⟩,
  ⟨(some 61), .load 43 (.tmp (60 : Nat)), none⟩,
  ⟨(some 62), .build 43 #[], none⟩,
  ⟨(some 63), .binOp .neq 43 (.tmp (61 : Nat)) (.tmp (62 : Nat)) 43, none⟩]
def devicelink_check_r18 : List SO := [⟨(some 6), .assign (.const (.int .i64 4)), none⟩]
def devicelink_check_r19 : List SO := [⟨(some 6), .assign (.const (.int .i64 0)), none⟩]
def devicelink_check_r20 : List SO := [⟨(some 65), .move (.tmp (1 : Nat)), none⟩,
  ⟨(some 66), .nilCheck (.tmp (65 : Nat)), none⟩,
  ⟨(some 67), .load 62 (.tmp (66 : Nat)), none⟩,
  ⟨(some 68), .move (.tmp (2 : Nat)), none⟩,
  ⟨(some 69), .nilCheck (.tmp (68 : Nat)), none⟩,
  ⟨(some 70), .fieldAddr 100 (.tmp (69 : Nat)) 4, none⟩,
  ⟨(some 71), .load 43 (.tmp (70 : Nat)), none⟩,
  ⟨(some 72), .move (.tmp (2 : Nat)), none⟩,
  ⟨(some 73), .nilCheck (.tmp (72 : Nat)), none⟩,
  ⟨(some 74), .fieldAddr 100 (.tmp (73 : Nat)) 4, none⟩,
  ⟨(some 75), .load 43 (.tmp (74 : Nat)), none⟩,
  ⟨(some 76), .call ⟨(.value (.func (93 : Nat))), #[(.tmp (67 : Nat)), (.tmp (71 : Nat)), (.tmp (75 : Nat))], #[62, 43, 43]⟩, none⟩,
  ⟨(some 64), .move (.tmp (76 : Nat)), none⟩,
  ⟨(some 77), .extract (.tmp (64 : Nat)) 0, none⟩,
  ⟨(some 78), .extract (.tmp (64 : Nat)) 1, none⟩,
  ⟨(some 79), .extract (.tmp (64 : Nat)) 2, none⟩,
  ⟨(some 9), .alloc 43, none⟩,
  ⟨none, .store 43 (.tmp (9 : Nat)) (.tmp (77 : Nat)), none⟩,
  ⟨(some 10), .assign (.tmp (78 : Nat)), none⟩,
  ⟨(some 11), .assign (.tmp (79 : Nat)), none⟩]
def devicelink_check_a20 : List (List Nat) := [[], [0], [1], [], [3], [4], [5], [], [7], [8], [9], [2, 6, 10], [11], [12], [12], [12], [], [16, 13, 11, 0, 1, 2, 3, 4, 5, 6, 7, 8, 9, 10, 11, 12, 13, 16], [14, 17, 0, 1, 2, 3, 4, 5, 6, 7, 8, 9, 10, 11, 12, 13, 14, 16, 17], [15, 18, 0, 1, 2, 3, 4, 5, 6, 7, 8, 9, 10, 11, 12, 13, 14, 15, 16, 17, 18]]
def devicelink_check_r21 : List SO := [⟨(some 80), .move (.tmp (11 : Nat)), none⟩,
  ⟨(some 6), .assign (.tmp (80 : Nat)), none⟩]
def devicelink_check_c : SF := ⟨81, (.seq (.reg devicelink_check_r0)
  (.seq (.reg devicelink_check_r1)
  (.seq (.seq (.reg devicelink_check_r2)
  (.block 0 (.seq (.seq (.reg devicelink_check_r3)
  (.cond (.tmp (16 : Nat)) .skip (.seq (.reg devicelink_check_r4)
  (.cond (.tmp (16 : Nat)) .skip (.reg devicelink_check_r5)))))
  (.cond (.tmp (16 : Nat)) (.seq (.reg devicelink_check_r6)
  (.block 1 (.loop (.seq (.reg devicelink_check_r7)
  (.seq (.cond (.tmp (26 : Nat)) .skip (.exit 1))
  (.seq (.block 2 (.reg devicelink_check_r8))
  (.reg devicelink_check_r9))))))) (.seq (.reg devicelink_check_r10)
  .ret)))))
  (.seq (.seq (.reg devicelink_check_r11)
  (.cond (.tmp (35 : Nat)) (.seq (.reg devicelink_check_r12)
  .ret) .skip))
  (.seq (.seq (.regd devicelink_check_r13 devicelink_check_a13)
  (.seq (.reg devicelink_check_r14)
  (.cond (.tmp (51 : Nat)) (.seq (.reg devicelink_check_r15)
  .ret) .skip)))
  (.seq (.seq (.reg devicelink_check_r16)
  (.cond (.tmp (57 : Nat)) (.seq (.seq (.reg devicelink_check_r17)
  (.cond (.tmp (63 : Nat)) (.seq (.reg devicelink_check_r18)
  .ret) .skip))
  (.seq (.reg devicelink_check_r19)
  .ret)) .skip))
  (.seq (.regd devicelink_check_r20 devicelink_check_a20)
  (.seq (.reg devicelink_check_r21)
  .ret)))))))), [.tmp 6]⟩
theorem devicelink_check_s : slimF Try.prog 80 = some devicelink_check_c := by kernel_rfl
/-- printworks/devicelink.Build$1 -/
def devicelink_Build_1_r0 : List SO := [⟨(some 5), .assign (.const (.slice none 0 0)), none⟩,
  ⟨(some 6), .assign (.const (.int .i64 0)), none⟩]
def devicelink_Build_1_r1 : List SO := [⟨(some 15), .move (.tmp (0 : Nat)), none⟩,
  ⟨(some 16), .call ⟨(.builtin .len), #[(.tmp (15 : Nat))], #[23]⟩, none⟩,
  ⟨(some 17), .move (.const (.int .i64 0)), none⟩]
def devicelink_Build_1_r2 : List SO := [⟨(some 18), .binOp .lss 3 (.tmp (17 : Nat)) (.tmp (16 : Nat)) 3, none⟩]
def devicelink_Build_1_r3 : List SO := [⟨(some 19), .move (.tmp (17 : Nat)), none⟩,
  ⟨(some 7), .assign (.tmp (19 : Nat)), none⟩]
def devicelink_Build_1_r4 : List SO := [⟨(some 20), .move (.tmp (0 : Nat)), none⟩,
  ⟨(some 21), .move (.tmp (7 : Nat)), none⟩,
  ⟨(some 22), .indexAddr 23 (.tmp (20 : Nat)) (.tmp (21 : Nat)), none⟩,
  ⟨(some 23), .load 3 (.tmp (22 : Nat)), none⟩,
  ⟨(some 24), .fieldAddr 100 (.tmp (1 : Nat)) 0, none⟩,
  ⟨(some 25), .load 3 (.tmp (24 : Nat)), none⟩,
  ⟨(some 26), .binOp .sub 3 (.tmp (25 : Nat)) (.const (.int .i64 1)) 3, none⟩,
  ⟨(some 27), .binOp .quo 3 (.const (.int .i64 255)) (.tmp (26 : Nat)) 3, none⟩,
  ⟨(some 28), .binOp .mul 3 (.tmp (23 : Nat)) (.tmp (27 : Nat)) 3, none⟩,
  ⟨(some 29), .indexAddr 23 (.tmp (20 : Nat)) (.tmp (21 : Nat)), none⟩,
  ⟨none, .store 3 (.tmp (29 : Nat)) (.tmp (28 : Nat)), none⟩]
def devicelink_Build_1_a4 : List (List Nat) := [[], [], [0, 1], [2], [], [4], [5], [6], [3, 7], [0, 1, 0, 1, 2, 3, 4, 5, 6, 7, 8], [9, 8, 0, 1, 2, 3, 4, 5, 6, 7, 8]]
def devicelink_Build_1_r5 : List SO := [⟨(some 30), .binOp .add 3 (.tmp (17 : Nat)) (.const (.int .i64 1)) 3, none⟩,
  ⟨(some 17), .move (.tmp (30 : Nat)), none⟩]
def devicelink_Build_1_r6 : List SO := [⟨(some 31), .move (.tmp (0 : Nat)), none⟩,
  ⟨(some 32), .call ⟨(.value (.func (60 : Nat))), #[(.tmp (2 : Nat)), (.tmp (31 : Nat))], #[105, 23]⟩, none⟩,
  ⟨(some 8), .alloc 43, none⟩,
  ⟨none, .store 43 (.tmp (8 : Nat)) (.tmp (32 : Nat)), none⟩]
def devicelink_Build_1_r7 : List SO := [⟨(some 33), .fieldAddr 100 (.tmp (1 : Nat)) 3, none⟩,
  ⟨(some 34), .load 4 (.tmp (33 : Nat)), none⟩]
def devicelink_Build_1_r8 : List SO := [⟨(some 9), .assign (.const (.int .i64 0)), none⟩]
def devicelink_Build_1_r9 : List SO := [⟨(some 36), .load 43 (.tmp (8 : Nat)), none⟩,
  ⟨(some 37), .fieldAddr 100 (.tmp (1 : Nat)) 4, none⟩,
  ⟨(some 38), .load 43 (.tmp (37 : Nat)), none⟩,
  ⟨(some 39), .call ⟨(.value (.func (83 : Nat))), #[(.tmp (3 : Nat)), (.tmp (36 : Nat)), (.tmp (38 : Nat))], #[105, 43, 43]⟩, none⟩,
  ⟨(some 35), .move (.tmp (39 : Nat)), none⟩,
  ⟨(some 40), .extract (.tmp (35 : Nat)) 0, none⟩,
  ⟨(some 41), .extract (.tmp (35 : Nat)) 1, none⟩,
  ⟨(some 42), .extract (.tmp (35 : Nat)) 2, none⟩,
  ⟨none, .store 43 (.tmp (8 : Nat)) (.tmp (40 : Nat)), none⟩,
  ⟨(some 9), .assign (.tmp (42 : Nat)), none⟩]
def devicelink_Build_1_r10 : List SO := [⟨(some 43), .move (.tmp (9 : Nat)), none⟩,
  ⟨(some 44), .binOp .neq 33 (.tmp (43 : Nat)) (.const (.int .i64 0)) 33, none⟩]
def devicelink_Build_1_r11 : List SO := [⟨(some 45), .move (.tmp (9 : Nat)), none⟩,
  ⟨(some 5), .assign (.const (.slice none 0 0)), none⟩,
  ⟨(some 6), .assign (.tmp (45 : Nat)), none⟩]
def devicelink_Build_1_r12 : List SO := [⟨(some 46), .fieldAddr 62 (.tmp (3 : Nat)) 1, none⟩,
  ⟨(some 47), .load 22 (.tmp (46 : Nat)), none⟩,
  ⟨(some 48), .call ⟨(.builtin .len), #[(.tmp (47 : Nat))], #[22]⟩, none⟩,
  ⟨(some 49), .load 43 (.tmp (8 : Nat)), none⟩,
  ⟨(some 50), .call ⟨(.value (.func (84 : Nat))), #[(.tmp (48 : Nat)), (.tmp (49 : Nat)), (.tmp (1 : Nat))], #[3, 43, 137]⟩, none⟩,
  ⟨(some 10), .alloc 142, none⟩,
  ⟨none, .store 142 (.tmp (10 : Nat)) (.tmp (50 : Nat)), none⟩]
def devicelink_Build_1_r13 : List SO := [⟨(some 52), .call ⟨(.value (.func (85 : Nat))), #[(.tmp (3 : Nat)), (.tmp (10 : Nat))], #[105, 146]⟩, none⟩,
  ⟨(some 51), .move (.tmp (52 : Nat)), none⟩,
  ⟨(some 53), .extract (.tmp (51 : Nat)) 0, none⟩,
  ⟨(some 54), .extract (.tmp (51 : Nat)) 1, none⟩,
  ⟨(some 55), .extract (.tmp (51 : Nat)) 2, none⟩,
  ⟨(some 11), .assign (.tmp (53 : Nat)), none⟩,
  ⟨(some 12), .assign (.tmp (54 : Nat)), none⟩,
  ⟨(some 13), .assign (.tmp (55 : Nat)), none⟩]
def devicelink_Build_1_r14 : List SO := [⟨(some 56), .move (.tmp (13 : Nat)), none⟩,
  ⟨(some 57), .binOp .neq 33 (.tmp (56 : Nat)) (.const (.int .i64 0)) 33, none⟩]
def devicelink_Build_1_r15 : List SO := [⟨(some 58), .move (.tmp (13 : Nat)), none⟩,
  ⟨(some 5), .assign (.const (.slice none 0 0)), none⟩,
  ⟨(some 6), .assign (.tmp (58 : Nat)), none⟩]
def devicelink_Build_1_r16 : List SO := [⟨(some 59), .move (.tmp (11 : Nat)), none⟩,
  ⟨(some 60), .call ⟨(.builtin .len), #[(.tmp (59 : Nat))], #[23]⟩, none⟩,
  ⟨(some 61), .move (.const (.int .i64 0)), none⟩]
def devicelink_Build_1_r17 : List SO := [⟨(some 62), .binOp .lss 3 (.tmp (61 : Nat)) (.tmp (60 : Nat)) 3, none⟩]
def devicelink_Build_1_r18 : List SO := [⟨(some 63), .move (.tmp (61 : Nat)), none⟩,
  ⟨(some 14), .assign (.tmp (63 : Nat)), none⟩]
def devicelink_Build_1_r19 : List SO := [⟨(some 64), .move (.tmp (11 : Nat)), none⟩,
  ⟨(some 65), .move (.tmp (14 : Nat)), none⟩,
  ⟨(some 66), .indexAddr 23 (.tmp (64 : Nat)) (.tmp (65 : Nat)), none⟩,
  ⟨(some 67), .load 3 (.tmp (66 : Nat)), none⟩,
  ⟨(some 68), .binOp .mul 3 (.tmp (67 : Nat)) (.const (.int .i64 256)) 3, none⟩,
  ⟨(some 69), .indexAddr 23 (.tmp (64 : Nat)) (.tmp (65 : Nat)), none⟩,
  ⟨none, .store 3 (.tmp (69 : Nat)) (.tmp (68 : Nat)), none⟩]
def devicelink_Build_1_r20 : List SO := [⟨(some 70), .binOp .add 3 (.tmp (61 : Nat)) (.const (.int .i64 1)) 3, none⟩,
  ⟨(some 61), .move (.tmp (70 : Nat)), none⟩]
def devicelink_Build_1_r21 : List SO := [⟨(some 71), .move (.tmp (11 : Nat)), none⟩,
  ⟨(some 5), .assign (.tmp (71 : Nat)), none⟩,
  ⟨(some 6), .assign (.const (.int .i64 0)), none⟩]
def devicelink_Build_1_c : SF := ⟨72, (.seq (.reg devicelink_Build_1_r0)
  (.seq (.seq (.reg devicelink_Build_1_r1)
  (.block 0 (.loop (.seq (.reg devicelink_Build_1_r2)
  (.seq (.cond (.tmp (18 : Nat)) .skip (.exit 0))
  (.seq (.block 1 (.seq (.reg devicelink_Build_1_r3)
  (.regd devicelink_Build_1_r4 devicelink_Build_1_a4)))
  (.reg devicelink_Build_1_r5)))))))
  (.seq (.reg devicelink_Build_1_r6)
  (.seq (.seq (.reg devicelink_Build_1_r7)
  (.cond (.tmp (34 : Nat)) (.seq (.reg devicelink_Build_1_r8)
  (.seq (.reg devicelink_Build_1_r9)
  (.seq (.reg devicelink_Build_1_r10)
  (.cond (.tmp (44 : Nat)) (.seq (.reg devicelink_Build_1_r11)
  .ret) .skip)))) .skip))
  (.seq (.reg devicelink_Build_1_r12)
  (.seq (.reg devicelink_Build_1_r13)
  (.seq (.seq (.reg devicelink_Build_1_r14)
  (.cond (.tmp (57 : Nat)) (.seq (.reg devicelink_Build_1_r15)
  .ret) .skip))
  (.seq (.seq (.reg devicelink_Build_1_r16)
  (.block 2 (.loop (.seq (.reg devicelink_Build_1_r17)
  (.seq (.cond (.tmp (62 : Nat)) .skip (.exit 2))
  (.seq (.block 3 (.seq (.reg devicelink_Build_1_r18)
  (.reg devicelink_Build_1_r19)))
  (.reg devicelink_Build_1_r20)))))))
  (.seq (.reg devicelink_Build_1_r21)
  .ret))))))))), [.tmp 5, .tmp 6]⟩
theorem devicelink_Build_1_s : slimF Try.prog 82 = some devicelink_Build_1_c := by kernel_rfl
/-- printworks/devicelink.ask -/
def devicelink_ask_r0 : List SO := [⟨(some 4), .box 43 (.tmp (1 : Nat)), none⟩,
  ⟨(some 6), .alloc 142, none⟩]
def devicelink_ask_r1 : List SO := [⟨(some 9), .load 43 (.tmp (4 : Nat)), none⟩,
  ⟨(some 10), .move (.tmp (2 : Nat)), none⟩,
  ⟨(some 11), .nilCheck (.tmp (10 : Nat)), none⟩,
  ⟨(some 12), .fieldAddr 100 (.tmp (11 : Nat)) 1, none⟩,
  ⟨(some 13), .load 3 (.tmp (12 : Nat)), none⟩,
  ⟨(some 14), .move (.tmp (2 : Nat)), none⟩,
  ⟨(some 15), .nilCheck (.tmp (14 : Nat)), none⟩,
  ⟨(some 16), .fieldAddr 100 (.tmp (15 : Nat)) 2, none⟩,
  ⟨(some 17), .load 3 (.tmp (16 : Nat)), none⟩,
  ⟨(some 18), .move (.tmp (0 : Nat)), none⟩,
  ⟨(some 19), .makeSlice 23 (.tmp (18 : Nat)) (.tmp (18 : Nat)), none⟩,
  ⟨(some 20), .move (.tmp (0 : Nat)), none⟩,
  ⟨(some 21), .makeSlice 23 (.tmp (20 : Nat)) (.tmp (20 : Nat)), none⟩,
  ⟨(some 22), .build 142 #[(0, (.tmp (9 : Nat))), (1, (.tmp (13 : Nat))), (2, (.tmp (17 : Nat))), (3, (.tmp (19 : Nat))), (4, (.tmp (21 : Nat)))], none⟩,
  ⟨(some 7), .alloc 142, none⟩,
  ⟨none, .store 142 (.tmp (7 : Nat)) (.tmp (22 : Nat)), none⟩]
def devicelink_ask_a1 : List (List Nat) := [[], [], [1], [2], [3], [], [5], [6], [7], [], [9, 9], [], [11, 11], [0, 4, 8, 10, 12], [], [14, 13, 0, 1, 2, 3, 4, 5, 6, 7, 8, 9, 10, 11, 12, 13, 14]]
def devicelink_ask_r2 : List SO := [⟨(some 23), .move (.tmp (0 : Nat)), none⟩,
  ⟨(some 24), .move (.const (.int .i64 0)), none⟩]
def devicelink_ask_r3 : List SO := [⟨(some 25), .binOp .lss 3 (.tmp (24 : Nat)) (.tmp (23 : Nat)) 3, none⟩]
def devicelink_ask_r4 : List SO := [⟨(some 26), .move (.tmp (24 : Nat)), none⟩,
  ⟨(some 8), .assign (.tmp (26 : Nat)), none⟩]
def devicelink_ask_r5 : List SO := [⟨(some 27), .fieldAddr 142 (.tmp (7 : Nat)) 4, none⟩,
  ⟨(some 28), .load 23 (.tmp (27 : Nat)), none⟩,
  ⟨(some 29), .move (.tmp (8 : Nat)), none⟩,
  ⟨(some 30), .indexAddr 23 (.tmp (28 : Nat)) (.tmp (29 : Nat)), none⟩,
  ⟨none, .store 3 (.tmp (30 : Nat)) (.const (.int .i64 255)), none⟩]
def devicelink_ask_r6 : List SO := [⟨(some 31), .binOp .add 3 (.tmp (24 : Nat)) (.const (.int .i64 1)) 3, none⟩,
  ⟨(some 24), .move (.tmp (31 : Nat)), none⟩]
def devicelink_ask_r7 : List SO := [⟨(some 32), .load 142 (.tmp (7 : Nat)), none⟩,
  ⟨none, .store 142 (.tmp (6 : Nat)) (.tmp (32 : Nat)), none⟩]
def devicelink_ask_c : SF := ⟨33, (.seq (.reg devicelink_ask_r0)
  (.seq (.regd devicelink_ask_r1 devicelink_ask_a1)
  (.seq (.seq (.reg devicelink_ask_r2)
  (.block 0 (.loop (.seq (.reg devicelink_ask_r3)
  (.seq (.cond (.tmp (25 : Nat)) .skip (.exit 0))
  (.seq (.block 1 (.seq (.reg devicelink_ask_r4)
  (.reg devicelink_ask_r5)))
  (.reg devicelink_ask_r6)))))))
  (.seq (.reg devicelink_ask_r7)
  .ret)))), [.cell 6 142]⟩
theorem devicelink_ask_s : slimF Try.prog 84 = some devicelink_ask_c := by kernel_rfl
def tbl_devicelink : List (Nat × SF) := [(18, devicelink_Convert_c), (25, devicelink_Far_c), (47, devicelink_Check_c), (49, devicelink_Quick_c), (53, devicelink_Build_c), (80, devicelink_check_c), (82, devicelink_Build_1_c), (84, devicelink_ask_c)]
theorem tbl_devicelink_ok : okT Try.prog tbl_devicelink := ⟨devicelink_Convert_s, devicelink_Far_s, devicelink_Check_s, devicelink_Quick_s, devicelink_Build_s, devicelink_check_s, devicelink_Build_1_s, devicelink_ask_s, trivial⟩

end Go.Proofs.Ytogbkhopanaoiaa
