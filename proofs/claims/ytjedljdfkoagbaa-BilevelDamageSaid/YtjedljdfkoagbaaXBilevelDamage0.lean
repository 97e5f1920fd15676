/- Printed by program: the functions' code in few words; the kernel checks it against the translation. -/
import Derived.Test.YtjedljdfkoagbaaRows
import Derived.Test.YtjedljdfkoagbaaLiteTP
namespace Go.Proofs.Ytjedljdfkoagbaa
open Go Go.Lite
set_option linter.unusedVariables false

/-- Int -/
abbrev Ey : Nat := 0
/-- Int -/
abbrev Ei : Nat := 1
/-- Bool -/
abbrev Eo : Nat := 2
/-- List (Int) -/
abbrev ELyJ : Nat := 4
/-- Int × Int -/
abbrev E2w : Nat := 7
@[reducible] def A (e : Nat) : Type := match e with
  | 0 => Int
  | 1 => Int
  | 2 => Bool
  | 3 => ByteArray
  | 4 => List (Int)
  | 5 => Int × Int
  | 6 => List (Int × Int)
  | 7 => Int × Int
  | 8 => Int × Int × Int × Int × Int × Int
  | _ => Unit
def eSz (e : Nat) : Nat := match e with
  | 0 => 1
  | 1 => 1
  | 2 => 1
  | 3 => 1
  | 4 => 1
  | 5 => 2
  | 6 => 1
  | 7 => 2
  | 8 => 6
  | _ => 1
def eD (e : Nat) : A e := match e with
  | 0 => (0 : Int)
  | 1 => (0 : Int)
  | 2 => false
  | 3 => (⟨#[]⟩ : ByteArray)
  | 4 => ([] : List (Int))
  | 5 => ((0 : Int), (0 : Int))
  | 6 => ([] : List (Int × Int))
  | 7 => ((0 : Int), (0 : Int))
  | 8 => ((0 : Int), (0 : Int), (0 : Int), (0 : Int), (0 : Int), (0 : Int))
  | _ + 9 => ()
def encL0 (x : Int) : List LV := [.int .u8 (x)]
def enc0 (x : Int) : List (TV A) := [.int .u8 (x)]
def dec0 (cs : List (TV A)) : Option (Int) := match cs with
  | [.int .u8 x0] => some x0
  | _ => none
def encL1 (x : Int) : List LV := [.int .i64 (x)]
def enc1 (x : Int) : List (TV A) := [.int .i64 (x)]
def dec1 (cs : List (TV A)) : Option (Int) := match cs with
  | [.int .i64 x0] => some x0
  | _ => none
def encL2 (x : Bool) : List LV := [.bool (x)]
def enc2 (x : Bool) : List (TV A) := [.bool (x)]
def dec2 (cs : List (TV A)) : Option (Bool) := match cs with
  | [.bool x0] => some x0
  | _ => none
def encL3 (x : ByteArray) : List LV := [.str (x)]
def enc3 (x : ByteArray) : List (TV A) := [.str (x)]
def dec3 (cs : List (TV A)) : Option (ByteArray) := match cs with
  | [.str x0] => some x0
  | _ => none
def encL4 (x : List (Int)) : List LV := [.ps 1 (List.length (x)) (List.flatMap encL0 (x))]
def enc4 (x : List (Int)) : List (TV A) := [.lst 0 (x)]
def dec4 (cs : List (TV A)) : Option (List (Int)) := match cs with
  | [.lst 0 x0] => some x0
  | _ => none
def encL5 (x : Int × Int) : List LV := [.int .i64 (x.1), .int .i64 (x.2)]
def enc5 (x : Int × Int) : List (TV A) := [.int .i64 (x.1), .int .i64 (x.2)]
def dec5 (cs : List (TV A)) : Option (Int × Int) := match cs with
  | [.int .i64 x0, .int .i64 x1] => some (x0, x1)
  | _ => none
def encL6 (x : List (Int × Int)) : List LV := [.ps 2 (List.length (x)) (List.flatMap encL5 (x))]
def enc6 (x : List (Int × Int)) : List (TV A) := [.lst 5 (x)]
def dec6 (cs : List (TV A)) : Option (List (Int × Int)) := match cs with
  | [.lst 5 x0] => some x0
  | _ => none
def encL7 (x : Int × Int) : List LV := [.int .u32 (x.1), .int .u32 (x.2)]
def enc7 (x : Int × Int) : List (TV A) := [.int .u32 (x.1), .int .u32 (x.2)]
def dec7 (cs : List (TV A)) : Option (Int × Int) := match cs with
  | [.int .u32 x0, .int .u32 x1] => some (x0, x1)
  | _ => none
def encL8 (x : Int × Int × Int × Int × Int × Int) : List LV := [.int .i64 (x.1), .int .i64 (x.2.1), .int .i64 (x.2.2.1), .int .i64 (x.2.2.2.1), .int .i64 (x.2.2.2.2.1), .int .i64 (x.2.2.2.2.2)]
def enc8 (x : Int × Int × Int × Int × Int × Int) : List (TV A) := [.int .i64 (x.1), .int .i64 (x.2.1), .int .i64 (x.2.2.1), .int .i64 (x.2.2.2.1), .int .i64 (x.2.2.2.2.1), .int .i64 (x.2.2.2.2.2)]
def dec8 (cs : List (TV A)) : Option (Int × Int × Int × Int × Int × Int) := match cs with
  | [.int .i64 x0, .int .i64 x1, .int .i64 x2, .int .i64 x3, .int .i64 x4, .int .i64 x5] => some (x0, x1, x2, x3, x4, x5)
  | _ => none
def eEncL (e : Nat) (a : A e) : List LV := match e, a with
  | 0, a => encL0 a
  | 1, a => encL1 a
  | 2, a => encL2 a
  | 3, a => encL3 a
  | 4, a => encL4 a
  | 5, a => encL5 a
  | 6, a => encL6 a
  | 7, a => encL7 a
  | 8, a => encL8 a
  | _ + 9, _ => [.nilp]
def eEnc (e : Nat) (a : A e) : List (TV A) := match e, a with
  | 0, a => enc0 a
  | 1, a => enc1 a
  | 2, a => enc2 a
  | 3, a => enc3 a
  | 4, a => enc4 a
  | 5, a => enc5 a
  | 6, a => enc6 a
  | 7, a => enc7 a
  | 8, a => enc8 a
  | _ + 9, _ => [.nilp]
def eDec (e : Nat) (cs : List (TV A)) : Option (A e) := match e with
  | 0 => dec0 cs
  | 1 => dec1 cs
  | 2 => dec2 cs
  | 3 => dec3 cs
  | 4 => dec4 cs
  | 5 => dec5 cs
  | 6 => dec6 cs
  | 7 => dec7 cs
  | 8 => dec8 cs
  | _ + 9 => none
def eEl (t : Nat) : Option Nat := match t with
  | 22 => some 0
  | 25 => some 1
  | 63 => some 2
  | 66 => some 3
  | 113 => some 4
  | 67 => some 6
  | 154 => some 7
  | 172 => some 5
  | 218 => some 8
  | 182 => some 1
  | 184 => some 1
  | 181 => some 1
  | 243 => some 1
  | _ => none
def fl (e : Nat) : Bool := match e with
  | 0 => true
  | 1 => true
  | 2 => true
  | 3 => true
  | 4 => false
  | 5 => true
  | 6 => false
  | 7 => true
  | 8 => true
  | _ => false
def eByt (e : Nat) : Option (List (A e) → List Int) := match e with
  | 0 => some fun xs => xs
  | _ => none
theorem flat1 : ∀ xs : List Int, xs.flatMap (fun x => [LV.int .u8 x]) = xs.map (LV.int .u8)
  | [] => rfl
  | x :: r => congrArg (LV.int .u8 x :: ·) (flat1 r)
def R : Reg A := ⟨eSz, eD, eEncL, eEnc, eDec, eEl, eByt⟩
theorem R_ok : R.Ok where
  pos e := by show 0 < eSz e; unfold eSz; split <;> decide
  len e a := match e, a with
    | 0, a => rfl
    | 1, a => rfl
    | 2, a => rfl
    | 3, a => rfl
    | 4, a => rfl
    | 5, a => rfl
    | 6, a => rfl
    | 7, a => rfl
    | 8, a => rfl
    | e + 9, a => rfl
  ok e a := match e, a with
    | 0, a => rfl
    | 1, a => rfl
    | 2, a => rfl
    | 3, a => rfl
    | 4, a => rfl
    | 5, a => rfl
    | 6, a => rfl
    | 7, a => rfl
    | 8, a => rfl
    | e + 9, a => rfl
  dec e cs a h := match e, a, h with
    | 0, a, h => by
      replace h : dec0 cs = some a := h
      unfold dec0 at h
      split at h
      · cases h; rfl
      · cases h
    | 1, a, h => by
      replace h : dec1 cs = some a := h
      unfold dec1 at h
      split at h
      · cases h; rfl
      · cases h
    | 2, a, h => by
      replace h : dec2 cs = some a := h
      unfold dec2 at h
      split at h
      · cases h; rfl
      · cases h
    | 3, a, h => by
      replace h : dec3 cs = some a := h
      unfold dec3 at h
      split at h
      · cases h; rfl
      · cases h
    | 4, a, h => by
      replace h : dec4 cs = some a := h
      unfold dec4 at h
      split at h
      · cases h; rfl
      · cases h
    | 5, a, h => by
      replace h : dec5 cs = some a := h
      unfold dec5 at h
      split at h
      · cases h; rfl
      · cases h
    | 6, a, h => by
      replace h : dec6 cs = some a := h
      unfold dec6 at h
      split at h
      · cases h; rfl
      · cases h
    | 7, a, h => by
      replace h : dec7 cs = some a := h
      unfold dec7 at h
      split at h
      · cases h; rfl
      · cases h
    | 8, a, h => by
      replace h : dec8 cs = some a := h
      unfold dec8 at h
      split at h
      · cases h; rfl
      · cases h
    | e + 9, a, h => by cases h
  free e a := match e, a with
    | 0, a => rfl
    | 1, a => rfl
    | 2, a => rfl
    | 3, a => rfl
    | 4, a => rfl
    | 5, a => rfl
    | 6, a => rfl
    | 7, a => rfl
    | 8, a => rfl
    | e + 9, a => rfl
  sol e a := match e, a with
    | 0, a => rfl
    | 1, a => rfl
    | 2, a => rfl
    | 3, a => rfl
    | 4, a => rfl
    | 5, a => rfl
    | 6, a => rfl
    | 7, a => rfl
    | 8, a => rfl
    | e + 9, a => rfl
  byt e f h xs := match e, f, h with
    | 0, f, h => by cases h; exact flat1 xs
    | 1, f, h => by cases h
    | 2, f, h => by cases h
    | 3, f, h => by cases h
    | 4, f, h => by cases h
    | 5, f, h => by cases h
    | 6, f, h => by cases h
    | 7, f, h => by cases h
    | 8, f, h => by cases h
    | e + 9, f, h => by cases h
theorem fl_ok : ∀ e, fl e = true → ∀ a, psfreeL (R.encL e a) = true := fun e h a => match e, h, a with
  | 0, h, a => rfl
  | 1, h, a => rfl
  | 2, h, a => rfl
  | 3, h, a => rfl
  | 4, h, a => by cases h
  | 5, h, a => rfl
  | 6, h, a => by cases h
  | 7, h, a => rfl
  | 8, h, a => rfl
  | e + 9, h, a => rfl

def tyL : List (Nat × TI) := [(0, ⟨.other, 1, false, [.dead]⟩),
  (24, ⟨.struct [(0, 1, false), (1, 1, false), (2, 1, false)], 3, true, [.int .i64 0, .int .i64 0, .nils]⟩),
  (27, ⟨.struct [(0, 1, false), (1, 1, false), (2, 1, false), (3, 1, false), (4, 1, false), (5, 1, false), (6, 1, false), (7, 1, false)], 8, true, [.int .i64 0, .int .i64 0, .int .i64 0, .int .i64 0, .int .i64 0, .int .i64 0, .int .i64 0, .nils]⟩),
  (30, ⟨.struct [(0, 1, false), (1, 1, false), (2, 1, false)], 3, true, [.int .i64 0, .int .i64 0, .nils]⟩),
  (31, ⟨.int .i64, 1, false, [.int .i64 0]⟩),
  (3, ⟨.int .i64, 1, false, [.int .i64 0]⟩),
  (22, ⟨.slice 1 1 [.int .u8 0], 1, false, [.nils]⟩),
  (25, ⟨.slice 1 8 [.int .i64 0], 1, false, [.nils]⟩),
  (4, ⟨.bool, 1, false, [.bool false]⟩),
  (5, ⟨.int .u8, 1, false, [.int .u8 0]⟩),
  (59, ⟨.struct [(0, 1, false), (1, 1, false), (2, 1, false)], 3, true, [.int .i64 0, .int .i64 0, .int .i64 0]⟩),
  (63, ⟨.slice 1 1 [.bool false], 1, false, [.nils]⟩),
  (71, ⟨.struct [(0, 1, false), (1, 1, false), (2, 1, false), (3, 4, true)], 7, true, [.str ⟨([] : List UInt8).toArray⟩, .nils, .nils, .int .i64 0, .int .i64 0, .int .i64 0, .nils]⟩),
  (73, ⟨.struct [(0, 1, false), (1, 1, false), (2, 1, false)], 3, true, [.int .i64 0, .int .i64 0, .int .i64 0]⟩),
  (80, ⟨.struct [(0, 3, true), (3, 1, false), (4, 1, false), (5, 1, false), (6, 1, false)], 7, true, [.int .i64 0, .int .i64 0, .int .i64 0, .int .i64 0, .int .i64 0, .nils, .nils]⟩),
  (66, ⟨.slice 1 16 [.str ⟨([] : List UInt8).toArray⟩], 1, false, [.nils]⟩),
  (91, ⟨.other, 1, false, [.nilp]⟩),
  (95, ⟨.other, 1, false, [.nilp]⟩),
  (9, ⟨.str, 1, false, [.str ⟨([] : List UInt8).toArray⟩]⟩),
  (104, ⟨.other, 1, false, [.nilp]⟩),
  (115, ⟨.struct [(0, 1, false), (1, 1, false), (2, 1, false), (3, 1, false)], 4, true, [.int .i64 0, .int .i64 0, .int .i64 0, .nils]⟩),
  (113, ⟨.slice 1 24 [.nils], 1, false, [.nils]⟩),
  (48, ⟨.other, 1, false, [.nilf]⟩),
  (122, ⟨.struct [(0, 1, false), (1, 1, false), (2, 1, false)], 3, true, [.int .i64 0, .int .i64 0, .int .i64 0]⟩),
  (130, ⟨.struct [(0, 1, false), (1, 1, false), (2, 1, false)], 3, true, [.int .i64 0, .int .i64 0, .int .i64 0]⟩),
  (137, ⟨.other, 1, false, [.nilp]⟩),
  (140, ⟨.other, 1, false, [.nilp]⟩),
  (143, ⟨.other, 1, false, [.nilp]⟩),
  (149, ⟨.other, 1, false, [.nilp]⟩),
  (201, ⟨.other, 1, false, [.nilf]⟩),
  (157, ⟨.struct [(0, 1, false), (1, 1, false), (2, 1, false)], 3, true, [.nils, .int .u32 0, .int .i64 0]⟩),
  (161, ⟨.struct [(0, 3, true), (3, 1, false), (4, 1, false), (5, 1, false)], 6, true, [.nils, .int .u32 0, .int .i64 0, .int .u32 0, .nils, .bool false]⟩),
  (155, ⟨.int .u32, 1, false, [.int .u32 0]⟩),
  (165, ⟨.other, 1, false, [.nilp]⟩),
  (169, ⟨.other, 1, false, [.nilf]⟩),
  (43, ⟨.other, 1, false, [.nilf]⟩),
  (67, ⟨.slice 1 24 [.nils], 1, false, [.nils]⟩),
  (69, ⟨.struct [(0, 1, false), (1, 1, false), (2, 1, false), (3, 1, false)], 4, true, [.int .i64 0, .int .i64 0, .int .i64 0, .nils]⟩),
  (174, ⟨.struct [(0, 1, false)], 1, true, [.nils]⟩),
  (189, ⟨.other, 1, false, [.nilf]⟩),
  (193, ⟨.struct [(0, 1, false), (1, 1, false), (2, 1, false), (3, 1, false), (4, 1, false), (5, 1, false), (6, 1, false), (7, 1, false)], 8, true, [.nilp, .nilp, .nils, .int .i64 0, .nils, .nils, .nils, .nils]⟩),
  (191, ⟨.other, 1, false, [.nilp]⟩),
  (199, ⟨.struct [(0, 3, true), (3, 1, false), (4, 1, false)], 5, true, [.nils, .int .u32 0, .int .i64 0, .int .u32 0, .nils]⟩),
  (154, ⟨.slice 2 8 [.int .u32 0, .int .u32 0], 1, false, [.nils]⟩),
  (203, ⟨.other, 1, false, [.nilp]⟩),
  (205, ⟨.struct [(0, 1, false), (1, 1, false)], 2, true, [.int .u32 0, .int .u32 0]⟩),
  (111, ⟨.int .u64, 1, false, [.int .u64 0]⟩),
  (210, ⟨.struct [(0, 1, false), (1, 1, false)], 2, true, [.int .i64 0, .int .i64 0]⟩),
  (172, ⟨.slice 2 16 [.int .i64 0, .int .i64 0], 1, false, [.nils]⟩),
  (183, ⟨.arr 4 3 true, 12, true, [.int .i64 0, .int .i64 0, .int .i64 0, .int .i64 0, .int .i64 0, .int .i64 0, .int .i64 0, .int .i64 0, .int .i64 0, .int .i64 0, .int .i64 0, .int .i64 0]⟩),
  (182, ⟨.arr 3 1 false, 3, true, [.int .i64 0, .int .i64 0, .int .i64 0]⟩),
  (184, ⟨.arr 4 1 false, 4, true, [.int .i64 0, .int .i64 0, .int .i64 0, .int .i64 0]⟩),
  (215, ⟨.other, 1, false, [.nilf]⟩),
  (226, ⟨.struct [(0, 1, false), (1, 1, false), (2, 1, false)], 3, true, [.int .i64 0, .int .i64 0, .int .i64 0]⟩),
  (218, ⟨.slice 6 48 [.int .i64 0, .int .i64 0, .int .i64 0, .int .i64 0, .int .i64 0, .int .i64 0], 1, false, [.nils]⟩),
  (238, ⟨.int .u64, 1, false, [.int .u64 0]⟩),
  (229, ⟨.int .i64, 1, false, [.int .i64 0]⟩),
  (181, ⟨.arr 3 1 false, 3, true, [.int .i64 0, .int .i64 0, .int .i64 0]⟩),
  (243, ⟨.arr 6 1 false, 6, true, [.int .i64 0, .int .i64 0, .int .i64 0, .int .i64 0, .int .i64 0, .int .i64 0]⟩),
  (164, ⟨.other, 1, false, [.nilf]⟩),
  (245, ⟨.int .u64, 1, false, [.int .u64 0]⟩),
  (249, ⟨.other, 1, false, [.nilp]⟩),
  (244, ⟨.other, 1, false, [.nilf]⟩),
  (251, ⟨.other, 1, false, [.nilp]⟩)]
theorem tyL_ok : okL (tiOf Try.prog) tyL := ⟨by kernel_rfl, by kernel_rfl, by kernel_rfl, by kernel_rfl, by kernel_rfl, by kernel_rfl, by kernel_rfl, by kernel_rfl, by kernel_rfl, by kernel_rfl, by kernel_rfl, by kernel_rfl, by kernel_rfl, by kernel_rfl, by kernel_rfl, by kernel_rfl, by kernel_rfl, by kernel_rfl, by kernel_rfl, by kernel_rfl, by kernel_rfl, by kernel_rfl, by kernel_rfl, by kernel_rfl, by kernel_rfl, by kernel_rfl, by kernel_rfl, by kernel_rfl, by kernel_rfl, by kernel_rfl, by kernel_rfl, by kernel_rfl, by kernel_rfl, by kernel_rfl, by kernel_rfl, by kernel_rfl, by kernel_rfl, by kernel_rfl, by kernel_rfl, by kernel_rfl, by kernel_rfl, by kernel_rfl, by kernel_rfl, by kernel_rfl, by kernel_rfl, by kernel_rfl, by kernel_rfl, by kernel_rfl, by kernel_rfl, by kernel_rfl, by kernel_rfl, by kernel_rfl, by kernel_rfl, by kernel_rfl, by kernel_rfl, by kernel_rfl, by kernel_rfl, by kernel_rfl, by kernel_rfl, by kernel_rfl, by kernel_rfl, by kernel_rfl, by kernel_rfl, by kernel_rfl, trivial⟩
def eqL : List (Nat × List Nat) := [(73, [0, 0, 0]), (122, [0, 0, 0])]
theorem eqL_ok : okL (eqOf Try.prog) eqL := ⟨by kernel_rfl, by kernel_rfl, trivial⟩
def nlL : List (Nat × Nat) := [(31, 0), (3, 0), (4, 0), (73, 0), (5, 0), (9, 0), (122, 0), (25, 0), (155, 0), (229, 0), (22, 3), (111, 0), (238, 0)]
theorem nlL_ok : okN (nilOf Try.prog) nlL := ⟨by kernel_rfl, by kernel_rfl, by kernel_rfl, by kernel_rfl, by kernel_rfl, by kernel_rfl, by kernel_rfl, by kernel_rfl, by kernel_rfl, by kernel_rfl, by kernel_rfl, by kernel_rfl, by kernel_rfl, trivial⟩
noncomputable def ty : TT := ⟨lookT tyL (tiOf Try.prog), lookT eqL (eqOf Try.prog), lookN nlL (nilOf Try.prog)⟩
theorem ty_ok : ty = ttOf Try.prog := by
  unfold ty ttOf
  rw [lookT_eq tyL_ok, lookT_eq eqL_ok, lookN_eq nlL_ok]
def Wy (x : Int) : Prop := rng .u8 x
theorem rdy : R.d Ey = (0 : Int) := rfl
theorem rdi : R.d Ei = (0 : Int) := rfl
theorem rdo : R.d Eo = false := rfl
theorem env : Env A R Try.prog ty fl := ⟨R_ok, ty_ok, fl_ok, by kernel_rfl⟩

end Go.Proofs.Ytjedljdfkoagbaa
namespace Go.Proofs.Ytjedljdfkoagbaa
open Go Go.Lite
set_option linter.unusedVariables false

/-- printworks/printworksref2.SameBytes -/
def R2_SameBytes_r0 : List SO := [⟨(some 4), .assign (.const (.bool false)), none⟩]
def R2_SameBytes_r1 : List SO := [⟨(some 5), .move (.tmp (0 : Nat)), none⟩,
  ⟨(some 6), .convert 22 9 (.tmp (5 : Nat)), none⟩,
  ⟨(some 7), .move (.tmp (1 : Nat)), none⟩,
  ⟨(some 8), .convert 22 9 (.tmp (7 : Nat)), none⟩,
  ⟨(some 9), .binOp .eql 9 (.tmp (6 : Nat)) (.tmp (8 : Nat)) 9, none⟩,
  ⟨(some 4), .assign (.tmp (9 : Nat)), none⟩]
def R2_SameBytes_c : SF := ⟨10, (.seq (.reg R2_SameBytes_r0)
  (.seq (.reg R2_SameBytes_r1)
  .ret)), [.tmp 4]⟩
theorem R2_SameBytes_s : slimF Try.prog 14 = some R2_SameBytes_c := by kernel_rfl
abbrev R2_SameBytes_f : Nat := 14
/-- printworks/printworksref2.Bit -/
def R2_Bit_r0 : List SO := [⟨(some 3), .box 24 (.tmp (0 : Nat)), none⟩,
  ⟨(some 6), .assign (.const (.bool false)), none⟩]
def R2_Bit_r1 : List SO := [⟨(some 7), .move (.tmp (1 : Nat)), none⟩,
  ⟨(some 8), .fieldAddr 24 (.tmp (3 : Nat)) 0, none⟩,
  ⟨(some 9), .load 3 (.tmp (8 : Nat)), none⟩,
  ⟨(some 10), .binOp .sub 3 (.tmp (9 : Nat)) (.const (.int .i64 1)) 3, none⟩,
  ⟨(some 11), .call ⟨(.value (.func (53 : Nat))), #[(.tmp (7 : Nat)), (.const (.int .i64 0)), (.tmp (10 : Nat))], #[3, 3, 3]⟩, none⟩,
  ⟨(some 12), .unOp .not 4 (.tmp (11 : Nat)), none⟩,
  ⟨(some 13), .move (.tmp (12 : Nat)), none⟩,
  ⟨(some 14), .move (.tmp (2 : Nat)), (some (13, false))⟩,
  ⟨(some 15), .fieldAddr 24 (.tmp (3 : Nat)) 1, (some (13, false))⟩,
  ⟨(some 16), .load 3 (.tmp (15 : Nat)), (some (13, false))⟩,
  ⟨(some 17), .binOp .sub 3 (.tmp (16 : Nat)) (.const (.int .i64 1)) 3, (some (13, false))⟩,
  ⟨(some 18), .call ⟨(.value (.func (53 : Nat))), #[(.tmp (14 : Nat)), (.const (.int .i64 0)), (.tmp (17 : Nat))], #[3, 3, 3]⟩, (some (13, false))⟩,
  ⟨(some 19), .unOp .not 4 (.tmp (18 : Nat)), (some (13, false))⟩,
  ⟨(some 20), .pick (.tmp (13 : Nat)) (.const (.bool true)) (.tmp (19 : Nat)), none⟩]
def R2_Bit_r2 : List SO := [⟨(some 6), .assign (.const (.bool false)), none⟩]
def R2_Bit_r3 : List SO := [⟨(some 21), .fieldAddr 24 (.tmp (3 : Nat)) 2, none⟩,
  ⟨(some 22), .load 22 (.tmp (21 : Nat)), none⟩,
  ⟨(some 23), .move (.tmp (2 : Nat)), none⟩,
  ⟨(some 24), .fieldAddr 24 (.tmp (3 : Nat)) 0, none⟩,
  ⟨(some 25), .load 3 (.tmp (24 : Nat)), none⟩,
  ⟨(some 26), .binOp .add 3 (.tmp (25 : Nat)) (.const (.int .i64 7)) 3, none⟩,
  ⟨(some 27), .binOp .quo 3 (.tmp (26 : Nat)) (.const (.int .i64 8)) 3, none⟩,
  ⟨(some 28), .binOp .mul 3 (.tmp (23 : Nat)) (.tmp (27 : Nat)) 3, none⟩,
  ⟨(some 29), .move (.tmp (1 : Nat)), none⟩,
  ⟨(some 30), .binOp .quo 3 (.tmp (29 : Nat)) (.const (.int .i64 8)) 3, none⟩,
  ⟨(some 31), .binOp .add 3 (.tmp (28 : Nat)) (.tmp (30 : Nat)) 3, none⟩,
  ⟨(some 32), .indexAddr 22 (.tmp (22 : Nat)) (.tmp (31 : Nat)), none⟩,
  ⟨(some 33), .load 5 (.tmp (32 : Nat)), none⟩,
  ⟨(some 34), .move (.tmp (1 : Nat)), none⟩,
  ⟨(some 35), .binOp .rem 3 (.tmp (34 : Nat)) (.const (.int .i64 8)) 3, none⟩,
  ⟨(some 36), .binOp .shl 5 (.tmp (33 : Nat)) (.tmp (35 : Nat)) 3, none⟩,
  ⟨(some 37), .binOp .and 5 (.tmp (36 : Nat)) (.const (.int .u8 128)) 5, none⟩,
  ⟨(some 38), .binOp .neq 5 (.tmp (37 : Nat)) (.const (.int .u8 0)) 5, none⟩,
  ⟨(some 6), .assign (.tmp (38 : Nat)), none⟩]
def R2_Bit_c : SF := ⟨39, (.seq (.reg R2_Bit_r0)
  (.seq (.seq (.reg R2_Bit_r1)
  (.cond (.tmp (20 : Nat)) (.seq (.reg R2_Bit_r2)
  .ret) .skip))
  (.seq (.reg R2_Bit_r3)
  .ret))), [.tmp 6]⟩
theorem R2_Bit_s : slimF Try.prog 18 = some R2_Bit_c := by kernel_rfl
abbrev R2_Bit_f : Nat := 18
/-- printworks/printworksref2.Mod -/
def R2_Mod_r0 : List SO := [⟨(some 4), .assign (.const (.int .i64 0)), none⟩]
def R2_Mod_r1 : List SO := [⟨(some 5), .move (.tmp (0 : Nat)), none⟩,
  ⟨(some 6), .move (.tmp (1 : Nat)), none⟩,
  ⟨(some 7), .move (.tmp (0 : Nat)), none⟩,
  ⟨(some 8), .move (.tmp (1 : Nat)), none⟩,
  ⟨(some 9), .call ⟨(.value (.func (55 : Nat))), #[(.tmp (7 : Nat)), (.tmp (8 : Nat))], #[3, 3]⟩, none⟩,
  ⟨(some 10), .binOp .mul 3 (.tmp (6 : Nat)) (.tmp (9 : Nat)) 3, none⟩,
  ⟨(some 11), .binOp .sub 3 (.tmp (5 : Nat)) (.tmp (10 : Nat)) 3, none⟩,
  ⟨(some 4), .assign (.tmp (11 : Nat)), none⟩]
def R2_Mod_c : SF := ⟨12, (.seq (.reg R2_Mod_r0)
  (.seq (.reg R2_Mod_r1)
  .ret)), [.tmp 4]⟩
theorem R2_Mod_s : slimF Try.prog 20 = some R2_Mod_c := by kernel_rfl
abbrev R2_Mod_f : Nat := 20
/-- printworks/printworksref2.SameBits -/
def R2_SameBits_r0 : List SO := [⟨(some 2), .box 24 (.tmp (0 : Nat)), none⟩,
  ⟨(some 3), .box 24 (.tmp (1 : Nat)), none⟩,
  ⟨(some 4), .assign (.const (.bool false)), none⟩]
def R2_SameBits_r1 : List SO := [⟨(some 5), .fieldAddr 24 (.tmp (2 : Nat)) 0, none⟩,
  ⟨(some 6), .load 3 (.tmp (5 : Nat)), none⟩,
  ⟨(some 7), .fieldAddr 24 (.tmp (3 : Nat)) 0, none⟩,
  ⟨(some 8), .load 3 (.tmp (7 : Nat)), none⟩,
  ⟨(some 9), .binOp .eql 3 (.tmp (6 : Nat)) (.tmp (8 : Nat)) 3, none⟩,
  ⟨(some 10), .move (.tmp (9 : Nat)), none⟩,
  ⟨(some 11), .fieldAddr 24 (.tmp (2 : Nat)) 1, (some (10, true))⟩,
  ⟨(some 12), .load 3 (.tmp (11 : Nat)), (some (10, true))⟩,
  ⟨(some 13), .fieldAddr 24 (.tmp (3 : Nat)) 1, (some (10, true))⟩,
  ⟨(some 14), .load 3 (.tmp (13 : Nat)), (some (10, true))⟩,
  ⟨(some 15), .binOp .eql 3 (.tmp (12 : Nat)) (.tmp (14 : Nat)) 3, (some (10, true))⟩,
  ⟨(some 16), .pick (.tmp (10 : Nat)) (.tmp (15 : Nat)) (.const (.bool false)), none⟩,
  ⟨(some 17), .move (.tmp (16 : Nat)), none⟩,
  ⟨(some 18), .fieldAddr 24 (.tmp (2 : Nat)) 2, (some (17, true))⟩,
  ⟨(some 19), .load 22 (.tmp (18 : Nat)), (some (17, true))⟩,
  ⟨(some 20), .fieldAddr 24 (.tmp (3 : Nat)) 2, (some (17, true))⟩,
  ⟨(some 21), .load 22 (.tmp (20 : Nat)), (some (17, true))⟩,
  ⟨(some 22), .call ⟨(.value (.func (14 : Nat))), #[(.tmp (19 : Nat)), (.tmp (21 : Nat))], #[22, 22]⟩, (some (17, true))⟩,
  ⟨(some 23), .pick (.tmp (17 : Nat)) (.tmp (22 : Nat)) (.const (.bool false)), none⟩,
  ⟨(some 4), .assign (.tmp (23 : Nat)), none⟩]
def R2_SameBits_c : SF := ⟨24, (.seq (.reg R2_SameBits_r0)
  (.seq (.reg R2_SameBits_r1)
  .ret)), [.tmp 4]⟩
theorem R2_SameBits_s : slimF Try.prog 28 = some R2_SameBits_c := by kernel_rfl
abbrev R2_SameBits_f : Nat := 28
/-- printworks/printworksref2.Number -/
def R2_Number_r0 : List SO := [⟨(some 2), .assign (.const (.int .i64 0)), none⟩]
def R2_Number_r1 : List SO := [⟨(some 3), .assign (.const (.int .i64 0)), none⟩]
def R2_Number_r2 : List SO := [⟨(some 6), .move (.tmp (0 : Nat)), none⟩,
  ⟨(some 7), .call ⟨(.builtin .len), #[(.tmp (6 : Nat))], #[22]⟩, none⟩,
  ⟨(some 8), .move (.const (.int .i64 0)), none⟩]
def R2_Number_r3 : List SO := [⟨(some 9), .binOp .lss 3 (.tmp (8 : Nat)) (.tmp (7 : Nat)) 3, none⟩]
def R2_Number_r4 : List SO := [⟨(some 10), .indexAddr 22 (.tmp (6 : Nat)) (.tmp (8 : Nat)), none⟩,
  ⟨(some 11), .load 5 (.tmp (10 : Nat)), none⟩,
  ⟨(some 5), .assign (.tmp (11 : Nat)), none⟩]
def R2_Number_r5 : List SO := [⟨(some 12), .move (.tmp (3 : Nat)), none⟩,
  ⟨(some 13), .binOp .shl 3 (.tmp (12 : Nat)) (.const (.int .u64 8)) 111, none⟩,
  ⟨(some 14), .move (.tmp (5 : Nat)), none⟩,
  ⟨(some 15), .convert 5 3 (.tmp (14 : Nat)), none⟩,
  ⟨(some 16), .binOp .or 3 (.tmp (13 : Nat)) (.tmp (15 : Nat)) 3, none⟩,
  ⟨(some 3), .assign (.tmp (16 : Nat)), none⟩]
def R2_Number_r6 : List SO := [⟨(some 17), .binOp .add 3 (.tmp (8 : Nat)) (.const (.int .i64 1)) 3, none⟩,
  ⟨(some 8), .move (.tmp (17 : Nat)), none⟩]
def R2_Number_r7 : List SO := [⟨(some 18), .move (.tmp (3 : Nat)), none⟩,
  ⟨(some 2), .assign (.tmp (18 : Nat)), none⟩]
def R2_Number_c : SF := ⟨19, (.seq (.reg R2_Number_r0)
  (.seq (.reg R2_Number_r1)
  (.seq (.seq (.reg R2_Number_r2)
  (.block 0 (.loop (.seq (.reg R2_Number_r3)
  (.seq (.cond (.tmp (9 : Nat)) .skip (.exit 0))
  (.seq (.block 1 (.seq (.reg R2_Number_r4)
  (.reg R2_Number_r5)))
  (.reg R2_Number_r6)))))))
  (.seq (.reg R2_Number_r7)
  .ret)))), [.tmp 2]⟩
theorem R2_Number_s : slimF Try.prog 31 = some R2_Number_c := by kernel_rfl
abbrev R2_Number_f : Nat := 31
/-- printworks/printworksref2.Within -/
def R2_Within_r0 : List SO := [⟨(some 6), .assign (.const (.bool false)), none⟩]
def R2_Within_r1 : List SO := [⟨(some 7), .move (.tmp (1 : Nat)), none⟩,
  ⟨(some 8), .move (.tmp (0 : Nat)), none⟩,
  ⟨(some 9), .binOp .leq 3 (.tmp (7 : Nat)) (.tmp (8 : Nat)) 3, none⟩,
  ⟨(some 10), .move (.tmp (9 : Nat)), none⟩,
  ⟨(some 11), .move (.tmp (0 : Nat)), (some (10, true))⟩,
  ⟨(some 12), .move (.tmp (2 : Nat)), (some (10, true))⟩,
  ⟨(some 13), .binOp .leq 3 (.tmp (11 : Nat)) (.tmp (12 : Nat)) 3, (some (10, true))⟩,
  ⟨(some 14), .pick (.tmp (10 : Nat)) (.tmp (13 : Nat)) (.const (.bool false)), none⟩,
  ⟨(some 6), .assign (.tmp (14 : Nat)), none⟩]
def R2_Within_c : SF := ⟨15, (.seq (.reg R2_Within_r0)
  (.seq (.reg R2_Within_r1)
  .ret)), [.tmp 6]⟩
theorem R2_Within_s : slimF Try.prog 53 = some R2_Within_c := by kernel_rfl
abbrev R2_Within_f : Nat := 53
/-- printworks/printworksref2.Floor -/
def R2_Floor_r0 : List SO := [⟨(some 4), .assign (.const (.int .i64 0)), none⟩]
def R2_Floor_r1 : List SO := [⟨(some 6), .move (.tmp (0 : Nat)), none⟩,
  ⟨(some 7), .move (.tmp (1 : Nat)), none⟩,
  ⟨(some 8), .binOp .quo 3 (.tmp (6 : Nat)) (.tmp (7 : Nat)) 3, none⟩,
  ⟨(some 5), .assign (.tmp (8 : Nat)), none⟩]
def R2_Floor_r2 : List SO := [⟨(some 9), .move (.tmp (5 : Nat)), none⟩,
  ⟨(some 10), .move (.tmp (1 : Nat)), none⟩,
  ⟨(some 11), .binOp .mul 3 (.tmp (9 : Nat)) (.tmp (10 : Nat)) 3, none⟩,
  ⟨(some 12), .move (.tmp (0 : Nat)), none⟩,
  ⟨(some 13), .binOp .gtr 3 (.tmp (11 : Nat)) (.tmp (12 : Nat)) 3, none⟩]
def R2_Floor_r3 : List SO := [⟨(some 14), .move (.tmp (5 : Nat)), none⟩,
  ⟨(some 15), .binOp .sub 3 (.tmp (14 : Nat)) (.const (.int .i64 1)) 3, none⟩,
  ⟨(some 5), .assign (.tmp (15 : Nat)), none⟩]
def R2_Floor_r4 : List SO := [⟨(some 16), .move (.tmp (5 : Nat)), none⟩,
  ⟨(some 4), .assign (.tmp (16 : Nat)), none⟩]
def R2_Floor_c : SF := ⟨17, (.seq (.reg R2_Floor_r0)
  (.seq (.reg R2_Floor_r1)
  (.seq (.seq (.reg R2_Floor_r2)
  (.cond (.tmp (13 : Nat)) (.reg R2_Floor_r3) .skip))
  (.seq (.reg R2_Floor_r4)
  .ret)))), [.tmp 4]⟩
theorem R2_Floor_s : slimF Try.prog 55 = some R2_Floor_c := by kernel_rfl
abbrev R2_Floor_f : Nat := 55
end Go.Proofs.Ytjedljdfkoagbaa
namespace Go.Proofs.Ytjedljdfkoagbaa
open Go Go.Lite
set_option linter.unusedVariables false

/-- printworks/bitmap.Check -/
def bitmap_Check_r0 : List SO := [⟨(some 1), .box 24 (.tmp (0 : Nat)), none⟩,
  ⟨(some 2), .assign (.const (.int .i64 0)), none⟩]
def bitmap_Check_r1 : List SO := [⟨(some 6), .fieldAddr 24 (.tmp (1 : Nat)) 0, none⟩,
  ⟨(some 7), .load 3 (.tmp (6 : Nat)), none⟩,
  ⟨(some 8), .binOp .lss 3 (.tmp (7 : Nat)) (.const (.int .i64 1)) 3, none⟩,
  ⟨(some 9), .move (.tmp (8 : Nat)), none⟩,
  ⟨(some 10), .fieldAddr 24 (.tmp (1 : Nat)) 0, (some (9, false))⟩,
  ⟨(some 11), .load 3 (.tmp (10 : Nat)), (some (9, false))⟩,
  ⟨(some 12), .binOp .gtr 3 (.tmp (11 : Nat)) (.const (.int .i64 1024)) 3, (some (9, false))⟩,
  ⟨(some 13), .pick (.tmp (9 : Nat)) (.const (.bool true)) (.tmp (12 : Nat)), none⟩,
  ⟨(some 14), .move (.tmp (13 : Nat)), none⟩,
  ⟨(some 15), .fieldAddr 24 (.tmp (1 : Nat)) 1, (some (14, false))⟩,
  ⟨(some 16), .load 3 (.tmp (15 : Nat)), (some (14, false))⟩,
  ⟨(some 17), .binOp .lss 3 (.tmp (16 : Nat)) (.const (.int .i64 1)) 3, (some (14, false))⟩,
  ⟨(some 18), .pick (.tmp (14 : Nat)) (.const (.bool true)) (.tmp (17 : Nat)), none⟩,
  ⟨(some 19), .move (.tmp (18 : Nat)), none⟩,
  ⟨(some 20), .fieldAddr 24 (.tmp (1 : Nat)) 1, (some (19, false))⟩,
  ⟨(some 21), .load 3 (.tmp (20 : Nat)), (some (19, false))⟩,
  ⟨(some 22), .binOp .gtr 3 (.tmp (21 : Nat)) (.const (.int .i64 1024)) 3, (some (19, false))⟩,
  ⟨(some 23), .pick (.tmp (19 : Nat)) (.const (.bool true)) (.tmp (22 : Nat)), none⟩]
def bitmap_Check_r2 : List SO := [⟨(some 2), .assign (.const (.int .i64 3)), none⟩]
def bitmap_Check_r3 : List SO := [⟨(some 24), .fieldAddr 24 (.tmp (1 : Nat)) 0, none⟩,
  ⟨(some 25), .load 3 (.tmp (24 : Nat)), none⟩,
  ⟨(some 26), .call ⟨(.value (.func (63 : Nat))), #[(.tmp (25 : Nat))], #[3]⟩, none⟩,
  ⟨(some 3), .assign (.tmp (26 : Nat)), none⟩]
def bitmap_Check_r4 : List SO := [⟨(some 27), .fieldAddr 24 (.tmp (1 : Nat)) 2, none⟩,
  ⟨(some 28), .load 22 (.tmp (27 : Nat)), none⟩,
  ⟨(some 29), .call ⟨(.builtin .len), #[(.tmp (28 : Nat))], #[22]⟩, none⟩,
  ⟨(some 30), .move (.tmp (3 : Nat)), none⟩,
  ⟨(some 31), .fieldAddr 24 (.tmp (1 : Nat)) 1, none⟩,
  ⟨(some 32), .load 3 (.tmp (31 : Nat)), none⟩,
  ⟨(some 33), .binOp .mul 3 (.tmp (30 : Nat)) (.tmp (32 : Nat)) 3, none⟩,
  ⟨(some 34), .binOp .neq 3 (.tmp (29 : Nat)) (.tmp (33 : Nat)) 3, none⟩]
def bitmap_Check_r5 : List SO := [⟨(some 2), .assign (.const (.int .i64 4)), none⟩]
def bitmap_Check_r6 : List SO := [⟨(some 35), .move (.tmp (3 : Nat)), none⟩,
  ⟨(some 36), .binOp .mul 3 (.const (.int .i64 8)) (.tmp (35 : Nat)) 3, none⟩,
  ⟨(some 37), .fieldAddr 24 (.tmp (1 : Nat)) 0, none⟩,
  ⟨(some 38), .load 3 (.tmp (37 : Nat)), none⟩,
  ⟨(some 39), .binOp .sub 3 (.tmp (36 : Nat)) (.tmp (38 : Nat)) 3, none⟩,
  ⟨(some 40), .binOp .shl 5 (.const (.int .u8 1)) (.tmp (39 : Nat)) 3, none⟩,
  ⟨(some 41), .binOp .sub 5 (.tmp (40 : Nat)) (.const (.int .u8 1)) 5, none⟩,
  ⟨(some 4), .assign (.tmp (41 : Nat)), none⟩]
def bitmap_Check_r7 : List SO := [⟨(some 42), .move (.tmp (4 : Nat)), none⟩,
  ⟨(some 43), .binOp .neq 5 (.tmp (42 : Nat)) (.const (.int .u8 0)) 5, none⟩]
def bitmap_Check_r8 : List SO := [⟨(some 44), .fieldAddr 24 (.tmp (1 : Nat)) 1, none⟩,
  ⟨(some 45), .load 3 (.tmp (44 : Nat)), none⟩,
  ⟨(some 46), .move (.const (.int .i64 0)), none⟩]
def bitmap_Check_r9 : List SO := [⟨(some 47), .binOp .lss 3 (.tmp (46 : Nat)) (.tmp (45 : Nat)) 3, none⟩]
def bitmap_Check_r10 : List SO := [⟨(some 48), .move (.tmp (46 : Nat)), none⟩,
  ⟨(some 5), .assign (.tmp (48 : Nat)), none⟩]
def bitmap_Check_r11 : List SO := [⟨(some 49), .fieldAddr 24 (.tmp (1 : Nat)) 2, none⟩,
  ⟨(some 50), .load 22 (.tmp (49 : Nat)), none⟩,
  ⟨(some 51), .move (.tmp (5 : Nat)), none⟩,
  ⟨(some 52), .move (.tmp (3 : Nat)), none⟩,
  ⟨(some 53), .binOp .mul 3 (.tmp (51 : Nat)) (.tmp (52 : Nat)) 3, none⟩,
  ⟨(some 54), .move (.tmp (3 : Nat)), none⟩,
  ⟨(some 55), .binOp .add 3 (.tmp (53 : Nat)) (.tmp (54 : Nat)) 3, none⟩,
  ⟨(some 56), .binOp .sub 3 (.tmp (55 : Nat)) (.const (.int .i64 1)) 3, none⟩,
  ⟨(some 57), .indexAddr 22 (.tmp (50 : Nat)) (.tmp (56 : Nat)), none⟩,
  ⟨(some 58), .load 5 (.tmp (57 : Nat)), none⟩,
  ⟨(some 59), .move (.tmp (4 : Nat)), none⟩,
  ⟨(some 60), .binOp .and 5 (.tmp (58 : Nat)) (.tmp (59 : Nat)) 5, none⟩,
  ⟨(some 61), .binOp .neq 5 (.tmp (60 : Nat)) (.const (.int .u8 0)) 5, none⟩]
def bitmap_Check_r12 : List SO := [⟨(some 2), .assign (.const (.int .i64 4)), none⟩]
def bitmap_Check_r13 : List SO := [⟨(some 62), .binOp .add 3 (.tmp (46 : Nat)) (.const (.int .i64 1)) 3, none⟩,
  ⟨(some 46), .move (.tmp (62 : Nat)), none⟩]
def bitmap_Check_r14 : List SO := [⟨(some 2), .assign (.const (.int .i64 0)), none⟩]
def bitmap_Check_c : SF := ⟨63, (.seq (.reg bitmap_Check_r0)
  (.seq (.seq (.reg bitmap_Check_r1)
  (.cond (.tmp (23 : Nat)) (.seq (.reg bitmap_Check_r2)
  .ret) .skip))
  (.seq (.reg bitmap_Check_r3)
  (.seq (.seq (.reg bitmap_Check_r4)
  (.cond (.tmp (34 : Nat)) (.seq (.reg bitmap_Check_r5)
  .ret) .skip))
  (.seq (.seq (.reg bitmap_Check_r6)
  (.seq (.reg bitmap_Check_r7)
  (.cond (.tmp (43 : Nat)) (.seq (.reg bitmap_Check_r8)
  (.block 0 (.loop (.seq (.reg bitmap_Check_r9)
  (.seq (.cond (.tmp (47 : Nat)) .skip (.exit 0))
  (.seq (.block 1 (.seq (.reg bitmap_Check_r10)
  (.seq (.reg bitmap_Check_r11)
  (.cond (.tmp (61 : Nat)) (.seq (.reg bitmap_Check_r12)
  .ret) .skip))))
  (.reg bitmap_Check_r13))))))) .skip)))
  (.seq (.reg bitmap_Check_r14)
  .ret)))))), [.tmp 2]⟩
theorem bitmap_Check_s : slimF Try.prog 25 = some bitmap_Check_c := by kernel_rfl
abbrev bitmap_Check_f : Nat := 25
/-- printworks/bitmap.Is -/
def bitmap_Is_r0 : List SO := [⟨(some 6), .assign (.const (.bool false)), none⟩]
def bitmap_Is_r1 : List SO := [⟨(some 7), .move (.tmp (1 : Nat)), none⟩,
  ⟨(some 8), .binOp .geq 3 (.tmp (7 : Nat)) (.const (.int .i64 0)) 3, none⟩,
  ⟨(some 9), .move (.tmp (8 : Nat)), none⟩,
  ⟨(some 10), .move (.tmp (1 : Nat)), (some (9, true))⟩,
  ⟨(some 11), .move (.tmp (0 : Nat)), (some (9, true))⟩,
  ⟨(some 12), .nilCheck (.tmp (11 : Nat)), (some (9, true))⟩,
  ⟨(some 13), .fieldAddr 24 (.tmp (12 : Nat)) 0, (some (9, true))⟩,
  ⟨(some 14), .load 3 (.tmp (13 : Nat)), (some (9, true))⟩,
  ⟨(some 15), .binOp .lss 3 (.tmp (10 : Nat)) (.tmp (14 : Nat)) 3, (some (9, true))⟩,
  ⟨(some 16), .pick (.tmp (9 : Nat)) (.tmp (15 : Nat)) (.const (.bool false)), none⟩,
  ⟨(some 17), .move (.tmp (16 : Nat)), none⟩,
  ⟨(some 18), .move (.tmp (2 : Nat)), (some (17, true))⟩,
  ⟨(some 19), .binOp .geq 3 (.tmp (18 : Nat)) (.const (.int .i64 0)) 3, (some (17, true))⟩,
  ⟨(some 20), .pick (.tmp (17 : Nat)) (.tmp (19 : Nat)) (.const (.bool false)), none⟩,
  ⟨(some 21), .move (.tmp (20 : Nat)), none⟩,
  ⟨(some 22), .move (.tmp (2 : Nat)), (some (21, true))⟩,
  ⟨(some 23), .move (.tmp (0 : Nat)), (some (21, true))⟩,
  ⟨(some 24), .nilCheck (.tmp (23 : Nat)), (some (21, true))⟩,
  ⟨(some 25), .fieldAddr 24 (.tmp (24 : Nat)) 1, (some (21, true))⟩,
  ⟨(some 26), .load 3 (.tmp (25 : Nat)), (some (21, true))⟩,
  ⟨(some 27), .binOp .lss 3 (.tmp (22 : Nat)) (.tmp (26 : Nat)) 3, (some (21, true))⟩,
  ⟨(some 28), .pick (.tmp (21 : Nat)) (.tmp (27 : Nat)) (.const (.bool false)), none⟩,
  ⟨(some 29), .move (.tmp (28 : Nat)), none⟩,
  ⟨(some 30), .move (.tmp (0 : Nat)), (some (29, true))⟩,
  ⟨(some 31), .nilCheck (.tmp (30 : Nat)), (some (29, true))⟩,
  ⟨(some 32), .fieldAddr 24 (.tmp (31 : Nat)) 2, (some (29, true))⟩,
  ⟨(some 33), .load 22 (.tmp (32 : Nat)), (some (29, true))⟩,
  ⟨(some 34), .move (.tmp (2 : Nat)), (some (29, true))⟩,
  ⟨(some 35), .move (.tmp (0 : Nat)), (some (29, true))⟩,
  ⟨(some 36), .nilCheck (.tmp (35 : Nat)), (some (29, true))⟩,
  ⟨(some 37), .fieldAddr 24 (.tmp (36 : Nat)) 0, (some (29, true))⟩,
  ⟨(some 38), .load 3 (.tmp (37 : Nat)), (some (29, true))⟩,
  ⟨(some 39), .call ⟨(.value (.func (63 : Nat))), #[(.tmp (38 : Nat))], #[3]⟩, (some (29, true))⟩,
  ⟨(some 40), .binOp .mul 3 (.tmp (34 : Nat)) (.tmp (39 : Nat)) 3, (some (29, true))⟩,
  ⟨(some 41), .move (.tmp (1 : Nat)), (some (29, true))⟩,
  ⟨(some 42), .binOp .quo 3 (.tmp (41 : Nat)) (.const (.int .i64 8)) 3, (some (29, true))⟩,
  ⟨(some 43), .binOp .add 3 (.tmp (40 : Nat)) (.tmp (42 : Nat)) 3, (some (29, true))⟩,
  ⟨(some 44), .indexAddr 22 (.tmp (33 : Nat)) (.tmp (43 : Nat)), (some (29, true))⟩,
  ⟨(some 45), .load 5 (.tmp (44 : Nat)), (some (29, true))⟩,
  ⟨(some 46), .move (.tmp (1 : Nat)), (some (29, true))⟩,
  ⟨(some 47), .binOp .rem 3 (.tmp (46 : Nat)) (.const (.int .i64 8)) 3, (some (29, true))⟩,
  ⟨(some 48), .binOp .shr 5 (.const (.int .u8 128)) (.tmp (47 : Nat)) 3, (some (29, true))⟩,
  ⟨(some 49), .binOp .and 5 (.tmp (45 : Nat)) (.tmp (48 : Nat)) 5, (some (29, true))⟩,
  ⟨(some 50), .binOp .neq 5 (.tmp (49 : Nat)) (.const (.int .u8 0)) 5, (some (29, true))⟩,
  ⟨(some 51), .pick (.tmp (29 : Nat)) (.tmp (50 : Nat)) (.const (.bool false)), none⟩,
  ⟨(some 6), .assign (.tmp (51 : Nat)), none⟩]
def bitmap_Is_a1 : List (List Nat) := [[], [0], [1], [2], [2], [4, 2], [5, 2], [6, 2], [3, 7, 2], [2, 8], [9, 2], [10], [11, 10], [10, 12], [13, 10], [14], [14], [16, 14], [17, 14], [18, 14], [15, 19, 14], [14, 20], [21, 14], [22], [23, 22], [24, 22], [25, 22], [22], [22], [28, 22], [29, 22], [30, 22], [31, 22, 22], [27, 32, 22], [22], [34, 22], [33, 35, 22], [26, 36, 22], [37, 22], [22], [39, 22], [40, 22], [38, 41, 22], [42, 22], [22, 43], [44, 32, 0, 1, 2, 3, 4, 5, 6, 7, 8, 9, 10, 11, 12, 13, 14, 15, 16, 17, 18, 19, 20, 21, 22, 23, 24, 25, 26, 27, 28, 29, 30, 31, 32, 33, 34, 35, 36, 37, 38, 39, 40, 41, 42, 43, 44]]
def bitmap_Is_c : SF := ⟨52, (.seq (.reg bitmap_Is_r0)
  (.seq (.regd bitmap_Is_r1 bitmap_Is_a1)
  .ret)), [.tmp 6]⟩
theorem bitmap_Is_s : slimF Try.prog 46 = some bitmap_Is_c := by kernel_rfl
abbrev bitmap_Is_f : Nat := 46
/-- printworks/bitmap.Blank -/
def bitmap_Blank_r0 : List SO := [⟨(some 4), .alloc 24, none⟩]
def bitmap_Blank_r1 : List SO := [⟨(some 5), .move (.tmp (0 : Nat)), none⟩,
  ⟨(some 6), .move (.tmp (1 : Nat)), none⟩,
  ⟨(some 7), .move (.tmp (0 : Nat)), none⟩,
  ⟨(some 8), .call ⟨(.value (.func (63 : Nat))), #[(.tmp (7 : Nat))], #[3]⟩, none⟩,
  ⟨(some 9), .move (.tmp (1 : Nat)), none⟩,
  ⟨(some 10), .binOp .mul 3 (.tmp (8 : Nat)) (.tmp (9 : Nat)) 3, none⟩,
  ⟨(some 11), .makeSlice 22 (.tmp (10 : Nat)) (.tmp (10 : Nat)), none⟩,
  ⟨(some 12), .build 24 #[(0, (.tmp (5 : Nat))), (1, (.tmp (6 : Nat))), (2, (.tmp (11 : Nat)))], none⟩,
  ⟨none, .store 24 (.tmp (4 : Nat)) (.tmp (12 : Nat)), none⟩]
def bitmap_Blank_c : SF := ⟨13, (.seq (.reg bitmap_Blank_r0)
  (.seq (.reg bitmap_Blank_r1)
  .ret)), [.cell 4 24]⟩
theorem bitmap_Blank_s : slimF Try.prog 56 = some bitmap_Blank_c := by kernel_rfl
abbrev bitmap_Blank_f : Nat := 56
/-- printworks/bitmap.stride -/
def bitmap_stride_r0 : List SO := [⟨(some 2), .assign (.const (.int .i64 0)), none⟩]
def bitmap_stride_r1 : List SO := [⟨(some 3), .move (.tmp (0 : Nat)), none⟩,
  ⟨(some 4), .binOp .add 3 (.tmp (3 : Nat)) (.const (.int .i64 7)) 3, none⟩,
  ⟨(some 5), .binOp .quo 3 (.tmp (4 : Nat)) (.const (.int .i64 8)) 3, none⟩,
  ⟨(some 2), .assign (.tmp (5 : Nat)), none⟩]
def bitmap_stride_c : SF := ⟨6, (.seq (.reg bitmap_stride_r0)
  (.seq (.reg bitmap_stride_r1)
  .ret)), [.tmp 2]⟩
theorem bitmap_stride_s : slimF Try.prog 63 = some bitmap_stride_c := by kernel_rfl
abbrev bitmap_stride_f : Nat := 63
/-- printworks/bitmap.Mark -/
def bitmap_Mark_r0 : List SO := [⟨(some 6), .move (.tmp (0 : Nat)), none⟩,
  ⟨(some 7), .nilCheck (.tmp (6 : Nat)), none⟩,
  ⟨(some 8), .fieldAddr 24 (.tmp (7 : Nat)) 2, none⟩,
  ⟨(some 9), .load 22 (.tmp (8 : Nat)), none⟩,
  ⟨(some 10), .move (.tmp (2 : Nat)), none⟩,
  ⟨(some 11), .move (.tmp (0 : Nat)), none⟩,
  ⟨(some 12), .nilCheck (.tmp (11 : Nat)), none⟩,
  ⟨(some 13), .fieldAddr 24 (.tmp (12 : Nat)) 0, none⟩,
  ⟨(some 14), .load 3 (.tmp (13 : Nat)), none⟩,
  ⟨(some 15), .call ⟨(.value (.func (63 : Nat))), #[(.tmp (14 : Nat))], #[3]⟩, none⟩,
  ⟨(some 16), .binOp .mul 3 (.tmp (10 : Nat)) (.tmp (15 : Nat)) 3, none⟩,
  ⟨(some 17), .move (.tmp (1 : Nat)), none⟩,
  ⟨(some 18), .binOp .quo 3 (.tmp (17 : Nat)) (.const (.int .i64 8)) 3, none⟩,
  ⟨(some 19), .binOp .add 3 (.tmp (16 : Nat)) (.tmp (18 : Nat)) 3, none⟩,
  ⟨(some 20), .indexAddr 22 (.tmp (9 : Nat)) (.tmp (19 : Nat)), none⟩,
  ⟨(some 21), .load 5 (.tmp (20 : Nat)), none⟩,
  ⟨(some 22), .move (.tmp (1 : Nat)), none⟩,
  ⟨(some 23), .binOp .rem 3 (.tmp (22 : Nat)) (.const (.int .i64 8)) 3, none⟩,
  ⟨(some 24), .binOp .shr 5 (.const (.int .u8 128)) (.tmp (23 : Nat)) 3, none⟩,
  ⟨(some 25), .binOp .or 5 (.tmp (21 : Nat)) (.tmp (24 : Nat)) 5, none⟩,
  ⟨(some 26), .indexAddr 22 (.tmp (9 : Nat)) (.tmp (19 : Nat)), none⟩,
  ⟨none, .store 5 (.tmp (26 : Nat)) (.tmp (25 : Nat)), none⟩]
def bitmap_Mark_a0 : List (List Nat) := [[], [0], [1], [2], [], [], [5], [6], [7], [8], [4, 9], [], [11], [10, 12], [3, 13], [14], [], [16], [17], [15, 18], [3, 13, 0, 1, 2, 3, 4, 5, 6, 7, 8, 9, 10, 11, 12, 13, 14, 15, 16, 17, 18, 19], [20, 19, 9, 0, 1, 2, 3, 4, 5, 6, 7, 8, 9, 10, 11, 12, 13, 14, 15, 16, 17, 18, 19]]
def bitmap_Mark_c : SF := ⟨27, (.regd bitmap_Mark_r0 bitmap_Mark_a0), []⟩
theorem bitmap_Mark_s : slimF Try.prog 92 = some bitmap_Mark_c := by kernel_rfl
abbrev bitmap_Mark_f : Nat := 92
end Go.Proofs.Ytjedljdfkoagbaa
namespace Go.Proofs.Ytjedljdfkoagbaa
open Go Go.Lite
set_option linter.unusedVariables false

/-- printworks/bilevel.Encode -/
def bilevel_Encode_r0 : List SO := [⟨(some 2), .box 24 (.tmp (0 : Nat)), none⟩,
  ⟨(some 4), .assign (.const (.slice none 0 0)), none⟩,
  ⟨(some 5), .assign (.const (.int .i64 0)), none⟩]
def bilevel_Encode_r1 : List SO := [⟨(some 12), .load 24 (.tmp (2 : Nat)), none⟩,
  ⟨(some 13), .call ⟨(.value (.func (25 : Nat))), #[(.tmp (12 : Nat))], #[24]⟩, none⟩,
  ⟨(some 6), .assign (.tmp (13 : Nat)), none⟩]
def bilevel_Encode_r2 : List SO := [⟨(some 14), .move (.tmp (6 : Nat)), none⟩,
  ⟨(some 15), .binOp .neq 31 (.tmp (14 : Nat)) (.const (.int .i64 0)) 31, none⟩]
def bilevel_Encode_r3 : List SO := [⟨(some 16), .move (.tmp (6 : Nat)), none⟩,
  ⟨(some 4), .assign (.const (.slice none 0 0)), none⟩,
  ⟨(some 5), .assign (.tmp (16 : Nat)), none⟩]
def bilevel_Encode_r4 : List SO := [⟨(some 17), .move (.tmp (1 : Nat)), none⟩,
  ⟨(some 18), .binOp .lss 3 (.tmp (17 : Nat)) (.const (.int .i64 1)) 3, none⟩,
  ⟨(some 19), .move (.tmp (18 : Nat)), none⟩,
  ⟨(some 20), .move (.tmp (1 : Nat)), (some (19, false))⟩,
  ⟨(some 21), .binOp .gtr 3 (.tmp (20 : Nat)) (.const (.int .i64 64)) 3, (some (19, false))⟩,
  ⟨(some 22), .pick (.tmp (19 : Nat)) (.const (.bool true)) (.tmp (21 : Nat)), none⟩]
def bilevel_Encode_r5 : List SO := [⟨(some 4), .assign (.const (.slice none 0 0)), none⟩,
  ⟨(some 5), .assign (.const (.int .i64 3)), none⟩]
def bilevel_Encode_r6 : List SO := [⟨(some 23), .fieldAddr 24 (.tmp (2 : Nat)) 0, none⟩,
  ⟨(some 24), .load 3 (.tmp (23 : Nat)), none⟩,
  ⟨(some 25), .call ⟨(.value (.func (61 : Nat))), #[(.const (.slice none 0 0)), (.tmp (24 : Nat))], #[22, 3]⟩, none⟩,
  ⟨(some 26), .fieldAddr 24 (.tmp (2 : Nat)) 1, none⟩,
  ⟨(some 27), .load 3 (.tmp (26 : Nat)), none⟩,
  ⟨(some 28), .call ⟨(.value (.func (61 : Nat))), #[(.tmp (25 : Nat)), (.tmp (27 : Nat))], #[22, 3]⟩, none⟩,
  ⟨(some 29), .move (.tmp (1 : Nat)), none⟩,
  ⟨(some 30), .convert 3 5 (.tmp (29 : Nat)), none⟩,
  ⟨(some 31), .buildSlice 22 1 #[(0, (.tmp (30 : Nat)))], none⟩,
  ⟨(some 32), .call ⟨(.builtin .append), #[(.tmp (28 : Nat)), (.tmp (31 : Nat))], #[22, 22]⟩, none⟩,
  ⟨(some 7), .assign (.tmp (32 : Nat)), none⟩]
def bilevel_Encode_a6 : List (List Nat) := [[], [0], [1], [], [3], [2, 4, 2], [], [6], [7], [5, 8, 5], [9, 9, 0, 1, 2, 3, 4, 5, 6, 7, 8, 9]]
def bilevel_Encode_r7 : List SO := [⟨(some 33), .fieldAddr 24 (.tmp (2 : Nat)) 1, none⟩,
  ⟨(some 34), .load 3 (.tmp (33 : Nat)), none⟩,
  ⟨(some 35), .move (.tmp (1 : Nat)), none⟩,
  ⟨(some 36), .binOp .add 3 (.tmp (34 : Nat)) (.tmp (35 : Nat)) 3, none⟩,
  ⟨(some 37), .binOp .sub 3 (.tmp (36 : Nat)) (.const (.int .i64 1)) 3, none⟩,
  ⟨(some 38), .move (.tmp (1 : Nat)), none⟩,
  ⟨(some 39), .binOp .quo 3 (.tmp (37 : Nat)) (.tmp (38 : Nat)) 3, none⟩,
  ⟨(some 40), .move (.const (.int .i64 0)), none⟩]
def bilevel_Encode_r8 : List SO := [⟨(some 41), .binOp .lss 3 (.tmp (40 : Nat)) (.tmp (39 : Nat)) 3, none⟩]
def bilevel_Encode_r9 : List SO := [⟨(some 42), .move (.tmp (40 : Nat)), none⟩,
  ⟨(some 8), .assign (.tmp (42 : Nat)), none⟩]
def bilevel_Encode_r10 : List SO := [⟨(some 43), .move (.tmp (1 : Nat)), none⟩,
  ⟨(some 44), .move (.tmp (8 : Nat)), none⟩,
  ⟨(some 45), .call ⟨(.value (.func (62 : Nat))), #[(.tmp (2 : Nat)), (.tmp (43 : Nat)), (.tmp (44 : Nat))], #[91, 3, 3]⟩, none⟩,
  ⟨(some 9), .alloc 24, none⟩,
  ⟨none, .store 24 (.tmp (9 : Nat)) (.tmp (45 : Nat)), none⟩]
def bilevel_Encode_r11 : List SO := [⟨(some 47), .call ⟨(.value (.func (57 : Nat))), #[(.tmp (9 : Nat))], #[91]⟩, none⟩,
  ⟨(some 46), .move (.tmp (47 : Nat)), none⟩,
  ⟨(some 48), .extract (.tmp (46 : Nat)) 0, none⟩,
  ⟨(some 49), .extract (.tmp (46 : Nat)) 1, none⟩,
  ⟨(some 10), .assign (.tmp (48 : Nat)), none⟩,
  ⟨(some 11), .assign (.tmp (49 : Nat)), none⟩]
def bilevel_Encode_r12 : List SO := [⟨(some 50), .move (.tmp (11 : Nat)), none⟩,
  ⟨(some 51), .binOp .neq 31 (.tmp (50 : Nat)) (.const (.int .i64 0)) 31, none⟩]
def bilevel_Encode_r13 : List SO := [⟨(some 52), .move (.tmp (11 : Nat)), none⟩,
  ⟨(some 4), .assign (.const (.slice none 0 0)), none⟩,
  ⟨(some 5), .assign (.tmp (52 : Nat)), none⟩]
def bilevel_Encode_r14 : List SO := [⟨(some 53), .move (.tmp (7 : Nat)), none⟩,
  ⟨(some 54), .move (.tmp (10 : Nat)), none⟩,
  ⟨(some 55), .call ⟨(.builtin .len), #[(.tmp (54 : Nat))], #[22]⟩, none⟩,
  ⟨(some 56), .binOp .shr 3 (.tmp (55 : Nat)) (.const (.int .u64 16)) 111, none⟩,
  ⟨(some 57), .convert 3 5 (.tmp (56 : Nat)), none⟩,
  ⟨(some 58), .buildSlice 22 1 #[(0, (.tmp (57 : Nat)))], none⟩,
  ⟨(some 59), .call ⟨(.builtin .append), #[(.tmp (53 : Nat)), (.tmp (58 : Nat))], #[22, 22]⟩, none⟩,
  ⟨(some 60), .move (.tmp (10 : Nat)), none⟩,
  ⟨(some 61), .call ⟨(.builtin .len), #[(.tmp (60 : Nat))], #[22]⟩, none⟩,
  ⟨(some 62), .call ⟨(.value (.func (61 : Nat))), #[(.tmp (59 : Nat)), (.tmp (61 : Nat))], #[22, 3]⟩, none⟩,
  ⟨(some 63), .move (.tmp (10 : Nat)), none⟩,
  ⟨(some 64), .call ⟨(.builtin .append), #[(.tmp (62 : Nat)), (.tmp (63 : Nat))], #[22, 22]⟩, none⟩,
  ⟨(some 7), .assign (.tmp (64 : Nat)), none⟩]
def bilevel_Encode_r15 : List SO := [⟨(some 65), .binOp .add 3 (.tmp (40 : Nat)) (.const (.int .i64 1)) 3, none⟩,
  ⟨(some 40), .move (.tmp (65 : Nat)), none⟩]
def bilevel_Encode_r16 : List SO := [⟨(some 66), .move (.tmp (7 : Nat)), none⟩,
  ⟨(some 67), .call ⟨(.builtin .len), #[(.tmp (66 : Nat))], #[22]⟩, none⟩,
  ⟨(some 68), .binOp .gtr 3 (.tmp (67 : Nat)) (.const (.int .i64 1048576)) 3, none⟩]
def bilevel_Encode_r17 : List SO := [⟨(some 4), .assign (.const (.slice none 0 0)), none⟩,
  ⟨(some 5), .assign (.const (.int .i64 2)), none⟩]
def bilevel_Encode_r18 : List SO := [⟨(some 69), .move (.tmp (7 : Nat)), none⟩,
  ⟨(some 4), .assign (.tmp (69 : Nat)), none⟩,
  ⟨(some 5), .assign (.const (.int .i64 0)), none⟩]
def bilevel_Encode_c : SF := ⟨70, (.seq (.reg bilevel_Encode_r0)
  (.seq (.seq (.reg bilevel_Encode_r1)
  (.seq (.reg bilevel_Encode_r2)
  (.cond (.tmp (15 : Nat)) (.seq (.reg bilevel_Encode_r3)
  .ret) .skip)))
  (.seq (.seq (.reg bilevel_Encode_r4)
  (.cond (.tmp (22 : Nat)) (.seq (.reg bilevel_Encode_r5)
  .ret) .skip))
  (.seq (.regd bilevel_Encode_r6 bilevel_Encode_a6)
  (.seq (.seq (.reg bilevel_Encode_r7)
  (.block 0 (.loop (.seq (.reg bilevel_Encode_r8)
  (.seq (.cond (.tmp (41 : Nat)) .skip (.exit 0))
  (.seq (.block 1 (.seq (.reg bilevel_Encode_r9)
  (.seq (.reg bilevel_Encode_r10)
  (.seq (.reg bilevel_Encode_r11)
  (.seq (.seq (.reg bilevel_Encode_r12)
  (.cond (.tmp (51 : Nat)) (.seq (.reg bilevel_Encode_r13)
  .ret) .skip))
  (.reg bilevel_Encode_r14))))))
  (.reg bilevel_Encode_r15)))))))
  (.seq (.seq (.reg bilevel_Encode_r16)
  (.cond (.tmp (68 : Nat)) (.seq (.reg bilevel_Encode_r17)
  .ret) .skip))
  (.seq (.reg bilevel_Encode_r18)
  .ret))))))), [.tmp 4, .tmp 5]⟩
theorem bilevel_Encode_s : slimF Try.prog 24 = some bilevel_Encode_c := by kernel_rfl
abbrev bilevel_Encode_f : Nat := 24
/-- printworks/bilevel.Decode -/
def bilevel_Decode_r0 : List SO := [⟨(some 2), .alloc 24, none⟩,
  ⟨(some 3), .assign (.const (.int .i64 0)), none⟩]
def bilevel_Decode_r1 : List SO := [⟨(some 11), .move (.tmp (0 : Nat)), none⟩,
  ⟨(some 12), .call ⟨(.value (.func (64 : Nat))), #[(.tmp (11 : Nat))], #[22]⟩, none⟩,
  ⟨(some 10), .move (.tmp (12 : Nat)), none⟩,
  ⟨(some 13), .extract (.tmp (10 : Nat)) 0, none⟩,
  ⟨(some 14), .extract (.tmp (10 : Nat)) 1, none⟩,
  ⟨(some 4), .alloc 115, none⟩,
  ⟨none, .store 115 (.tmp (4 : Nat)) (.tmp (13 : Nat)), none⟩,
  ⟨(some 5), .assign (.tmp (14 : Nat)), none⟩]
def bilevel_Decode_r2 : List SO := [⟨(some 15), .move (.tmp (5 : Nat)), none⟩,
  ⟨(some 16), .binOp .neq 31 (.tmp (15 : Nat)) (.const (.int .i64 0)) 31, none⟩]
def bilevel_Decode_r3 : List SO := [⟨(some 17), .build 24 #[], none⟩,
  ⟨(some 18), .move (.tmp (5 : Nat)), none⟩,
  ⟨none, .store 24 (.tmp (2 : Nat)) (.tmp (17 : Nat)), none⟩,
  ⟨(some 3), .assign (.tmp (18 : Nat)), none⟩]
def bilevel_Decode_r4 : List SO := [⟨(some 19), .fieldAddr 115 (.tmp (4 : Nat)) 0, none⟩,
  ⟨(some 20), .load 3 (.tmp (19 : Nat)), none⟩,
  ⟨(some 21), .fieldAddr 115 (.tmp (4 : Nat)) 1, none⟩,
  ⟨(some 22), .load 3 (.tmp (21 : Nat)), none⟩,
  ⟨(some 23), .build 24 #[(0, (.tmp (20 : Nat))), (1, (.tmp (22 : Nat)))], none⟩,
  ⟨(some 6), .alloc 24, none⟩,
  ⟨none, .store 24 (.tmp (6 : Nat)) (.tmp (23 : Nat)), none⟩]
def bilevel_Decode_r5 : List SO := [⟨(some 24), .fieldAddr 115 (.tmp (4 : Nat)) 3, none⟩,
  ⟨(some 25), .load 113 (.tmp (24 : Nat)), none⟩,
  ⟨(some 26), .call ⟨(.builtin .len), #[(.tmp (25 : Nat))], #[113]⟩, none⟩,
  ⟨(some 27), .move (.const (.int .i64 0)), none⟩]
def bilevel_Decode_r6 : List SO := [⟨(some 28), .binOp .lss 3 (.tmp (27 : Nat)) (.tmp (26 : Nat)) 3, none⟩]
def bilevel_Decode_r7 : List SO := [⟨(some 29), .move (.tmp (27 : Nat)), none⟩,
  ⟨(some 7), .assign (.tmp (29 : Nat)), none⟩]
def bilevel_Decode_r8 : List SO := [⟨(some 31), .move (.tmp (7 : Nat)), none⟩,
  ⟨(some 32), .call ⟨(.value (.func (65 : Nat))), #[(.tmp (4 : Nat)), (.tmp (31 : Nat))], #[115, 3]⟩, none⟩,
  ⟨(some 30), .move (.tmp (32 : Nat)), none⟩,
  ⟨(some 33), .extract (.tmp (30 : Nat)) 0, none⟩,
  ⟨(some 34), .extract (.tmp (30 : Nat)) 1, none⟩,
  ⟨(some 8), .alloc 24, none⟩,
  ⟨none, .store 24 (.tmp (8 : Nat)) (.tmp (33 : Nat)), none⟩,
  ⟨(some 9), .assign (.tmp (34 : Nat)), none⟩]
def bilevel_Decode_r9 : List SO := [⟨(some 35), .move (.tmp (9 : Nat)), none⟩,
  ⟨(some 36), .binOp .neq 31 (.tmp (35 : Nat)) (.const (.int .i64 0)) 31, none⟩]
def bilevel_Decode_r10 : List SO := [⟨(some 37), .build 24 #[], none⟩,
  ⟨(some 38), .move (.tmp (9 : Nat)), none⟩,
  ⟨none, .store 24 (.tmp (2 : Nat)) (.tmp (37 : Nat)), none⟩,
  ⟨(some 3), .assign (.tmp (38 : Nat)), none⟩]
def bilevel_Decode_r11 : List SO := [⟨(some 39), .fieldAddr 24 (.tmp (6 : Nat)) 2, none⟩,
  ⟨(some 40), .load 22 (.tmp (39 : Nat)), none⟩,
  ⟨(some 41), .fieldAddr 24 (.tmp (8 : Nat)) 2, none⟩,
  ⟨(some 42), .load 22 (.tmp (41 : Nat)), none⟩,
  ⟨(some 43), .call ⟨(.builtin .append), #[(.tmp (40 : Nat)), (.tmp (42 : Nat))], #[22, 22]⟩, none⟩,
  ⟨(some 44), .fieldAddr 24 (.tmp (6 : Nat)) 2, none⟩,
  ⟨none, .store 22 (.tmp (44 : Nat)) (.tmp (43 : Nat)), none⟩]
def bilevel_Decode_r12 : List SO := [⟨(some 45), .binOp .add 3 (.tmp (27 : Nat)) (.const (.int .i64 1)) 3, none⟩,
  ⟨(some 27), .move (.tmp (45 : Nat)), none⟩]
def bilevel_Decode_r13 : List SO := [⟨(some 46), .load 24 (.tmp (6 : Nat)), none⟩,
  ⟨none, .store 24 (.tmp (2 : Nat)) (.tmp (46 : Nat)), none⟩,
  ⟨(some 3), .assign (.const (.int .i64 0)), none⟩]
def bilevel_Decode_c : SF := ⟨47, (.seq (.reg bilevel_Decode_r0)
  (.seq (.reg bilevel_Decode_r1)
  (.seq (.seq (.reg bilevel_Decode_r2)
  (.cond (.tmp (16 : Nat)) (.seq (.reg bilevel_Decode_r3)
  .ret) .skip))
  (.seq (.reg bilevel_Decode_r4)
  (.seq (.seq (.reg bilevel_Decode_r5)
  (.block 0 (.loop (.seq (.reg bilevel_Decode_r6)
  (.seq (.cond (.tmp (28 : Nat)) .skip (.exit 0))
  (.seq (.block 1 (.seq (.reg bilevel_Decode_r7)
  (.seq (.reg bilevel_Decode_r8)
  (.seq (.seq (.reg bilevel_Decode_r9)
  (.cond (.tmp (36 : Nat)) (.seq (.reg bilevel_Decode_r10)
  .ret) .skip))
  (.reg bilevel_Decode_r11)))))
  (.reg bilevel_Decode_r12)))))))
  (.seq (.reg bilevel_Decode_r13)
  .ret)))))), [.cell 2 24, .tmp 3]⟩
theorem bilevel_Decode_s : slimF Try.prog 26 = some bilevel_Decode_c := by kernel_rfl
abbrev bilevel_Decode_f : Nat := 26
/-- printworks/bilevel.Stripes -/
def bilevel_Stripes_r0 : List SO := [⟨(some 2), .assign (.const (.int .i64 0)), none⟩,
  ⟨(some 3), .assign (.const (.int .i64 0)), none⟩]
def bilevel_Stripes_r1 : List SO := [⟨(some 7), .move (.tmp (0 : Nat)), none⟩,
  ⟨(some 8), .call ⟨(.value (.func (64 : Nat))), #[(.tmp (7 : Nat))], #[22]⟩, none⟩,
  ⟨(some 6), .move (.tmp (8 : Nat)), none⟩,
  ⟨(some 9), .extract (.tmp (6 : Nat)) 0, none⟩,
  ⟨(some 10), .extract (.tmp (6 : Nat)) 1, none⟩,
  ⟨(some 4), .alloc 115, none⟩,
  ⟨none, .store 115 (.tmp (4 : Nat)) (.tmp (9 : Nat)), none⟩,
  ⟨(some 5), .assign (.tmp (10 : Nat)), none⟩]
def bilevel_Stripes_r2 : List SO := [⟨(some 11), .fieldAddr 115 (.tmp (4 : Nat)) 3, none⟩,
  ⟨(some 12), .load 113 (.tmp (11 : Nat)), none⟩,
  ⟨(some 13), .call ⟨(.builtin .len), #[(.tmp (12 : Nat))], #[113]⟩, none⟩,
  ⟨(some 14), .move (.tmp (5 : Nat)), none⟩,
  ⟨(some 2), .assign (.tmp (13 : Nat)), none⟩,
  ⟨(some 3), .assign (.tmp (14 : Nat)), none⟩]
def bilevel_Stripes_c : SF := ⟨15, (.seq (.reg bilevel_Stripes_r0)
  (.seq (.reg bilevel_Stripes_r1)
  (.seq (.reg bilevel_Stripes_r2)
  .ret))), [.tmp 2, .tmp 3]⟩
theorem bilevel_Stripes_s : slimF Try.prog 27 = some bilevel_Stripes_c := by kernel_rfl
abbrev bilevel_Stripes_f : Nat := 27
/-- printworks/bilevel.Unpack -/
def bilevel_Unpack_r0 : List SO := [⟨(some 6), .alloc 24, none⟩,
  ⟨(some 7), .assign (.const (.int .i64 0)), none⟩]
def bilevel_Unpack_r1 : List SO := [⟨(some 11), .move (.tmp (0 : Nat)), none⟩,
  ⟨(some 12), .call ⟨(.builtin .len), #[(.tmp (11 : Nat))], #[22]⟩, none⟩,
  ⟨(some 13), .binOp .gtr 3 (.tmp (12 : Nat)) (.const (.int .i64 1048576)) 3, none⟩]
def bilevel_Unpack_r2 : List SO := [⟨(some 14), .build 24 #[], none⟩,
  ⟨none, .store 24 (.tmp (6 : Nat)) (.tmp (14 : Nat)), none⟩,
  ⟨(some 7), .assign (.const (.int .i64 2)), none⟩]
def bilevel_Unpack_r3 : List SO := [⟨(some 15), .move (.tmp (1 : Nat)), none⟩,
  ⟨(some 16), .binOp .lss 3 (.tmp (15 : Nat)) (.const (.int .i64 1)) 3, none⟩,
  ⟨(some 17), .move (.tmp (16 : Nat)), none⟩,
  ⟨(some 18), .move (.tmp (1 : Nat)), (some (17, false))⟩,
  ⟨(some 19), .binOp .gtr 3 (.tmp (18 : Nat)) (.const (.int .i64 1024)) 3, (some (17, false))⟩,
  ⟨(some 20), .pick (.tmp (17 : Nat)) (.const (.bool true)) (.tmp (19 : Nat)), none⟩,
  ⟨(some 21), .move (.tmp (20 : Nat)), none⟩,
  ⟨(some 22), .move (.tmp (2 : Nat)), (some (21, false))⟩,
  ⟨(some 23), .binOp .lss 3 (.tmp (22 : Nat)) (.const (.int .i64 1)) 3, (some (21, false))⟩,
  ⟨(some 24), .pick (.tmp (21 : Nat)) (.const (.bool true)) (.tmp (23 : Nat)), none⟩,
  ⟨(some 25), .move (.tmp (24 : Nat)), none⟩,
  ⟨(some 26), .move (.tmp (2 : Nat)), (some (25, false))⟩,
  ⟨(some 27), .binOp .gtr 3 (.tmp (26 : Nat)) (.const (.int .i64 64)) 3, (some (25, false))⟩,
  ⟨(some 28), .pick (.tmp (25 : Nat)) (.const (.bool true)) (.tmp (27 : Nat)), none⟩]
def bilevel_Unpack_r4 : List SO := [⟨(some 29), .build 24 #[], none⟩,
  ⟨none, .store 24 (.tmp (6 : Nat)) (.tmp (29 : Nat)), none⟩,
  ⟨(some 7), .assign (.const (.int .i64 3)), none⟩]
def bilevel_Unpack_r5 : List SO := [⟨(some 31), .move (.tmp (0 : Nat)), none⟩,
  ⟨(some 32), .call ⟨(.value (.func (93 : Nat))), #[(.tmp (31 : Nat)), (.const (.int .i64 2049))], #[22, 3]⟩, none⟩,
  ⟨(some 30), .move (.tmp (32 : Nat)), none⟩,
  ⟨(some 33), .extract (.tmp (30 : Nat)) 0, none⟩,
  ⟨(some 34), .extract (.tmp (30 : Nat)) 1, none⟩,
  ⟨(some 8), .alloc 149, none⟩,
  ⟨(some 9), .alloc 31, none⟩,
  ⟨none, .store 149 (.tmp (8 : Nat)) (.tmp (33 : Nat)), none⟩,
  ⟨none, .store 31 (.tmp (9 : Nat)) (.tmp (34 : Nat)), none⟩]
def bilevel_Unpack_r6 : List SO := [⟨(some 35), .load 31 (.tmp (9 : Nat)), none⟩,
  ⟨(some 36), .binOp .neq 31 (.tmp (35 : Nat)) (.const (.int .i64 0)) 31, none⟩]
def bilevel_Unpack_r7 : List SO := [⟨(some 37), .build 24 #[], none⟩,
  ⟨(some 38), .load 31 (.tmp (9 : Nat)), none⟩,
  ⟨none, .store 24 (.tmp (6 : Nat)) (.tmp (37 : Nat)), none⟩,
  ⟨(some 7), .assign (.tmp (38 : Nat)), none⟩]
def bilevel_Unpack_a7 : List (List Nat) := [[], [], [0, 0], [1, 2, 0, 1, 2]]
def bilevel_Unpack_r8 : List SO := [⟨(some 39), .move (.tmp (1 : Nat)), none⟩,
  ⟨(some 40), .move (.tmp (2 : Nat)), none⟩,
  ⟨(some 41), .call ⟨(.value (.func (56 : Nat))), #[(.tmp (39 : Nat)), (.tmp (40 : Nat))], #[3, 3]⟩, none⟩,
  ⟨(some 10), .alloc 24, none⟩,
  ⟨none, .store 24 (.tmp (10 : Nat)) (.tmp (41 : Nat)), none⟩]
def bilevel_Unpack_r9 : List SO := [⟨(some 42), .makeFunc (.func (95 : Nat)) #[] #[(.tmp (8 : Nat)), (.tmp (9 : Nat))], none⟩,
  ⟨(some 43), .call ⟨(.value (.func (94 : Nat))), #[(.tmp (10 : Nat)), (.tmp (42 : Nat)), (.const (.bool true))], #[91, 201, 4]⟩, none⟩]
def bilevel_Unpack_r10 : List SO := [⟨(some 44), .load 31 (.tmp (9 : Nat)), none⟩,
  ⟨(some 45), .binOp .neq 31 (.tmp (44 : Nat)) (.const (.int .i64 0)) 31, none⟩]
def bilevel_Unpack_r11 : List SO := [⟨(some 46), .build 24 #[], none⟩,
  ⟨(some 47), .load 31 (.tmp (9 : Nat)), none⟩,
  ⟨none, .store 24 (.tmp (6 : Nat)) (.tmp (46 : Nat)), none⟩,
  ⟨(some 7), .assign (.tmp (47 : Nat)), none⟩]
def bilevel_Unpack_a11 : List (List Nat) := [[], [], [0, 0], [1, 2, 0, 1, 2]]
def bilevel_Unpack_r12 : List SO := [⟨(some 48), .load 24 (.tmp (10 : Nat)), none⟩,
  ⟨none, .store 24 (.tmp (6 : Nat)) (.tmp (48 : Nat)), none⟩,
  ⟨(some 7), .assign (.const (.int .i64 0)), none⟩]
def bilevel_Unpack_c : SF := ⟨49, (.seq (.reg bilevel_Unpack_r0)
  (.seq (.seq (.reg bilevel_Unpack_r1)
  (.cond (.tmp (13 : Nat)) (.seq (.reg bilevel_Unpack_r2)
  .ret) .skip))
  (.seq (.seq (.reg bilevel_Unpack_r3)
  (.cond (.tmp (28 : Nat)) (.seq (.reg bilevel_Unpack_r4)
  .ret) .skip))
  (.seq (.reg bilevel_Unpack_r5)
  (.seq (.seq (.reg bilevel_Unpack_r6)
  (.cond (.tmp (36 : Nat)) (.seq (.regd bilevel_Unpack_r7 bilevel_Unpack_a7)
  .ret) .skip))
  (.seq (.reg bilevel_Unpack_r8)
  (.seq (.reg bilevel_Unpack_r9)
  (.seq (.seq (.reg bilevel_Unpack_r10)
  (.cond (.tmp (45 : Nat)) (.seq (.regd bilevel_Unpack_r11 bilevel_Unpack_a11)
  .ret) .skip))
  (.seq (.reg bilevel_Unpack_r12)
  .ret))))))))), [.cell 6 24, .tmp 7]⟩
theorem bilevel_Unpack_s : slimF Try.prog 54 = some bilevel_Unpack_c := by kernel_rfl
abbrev bilevel_Unpack_f : Nat := 54
/-- printworks/bilevel.packed -/
def bilevel_packed_r0 : List SO := [⟨(some 2), .assign (.const (.slice none 0 0)), none⟩,
  ⟨(some 3), .assign (.const (.int .i64 0)), none⟩]
def bilevel_packed_r1 : List SO := [⟨(some 7), .call ⟨(.value (.func (58 : Nat))), #[(.const (.int .i64 2049))], #[3]⟩, none⟩,
  ⟨(some 6), .move (.tmp (7 : Nat)), none⟩,
  ⟨(some 8), .extract (.tmp (6 : Nat)) 0, none⟩,
  ⟨(some 9), .extract (.tmp (6 : Nat)) 1, none⟩,
  ⟨(some 4), .alloc 104, none⟩,
  ⟨(some 5), .alloc 31, none⟩,
  ⟨none, .store 104 (.tmp (4 : Nat)) (.tmp (8 : Nat)), none⟩,
  ⟨none, .store 31 (.tmp (5 : Nat)) (.tmp (9 : Nat)), none⟩]
def bilevel_packed_r2 : List SO := [⟨(some 10), .load 31 (.tmp (5 : Nat)), none⟩,
  ⟨(some 11), .binOp .neq 31 (.tmp (10 : Nat)) (.const (.int .i64 0)) 31, none⟩]
def bilevel_packed_r3 : List SO := [⟨(some 12), .load 31 (.tmp (5 : Nat)), none⟩,
  ⟨(some 2), .assign (.const (.slice none 0 0)), none⟩,
  ⟨(some 3), .assign (.tmp (12 : Nat)), none⟩]
def bilevel_packed_a3 : List (List Nat) := [[], [], [0, 1, 0, 1]]
def bilevel_packed_r4 : List SO := [⟨(some 13), .move (.tmp (0 : Nat)), none⟩,
  ⟨(some 14), .makeFunc (.func (97 : Nat)) #[] #[(.tmp (5 : Nat)), (.tmp (4 : Nat))], none⟩,
  ⟨(some 15), .call ⟨(.value (.func (94 : Nat))), #[(.tmp (13 : Nat)), (.tmp (14 : Nat)), (.const (.bool false))], #[91, 201, 4]⟩, none⟩]
def bilevel_packed_r5 : List SO := [⟨(some 16), .load 31 (.tmp (5 : Nat)), none⟩,
  ⟨(some 17), .binOp .neq 31 (.tmp (16 : Nat)) (.const (.int .i64 0)) 31, none⟩]
def bilevel_packed_r6 : List SO := [⟨(some 18), .load 31 (.tmp (5 : Nat)), none⟩,
  ⟨(some 2), .assign (.const (.slice none 0 0)), none⟩,
  ⟨(some 3), .assign (.tmp (18 : Nat)), none⟩]
def bilevel_packed_a6 : List (List Nat) := [[], [], [0, 1, 0, 1]]
def bilevel_packed_r7 : List SO := [⟨(some 19), .load 104 (.tmp (4 : Nat)), none⟩,
  ⟨(some 20), .call ⟨(.value (.func (60 : Nat))), #[(.tmp (19 : Nat))], #[104]⟩, none⟩,
  ⟨(some 21), .extract (.tmp (20 : Nat)) 0, none⟩,
  ⟨(some 22), .extract (.tmp (20 : Nat)) 1, none⟩,
  ⟨(some 2), .assign (.tmp (21 : Nat)), none⟩,
  ⟨(some 3), .assign (.tmp (22 : Nat)), none⟩]
def bilevel_packed_c : SF := ⟨23, (.seq (.reg bilevel_packed_r0)
  (.seq (.reg bilevel_packed_r1)
  (.seq (.seq (.reg bilevel_packed_r2)
  (.cond (.tmp (11 : Nat)) (.seq (.regd bilevel_packed_r3 bilevel_packed_a3)
  .ret) .skip))
  (.seq (.reg bilevel_packed_r4)
  (.seq (.seq (.reg bilevel_packed_r5)
  (.cond (.tmp (17 : Nat)) (.seq (.regd bilevel_packed_r6 bilevel_packed_a6)
  .ret) .skip))
  (.seq (.reg bilevel_packed_r7)
  .ret)))))), [.tmp 2, .tmp 3]⟩
theorem bilevel_packed_s : slimF Try.prog 57 = some bilevel_packed_c := by kernel_rfl
abbrev bilevel_packed_f : Nat := 57
/-- printworks/bilevel.Part -/
def bilevel_Part_r0 : List SO := [⟨(some 6), .alloc 24, none⟩]
def bilevel_Part_r1 : List SO := [⟨(some 10), .move (.tmp (0 : Nat)), none⟩,
  ⟨(some 11), .nilCheck (.tmp (10 : Nat)), none⟩,
  ⟨(some 12), .fieldAddr 24 (.tmp (11 : Nat)) 0, none⟩,
  ⟨(some 13), .load 3 (.tmp (12 : Nat)), none⟩,
  ⟨(some 14), .binOp .add 3 (.tmp (13 : Nat)) (.const (.int .i64 7)) 3, none⟩,
  ⟨(some 15), .binOp .quo 3 (.tmp (14 : Nat)) (.const (.int .i64 8)) 3, none⟩,
  ⟨(some 7), .assign (.tmp (15 : Nat)), none⟩]
def bilevel_Part_r2 : List SO := [⟨(some 16), .move (.tmp (2 : Nat)), none⟩,
  ⟨(some 17), .move (.tmp (1 : Nat)), none⟩,
  ⟨(some 18), .binOp .mul 3 (.tmp (16 : Nat)) (.tmp (17 : Nat)) 3, none⟩,
  ⟨(some 19), .move (.tmp (2 : Nat)), none⟩,
  ⟨(some 20), .binOp .add 3 (.tmp (19 : Nat)) (.const (.int .i64 1)) 3, none⟩,
  ⟨(some 21), .move (.tmp (1 : Nat)), none⟩,
  ⟨(some 22), .binOp .mul 3 (.tmp (20 : Nat)) (.tmp (21 : Nat)) 3, none⟩,
  ⟨(some 23), .move (.tmp (0 : Nat)), none⟩,
  ⟨(some 24), .nilCheck (.tmp (23 : Nat)), none⟩,
  ⟨(some 25), .fieldAddr 24 (.tmp (24 : Nat)) 1, none⟩,
  ⟨(some 26), .load 3 (.tmp (25 : Nat)), none⟩,
  ⟨(some 27), .call ⟨(.builtin .min), #[(.tmp (22 : Nat)), (.tmp (26 : Nat))], #[3, 3]⟩, none⟩,
  ⟨(some 8), .assign (.tmp (18 : Nat)), none⟩,
  ⟨(some 9), .assign (.tmp (27 : Nat)), none⟩]
def bilevel_Part_a2 : List (List Nat) := [[], [], [0, 1], [], [3], [], [4, 5], [], [7], [8], [9], [6, 10], [2, 0, 1, 2], [11, 12, 0, 1, 2, 3, 4, 5, 6, 7, 8, 9, 10, 11, 12]]
def bilevel_Part_r3 : List SO := [⟨(some 28), .move (.tmp (0 : Nat)), none⟩,
  ⟨(some 29), .nilCheck (.tmp (28 : Nat)), none⟩,
  ⟨(some 30), .fieldAddr 24 (.tmp (29 : Nat)) 0, none⟩,
  ⟨(some 31), .load 3 (.tmp (30 : Nat)), none⟩,
  ⟨(some 32), .move (.tmp (9 : Nat)), none⟩,
  ⟨(some 33), .move (.tmp (8 : Nat)), none⟩,
  ⟨(some 34), .binOp .sub 3 (.tmp (32 : Nat)) (.tmp (33 : Nat)) 3, none⟩,
  ⟨(some 35), .move (.tmp (0 : Nat)), none⟩,
  ⟨(some 36), .nilCheck (.tmp (35 : Nat)), none⟩,
  ⟨(some 37), .fieldAddr 24 (.tmp (36 : Nat)) 2, none⟩,
  ⟨(some 38), .load 22 (.tmp (37 : Nat)), none⟩,
  ⟨(some 39), .move (.tmp (8 : Nat)), none⟩,
  ⟨(some 40), .move (.tmp (7 : Nat)), none⟩,
  ⟨(some 41), .binOp .mul 3 (.tmp (39 : Nat)) (.tmp (40 : Nat)) 3, none⟩,
  ⟨(some 42), .move (.tmp (9 : Nat)), none⟩,
  ⟨(some 43), .move (.tmp (7 : Nat)), none⟩,
  ⟨(some 44), .binOp .mul 3 (.tmp (42 : Nat)) (.tmp (43 : Nat)) 3, none⟩,
  ⟨(some 45), .slice 22 (.tmp (38 : Nat)) (some (.tmp (41 : Nat))) (some (.tmp (44 : Nat))) none, none⟩,
  ⟨(some 46), .call ⟨(.builtin .append), #[(.const (.slice none 0 0)), (.tmp (45 : Nat))], #[22, 22]⟩, none⟩,
  ⟨(some 47), .build 24 #[(0, (.tmp (31 : Nat))), (1, (.tmp (34 : Nat))), (2, (.tmp (46 : Nat)))], none⟩,
  ⟨none, .store 24 (.tmp (6 : Nat)) (.tmp (47 : Nat)), none⟩]
def bilevel_Part_a3 : List (List Nat) := [[], [0], [1], [2], [], [], [4, 5], [], [7], [8], [9], [], [], [11, 12], [], [], [14, 15], [10, 13, 16], [17], [3, 6, 18], [19, 18, 0, 1, 2, 3, 4, 5, 6, 7, 8, 9, 10, 11, 12, 13, 14, 15, 16, 17, 18, 19]]
def bilevel_Part_c : SF := ⟨48, (.seq (.reg bilevel_Part_r0)
  (.seq (.reg bilevel_Part_r1)
  (.seq (.regd bilevel_Part_r2 bilevel_Part_a2)
  (.seq (.regd bilevel_Part_r3 bilevel_Part_a3)
  .ret)))), [.cell 6 24]⟩
theorem bilevel_Part_s : slimF Try.prog 62 = some bilevel_Part_c := by kernel_rfl
abbrev bilevel_Part_f : Nat := 62
/-- printworks/bilevel.cut -/
def bilevel_cut_r0 : List SO := [⟨(some 2), .alloc 115, none⟩,
  ⟨(some 3), .assign (.const (.int .i64 0)), none⟩]
def bilevel_cut_r1 : List SO := [⟨(some 7), .move (.tmp (0 : Nat)), none⟩,
  ⟨(some 8), .call ⟨(.builtin .len), #[(.tmp (7 : Nat))], #[22]⟩, none⟩,
  ⟨(some 9), .binOp .gtr 3 (.tmp (8 : Nat)) (.const (.int .i64 1048576)) 3, none⟩]
def bilevel_cut_r2 : List SO := [⟨(some 10), .build 115 #[], none⟩,
  ⟨none, .store 115 (.tmp (2 : Nat)) (.tmp (10 : Nat)), none⟩,
  ⟨(some 3), .assign (.const (.int .i64 2)), none⟩]
def bilevel_cut_r3 : List SO := [⟨(some 11), .move (.tmp (0 : Nat)), none⟩,
  ⟨(some 12), .call ⟨(.builtin .len), #[(.tmp (11 : Nat))], #[22]⟩, none⟩,
  ⟨(some 13), .binOp .lss 3 (.tmp (12 : Nat)) (.const (.int .i64 5)) 3, none⟩]
def bilevel_cut_r4 : List SO := [⟨(some 14), .build 115 #[], none⟩,
  ⟨none, .store 115 (.tmp (2 : Nat)) (.tmp (14 : Nat)), none⟩,
  ⟨(some 3), .assign (.const (.int .i64 12)), none⟩]
def bilevel_cut_r5 : List SO := [⟨(some 15), .move (.tmp (0 : Nat)), none⟩,
  ⟨(some 16), .call ⟨(.value (.func (103 : Nat))), #[(.tmp (15 : Nat))], #[22]⟩, none⟩,
  ⟨(some 17), .move (.tmp (0 : Nat)), none⟩,
  ⟨(some 18), .slice 22 (.tmp (17 : Nat)) (some (.const (.int .i64 2))) none none, none⟩,
  ⟨(some 19), .call ⟨(.value (.func (103 : Nat))), #[(.tmp (18 : Nat))], #[22]⟩, none⟩,
  ⟨(some 20), .move (.tmp (0 : Nat)), none⟩,
  ⟨(some 21), .indexAddr 22 (.tmp (20 : Nat)) (.const (.int .i64 4)), none⟩,
  ⟨(some 22), .load 5 (.tmp (21 : Nat)), none⟩,
  ⟨(some 23), .convert 5 3 (.tmp (22 : Nat)), none⟩,
  ⟨(some 24), .build 115 #[(0, (.tmp (16 : Nat))), (1, (.tmp (19 : Nat))), (2, (.tmp (23 : Nat)))], none⟩,
  ⟨(some 4), .alloc 115, none⟩,
  ⟨none, .store 115 (.tmp (4 : Nat)) (.tmp (24 : Nat)), none⟩]
def bilevel_cut_a5 : List (List Nat) := [[], [0], [], [2], [3, 1], [], [5], [6], [7], [1, 4, 8], [], [10, 9, 4, 0, 1, 2, 3, 4, 5, 6, 7, 8, 9, 10]]
def bilevel_cut_r6 : List SO := [⟨(some 25), .fieldAddr 115 (.tmp (4 : Nat)) 0, none⟩,
  ⟨(some 26), .load 3 (.tmp (25 : Nat)), none⟩,
  ⟨(some 27), .binOp .lss 3 (.tmp (26 : Nat)) (.const (.int .i64 1)) 3, none⟩,
  ⟨(some 28), .move (.tmp (27 : Nat)), none⟩,
  ⟨(some 29), .fieldAddr 115 (.tmp (4 : Nat)) 0, (some (28, false))⟩,
  ⟨(some 30), .load 3 (.tmp (29 : Nat)), (some (28, false))⟩,
  ⟨(some 31), .binOp .gtr 3 (.tmp (30 : Nat)) (.const (.int .i64 1024)) 3, (some (28, false))⟩,
  ⟨(some 32), .pick (.tmp (28 : Nat)) (.const (.bool true)) (.tmp (31 : Nat)), none⟩,
  ⟨(some 33), .move (.tmp (32 : Nat)), none⟩,
  ⟨(some 34), .fieldAddr 115 (.tmp (4 : Nat)) 1, (some (33, false))⟩,
  ⟨(some 35), .load 3 (.tmp (34 : Nat)), (some (33, false))⟩,
  ⟨(some 36), .binOp .lss 3 (.tmp (35 : Nat)) (.const (.int .i64 1)) 3, (some (33, false))⟩,
  ⟨(some 37), .pick (.tmp (33 : Nat)) (.const (.bool true)) (.tmp (36 : Nat)), none⟩,
  ⟨(some 38), .move (.tmp (37 : Nat)), none⟩,
  ⟨(some 39), .fieldAddr 115 (.tmp (4 : Nat)) 1, (some (38, false))⟩,
  ⟨(some 40), .load 3 (.tmp (39 : Nat)), (some (38, false))⟩,
  ⟨(some 41), .binOp .gtr 3 (.tmp (40 : Nat)) (.const (.int .i64 1024)) 3, (some (38, false))⟩,
  ⟨(some 42), .pick (.tmp (38 : Nat)) (.const (.bool true)) (.tmp (41 : Nat)), none⟩,
  ⟨(some 43), .move (.tmp (42 : Nat)), none⟩,
  ⟨(some 44), .fieldAddr 115 (.tmp (4 : Nat)) 2, (some (43, false))⟩,
  ⟨(some 45), .load 3 (.tmp (44 : Nat)), (some (43, false))⟩,
  ⟨(some 46), .binOp .lss 3 (.tmp (45 : Nat)) (.const (.int .i64 1)) 3, (some (43, false))⟩,
  ⟨(some 47), .pick (.tmp (43 : Nat)) (.const (.bool true)) (.tmp (46 : Nat)), none⟩,
  ⟨(some 48), .move (.tmp (47 : Nat)), none⟩,
  ⟨(some 49), .fieldAddr 115 (.tmp (4 : Nat)) 2, (some (48, false))⟩,
  ⟨(some 50), .load 3 (.tmp (49 : Nat)), (some (48, false))⟩,
  ⟨(some 51), .binOp .gtr 3 (.tmp (50 : Nat)) (.const (.int .i64 64)) 3, (some (48, false))⟩,
  ⟨(some 52), .pick (.tmp (48 : Nat)) (.const (.bool true)) (.tmp (51 : Nat)), none⟩]
def bilevel_cut_r7 : List SO := [⟨(some 53), .build 115 #[], none⟩,
  ⟨none, .store 115 (.tmp (2 : Nat)) (.tmp (53 : Nat)), none⟩,
  ⟨(some 3), .assign (.const (.int .i64 3)), none⟩]
def bilevel_cut_r8 : List SO := [⟨(some 54), .move (.tmp (0 : Nat)), none⟩,
  ⟨(some 55), .slice 22 (.tmp (54 : Nat)) (some (.const (.int .i64 5))) none none, none⟩,
  ⟨(some 5), .assign (.tmp (55 : Nat)), none⟩]
def bilevel_cut_r9 : List SO := [⟨(some 56), .fieldAddr 115 (.tmp (4 : Nat)) 1, none⟩,
  ⟨(some 57), .load 3 (.tmp (56 : Nat)), none⟩,
  ⟨(some 58), .fieldAddr 115 (.tmp (4 : Nat)) 2, none⟩,
  ⟨(some 59), .load 3 (.tmp (58 : Nat)), none⟩,
  ⟨(some 60), .binOp .add 3 (.tmp (57 : Nat)) (.tmp (59 : Nat)) 3, none⟩,
  ⟨(some 61), .binOp .sub 3 (.tmp (60 : Nat)) (.const (.int .i64 1)) 3, none⟩,
  ⟨(some 62), .fieldAddr 115 (.tmp (4 : Nat)) 2, none⟩,
  ⟨(some 63), .load 3 (.tmp (62 : Nat)), none⟩,
  ⟨(some 64), .binOp .quo 3 (.tmp (61 : Nat)) (.tmp (63 : Nat)) 3, none⟩,
  ⟨(some 65), .move (.const (.int .i64 0)), none⟩]
def bilevel_cut_r10 : List SO := [⟨(some 66), .binOp .lss 3 (.tmp (65 : Nat)) (.tmp (64 : Nat)) 3, none⟩]
def bilevel_cut_r11 : List SO := [⟨(some 67), .move (.tmp (5 : Nat)), none⟩,
  ⟨(some 68), .call ⟨(.builtin .len), #[(.tmp (67 : Nat))], #[22]⟩, none⟩,
  ⟨(some 69), .binOp .lss 3 (.tmp (68 : Nat)) (.const (.int .i64 3)) 3, none⟩]
def bilevel_cut_r12 : List SO := [⟨(some 70), .build 115 #[], none⟩,
  ⟨none, .store 115 (.tmp (2 : Nat)) (.tmp (70 : Nat)), none⟩,
  ⟨(some 3), .assign (.const (.int .i64 12)), none⟩]
def bilevel_cut_r13 : List SO := [⟨(some 71), .move (.tmp (5 : Nat)), none⟩,
  ⟨(some 72), .indexAddr 22 (.tmp (71 : Nat)) (.const (.int .i64 0)), none⟩,
  ⟨(some 73), .load 5 (.tmp (72 : Nat)), none⟩,
  ⟨(some 74), .convert 5 3 (.tmp (73 : Nat)), none⟩,
  ⟨(some 75), .binOp .shl 3 (.tmp (74 : Nat)) (.const (.int .u64 16)) 111, none⟩,
  ⟨(some 76), .move (.tmp (5 : Nat)), none⟩,
  ⟨(some 77), .slice 22 (.tmp (76 : Nat)) (some (.const (.int .i64 1))) none none, none⟩,
  ⟨(some 78), .call ⟨(.value (.func (103 : Nat))), #[(.tmp (77 : Nat))], #[22]⟩, none⟩,
  ⟨(some 79), .binOp .or 3 (.tmp (75 : Nat)) (.tmp (78 : Nat)) 3, none⟩,
  ⟨(some 6), .assign (.tmp (79 : Nat)), none⟩]
def bilevel_cut_a13 : List (List Nat) := [[], [0], [1], [2], [3], [], [5], [6], [4, 7], [8, 7, 0, 1, 2, 3, 4, 5, 6, 7, 8]]
def bilevel_cut_r14 : List SO := [⟨(some 80), .move (.tmp (5 : Nat)), none⟩,
  ⟨(some 81), .slice 22 (.tmp (80 : Nat)) (some (.const (.int .i64 3))) none none, none⟩,
  ⟨(some 5), .assign (.tmp (81 : Nat)), none⟩]
def bilevel_cut_r15 : List SO := [⟨(some 82), .move (.tmp (5 : Nat)), none⟩,
  ⟨(some 83), .call ⟨(.builtin .len), #[(.tmp (82 : Nat))], #[22]⟩, none⟩,
  ⟨(some 84), .move (.tmp (6 : Nat)), none⟩,
  ⟨(some 85), .binOp .lss 3 (.tmp (83 : Nat)) (.tmp (84 : Nat)) 3, none⟩]
def bilevel_cut_r16 : List SO := [⟨(some 86), .build 115 #[], none⟩,
  ⟨none, .store 115 (.tmp (2 : Nat)) (.tmp (86 : Nat)), none⟩,
  ⟨(some 3), .assign (.const (.int .i64 12)), none⟩]
def bilevel_cut_r17 : List SO := [⟨(some 87), .fieldAddr 115 (.tmp (4 : Nat)) 3, none⟩,
  ⟨(some 88), .load 113 (.tmp (87 : Nat)), none⟩,
  ⟨(some 89), .move (.tmp (5 : Nat)), none⟩,
  ⟨(some 90), .move (.tmp (6 : Nat)), none⟩,
  ⟨(some 91), .slice 22 (.tmp (89 : Nat)) none (some (.tmp (90 : Nat))) none, none⟩,
  ⟨(some 92), .buildSlice 113 1 #[(0, (.tmp (91 : Nat)))], none⟩,
  ⟨(some 93), .call ⟨(.builtin .append), #[(.tmp (88 : Nat)), (.tmp (92 : Nat))], #[113, 113]⟩, none⟩,
  ⟨(some 94), .fieldAddr 115 (.tmp (4 : Nat)) 3, none⟩,
  ⟨none, .store 113 (.tmp (94 : Nat)) (.tmp (93 : Nat)), none⟩]
def bilevel_cut_a17 : List (List Nat) := [[], [0], [], [], [2, 3], [4], [1, 5], [0, 1, 2, 3, 4, 5, 6], [7, 6, 6, 0, 1, 2, 3, 4, 5, 6]]
def bilevel_cut_r18 : List SO := [⟨(some 95), .move (.tmp (5 : Nat)), none⟩,
  ⟨(some 96), .move (.tmp (6 : Nat)), none⟩,
  ⟨(some 97), .slice 22 (.tmp (95 : Nat)) (some (.tmp (96 : Nat))) none none, none⟩,
  ⟨(some 5), .assign (.tmp (97 : Nat)), none⟩]
def bilevel_cut_r19 : List SO := [⟨(some 98), .binOp .add 3 (.tmp (65 : Nat)) (.const (.int .i64 1)) 3, none⟩,
  ⟨(some 65), .move (.tmp (98 : Nat)), none⟩]
def bilevel_cut_r20 : List SO := [⟨(some 99), .move (.tmp (5 : Nat)), none⟩,
  ⟨(some 100), .call ⟨(.builtin .len), #[(.tmp (99 : Nat))], #[22]⟩, none⟩,
  ⟨(some 101), .binOp .gtr 3 (.tmp (100 : Nat)) (.const (.int .i64 0)) 3, none⟩]
def bilevel_cut_r21 : List SO := [⟨(some 102), .build 115 #[], none⟩,
  ⟨none, .store 115 (.tmp (2 : Nat)) (.tmp (102 : Nat)), none⟩,
  ⟨(some 3), .assign (.const (.int .i64 4)), none⟩]
def bilevel_cut_r22 : List SO := [⟨(some 103), .load 115 (.tmp (4 : Nat)), none⟩,
  ⟨none, .store 115 (.tmp (2 : Nat)) (.tmp (103 : Nat)), none⟩,
  ⟨(some 3), .assign (.const (.int .i64 0)), none⟩]
def bilevel_cut_c : SF := ⟨104, (.seq (.reg bilevel_cut_r0)
  (.seq (.seq (.reg bilevel_cut_r1)
  (.cond (.tmp (9 : Nat)) (.seq (.reg bilevel_cut_r2)
  .ret) .skip))
  (.seq (.seq (.reg bilevel_cut_r3)
  (.cond (.tmp (13 : Nat)) (.seq (.reg bilevel_cut_r4)
  .ret) .skip))
  (.seq (.regd bilevel_cut_r5 bilevel_cut_a5)
  (.seq (.seq (.reg bilevel_cut_r6)
  (.cond (.tmp (52 : Nat)) (.seq (.reg bilevel_cut_r7)
  .ret) .skip))
  (.seq (.reg bilevel_cut_r8)
  (.seq (.seq (.reg bilevel_cut_r9)
  (.block 0 (.loop (.seq (.reg bilevel_cut_r10)
  (.seq (.cond (.tmp (66 : Nat)) .skip (.exit 0))
  (.seq (.block 1 (.seq (.seq (.reg bilevel_cut_r11)
  (.cond (.tmp (69 : Nat)) (.seq (.reg bilevel_cut_r12)
  .ret) .skip))
  (.seq (.regd bilevel_cut_r13 bilevel_cut_a13)
  (.seq (.seq (.reg bilevel_cut_r14)
  (.seq (.reg bilevel_cut_r15)
  (.cond (.tmp (85 : Nat)) (.seq (.reg bilevel_cut_r16)
  .ret) .skip)))
  (.seq (.regd bilevel_cut_r17 bilevel_cut_a17)
  (.reg bilevel_cut_r18))))))
  (.reg bilevel_cut_r19)))))))
  (.seq (.seq (.reg bilevel_cut_r20)
  (.cond (.tmp (101 : Nat)) (.seq (.reg bilevel_cut_r21)
  .ret) .skip))
  (.seq (.reg bilevel_cut_r22)
  .ret))))))))), [.cell 2 115, .tmp 3]⟩
theorem bilevel_cut_s : slimF Try.prog 64 = some bilevel_cut_c := by kernel_rfl
abbrev bilevel_cut_f : Nat := 64
/-- (*printworks/bilevel.head).stripe -/
def __bilevel_head__stripe_r0 : List SO := [⟨(some 4), .alloc 24, none⟩,
  ⟨(some 5), .assign (.const (.int .i64 0)), none⟩]
def __bilevel_head__stripe_r1 : List SO := [⟨(some 6), .move (.tmp (0 : Nat)), none⟩,
  ⟨(some 7), .nilCheck (.tmp (6 : Nat)), none⟩,
  ⟨(some 8), .fieldAddr 115 (.tmp (7 : Nat)) 3, none⟩,
  ⟨(some 9), .load 113 (.tmp (8 : Nat)), none⟩,
  ⟨(some 10), .move (.tmp (1 : Nat)), none⟩,
  ⟨(some 11), .indexAddr 113 (.tmp (9 : Nat)) (.tmp (10 : Nat)), none⟩,
  ⟨(some 12), .load 22 (.tmp (11 : Nat)), none⟩,
  ⟨(some 13), .move (.tmp (0 : Nat)), none⟩,
  ⟨(some 14), .nilCheck (.tmp (13 : Nat)), none⟩,
  ⟨(some 15), .fieldAddr 115 (.tmp (14 : Nat)) 0, none⟩,
  ⟨(some 16), .load 3 (.tmp (15 : Nat)), none⟩,
  ⟨(some 17), .move (.tmp (0 : Nat)), none⟩,
  ⟨(some 18), .nilCheck (.tmp (17 : Nat)), none⟩,
  ⟨(some 19), .fieldAddr 115 (.tmp (18 : Nat)) 2, none⟩,
  ⟨(some 20), .load 3 (.tmp (19 : Nat)), none⟩,
  ⟨(some 21), .move (.tmp (0 : Nat)), none⟩,
  ⟨(some 22), .nilCheck (.tmp (21 : Nat)), none⟩,
  ⟨(some 23), .fieldAddr 115 (.tmp (22 : Nat)) 1, none⟩,
  ⟨(some 24), .load 3 (.tmp (23 : Nat)), none⟩,
  ⟨(some 25), .move (.tmp (1 : Nat)), none⟩,
  ⟨(some 26), .move (.tmp (0 : Nat)), none⟩,
  ⟨(some 27), .nilCheck (.tmp (26 : Nat)), none⟩,
  ⟨(some 28), .fieldAddr 115 (.tmp (27 : Nat)) 2, none⟩,
  ⟨(some 29), .load 3 (.tmp (28 : Nat)), none⟩,
  ⟨(some 30), .binOp .mul 3 (.tmp (25 : Nat)) (.tmp (29 : Nat)) 3, none⟩,
  ⟨(some 31), .binOp .sub 3 (.tmp (24 : Nat)) (.tmp (30 : Nat)) 3, none⟩,
  ⟨(some 32), .call ⟨(.builtin .min), #[(.tmp (20 : Nat)), (.tmp (31 : Nat))], #[3, 3]⟩, none⟩,
  ⟨(some 33), .call ⟨(.value (.func (54 : Nat))), #[(.tmp (12 : Nat)), (.tmp (16 : Nat)), (.tmp (32 : Nat))], #[22, 3, 3]⟩, none⟩,
  ⟨(some 34), .extract (.tmp (33 : Nat)) 0, none⟩,
  ⟨(some 35), .extract (.tmp (33 : Nat)) 1, none⟩,
  ⟨none, .store 24 (.tmp (4 : Nat)) (.tmp (34 : Nat)), none⟩,
  ⟨(some 5), .assign (.tmp (35 : Nat)), none⟩]
def __bilevel_head__stripe_a1 : List (List Nat) := [[], [0], [1], [2], [], [3, 4], [5], [], [7], [8], [9], [], [11], [12], [13], [], [15], [16], [17], [], [], [20], [21], [22], [19, 23], [18, 24], [14, 25], [6, 10, 26], [27], [27], [28, 27, 0, 1, 2, 3, 4, 5, 6, 7, 8, 9, 10, 11, 12, 13, 14, 15, 16, 17, 18, 19, 20, 21, 22, 23, 24, 25, 26, 27, 28, 29], [29, 30, 0, 1, 2, 3, 4, 5, 6, 7, 8, 9, 10, 11, 12, 13, 14, 15, 16, 17, 18, 19, 20, 21, 22, 23, 24, 25, 26, 27, 28, 29, 30]]
def __bilevel_head__stripe_c : SF := ⟨36, (.seq (.reg __bilevel_head__stripe_r0)
  (.seq (.regd __bilevel_head__stripe_r1 __bilevel_head__stripe_a1)
  .ret)), [.cell 4 24, .tmp 5]⟩
theorem __bilevel_head__stripe_s : slimF Try.prog 65 = some __bilevel_head__stripe_c := by kernel_rfl
abbrev __bilevel_head__stripe_f : Nat := 65
/-- printworks/bilevel.Unpack$1 -/
def bilevel_Unpack_1_r0 : List SO := [⟨(some 6), .assign (.const (.int .i64 0)), none⟩]
def bilevel_Unpack_1_r1 : List SO := [⟨(some 10), .load 149 (.tmp (2 : Nat)), none⟩,
  ⟨(some 11), .move (.tmp (0 : Nat)), none⟩,
  ⟨(some 12), .call ⟨(.value (.func (96 : Nat))), #[(.tmp (10 : Nat)), (.tmp (11 : Nat))], #[149, 3]⟩, none⟩,
  ⟨(some 9), .move (.tmp (12 : Nat)), none⟩,
  ⟨(some 13), .extract (.tmp (9 : Nat)) 0, none⟩,
  ⟨(some 14), .extract (.tmp (9 : Nat)) 1, none⟩,
  ⟨(some 7), .assign (.tmp (13 : Nat)), none⟩,
  ⟨(some 8), .assign (.tmp (14 : Nat)), none⟩]
def bilevel_Unpack_1_r2 : List SO := [⟨(some 15), .load 31 (.tmp (3 : Nat)), none⟩,
  ⟨(some 16), .move (.tmp (8 : Nat)), none⟩,
  ⟨(some 17), .call ⟨(.builtin .max), #[(.tmp (15 : Nat)), (.tmp (16 : Nat))], #[31, 31]⟩, none⟩,
  ⟨none, .store 31 (.tmp (3 : Nat)) (.tmp (17 : Nat)), none⟩]
def bilevel_Unpack_1_r3 : List SO := [⟨(some 18), .move (.tmp (7 : Nat)), none⟩,
  ⟨(some 6), .assign (.tmp (18 : Nat)), none⟩]
def bilevel_Unpack_1_c : SF := ⟨19, (.seq (.reg bilevel_Unpack_1_r0)
  (.seq (.reg bilevel_Unpack_1_r1)
  (.seq (.reg bilevel_Unpack_1_r2)
  (.seq (.reg bilevel_Unpack_1_r3)
  .ret)))), [.tmp 6]⟩
theorem bilevel_Unpack_1_s : slimF Try.prog 95 = some bilevel_Unpack_1_c := by kernel_rfl
abbrev bilevel_Unpack_1_f : Nat := 95
/-- printworks/bilevel.pass -/
def bilevel_pass_r0 : List SO := [⟨(some 13), .move (.tmp (0 : Nat)), none⟩,
  ⟨(some 14), .nilCheck (.tmp (13 : Nat)), none⟩,
  ⟨(some 15), .fieldAddr 24 (.tmp (14 : Nat)) 0, none⟩,
  ⟨(some 16), .load 3 (.tmp (15 : Nat)), none⟩,
  ⟨(some 17), .binOp .add 3 (.tmp (16 : Nat)) (.const (.int .i64 7)) 3, none⟩,
  ⟨(some 18), .binOp .quo 3 (.tmp (17 : Nat)) (.const (.int .i64 8)) 3, none⟩,
  ⟨(some 6), .assign (.tmp (18 : Nat)), none⟩]
def bilevel_pass_r1 : List SO := [⟨(some 19), .move (.tmp (6 : Nat)), none⟩,
  ⟨(some 20), .makeSlice 22 (.tmp (19 : Nat)) (.tmp (19 : Nat)), none⟩,
  ⟨(some 7), .assign (.tmp (20 : Nat)), none⟩]
def bilevel_pass_r2 : List SO := [⟨(some 21), .move (.tmp (0 : Nat)), none⟩,
  ⟨(some 22), .nilCheck (.tmp (21 : Nat)), none⟩,
  ⟨(some 23), .fieldAddr 24 (.tmp (22 : Nat)) 1, none⟩,
  ⟨(some 24), .load 3 (.tmp (23 : Nat)), none⟩,
  ⟨(some 25), .move (.const (.int .i64 0)), none⟩]
def bilevel_pass_r3 : List SO := [⟨(some 26), .binOp .lss 3 (.tmp (25 : Nat)) (.tmp (24 : Nat)) 3, none⟩]
def bilevel_pass_r4 : List SO := [⟨(some 27), .move (.tmp (25 : Nat)), none⟩,
  ⟨(some 8), .assign (.tmp (27 : Nat)), none⟩]
def bilevel_pass_r5 : List SO := [⟨(some 28), .move (.tmp (0 : Nat)), none⟩,
  ⟨(some 29), .nilCheck (.tmp (28 : Nat)), none⟩,
  ⟨(some 30), .fieldAddr 24 (.tmp (29 : Nat)) 2, none⟩,
  ⟨(some 31), .load 22 (.tmp (30 : Nat)), none⟩,
  ⟨(some 32), .move (.tmp (8 : Nat)), none⟩,
  ⟨(some 33), .move (.tmp (6 : Nat)), none⟩,
  ⟨(some 34), .binOp .mul 3 (.tmp (32 : Nat)) (.tmp (33 : Nat)) 3, none⟩,
  ⟨(some 35), .move (.tmp (8 : Nat)), none⟩,
  ⟨(some 36), .binOp .add 3 (.tmp (35 : Nat)) (.const (.int .i64 1)) 3, none⟩,
  ⟨(some 37), .move (.tmp (6 : Nat)), none⟩,
  ⟨(some 38), .binOp .mul 3 (.tmp (36 : Nat)) (.tmp (37 : Nat)) 3, none⟩,
  ⟨(some 39), .slice 22 (.tmp (31 : Nat)) (some (.tmp (34 : Nat))) (some (.tmp (38 : Nat))) none, none⟩,
  ⟨(some 9), .assign (.tmp (39 : Nat)), none⟩]
def bilevel_pass_r6 : List SO := [⟨(some 10), .assign (.const (.int .i64 0)), none⟩]
def bilevel_pass_r7 : List SO := [⟨(some 40), .move (.tmp (9 : Nat)), none⟩,
  ⟨(some 41), .move (.tmp (7 : Nat)), none⟩,
  ⟨(some 42), .call ⟨(.value (.func (129 : Nat))), #[(.tmp (40 : Nat)), (.tmp (41 : Nat))], #[22, 22]⟩, none⟩]
def bilevel_pass_r8 : List SO := [⟨(some 10), .assign (.const (.int .i64 1)), none⟩]
def bilevel_pass_r9 : List SO := [⟨(some 43), .move (.tmp (1 : Nat)), none⟩,
  ⟨(some 44), .move (.tmp (10 : Nat)), none⟩,
  ⟨(some 45), .call ⟨(.value (.tmp (43 : Nat))), #[(.const (.int .i64 2048)), (.tmp (44 : Nat))], #[3, 3]⟩, none⟩,
  ⟨(some 10), .assign (.tmp (45 : Nat)), none⟩]
def bilevel_pass_r10 : List SO := [⟨(some 46), .move (.tmp (10 : Nat)), none⟩,
  ⟨(some 47), .binOp .eql 3 (.tmp (46 : Nat)) (.const (.int .i64 1)) 3, none⟩]
def bilevel_pass_r11 : List SO := [⟨(some 48), .move (.tmp (2 : Nat)), none⟩]
def bilevel_pass_r12 : List SO := [⟨(some 49), .move (.tmp (9 : Nat)), none⟩,
  ⟨(some 50), .move (.tmp (7 : Nat)), none⟩,
  ⟨(some 51), .call ⟨(.builtin .copy), #[(.tmp (49 : Nat)), (.tmp (50 : Nat))], #[22, 22]⟩, none⟩]
def bilevel_pass_r13 : List SO := [⟨(some 52), .move (.tmp (9 : Nat)), none⟩,
  ⟨(some 7), .assign (.tmp (52 : Nat)), none⟩]
def bilevel_pass_r14 : List SO := [⟨(some 53), .move (.tmp (0 : Nat)), none⟩,
  ⟨(some 54), .nilCheck (.tmp (53 : Nat)), none⟩,
  ⟨(some 55), .fieldAddr 24 (.tmp (54 : Nat)) 0, none⟩,
  ⟨(some 56), .load 3 (.tmp (55 : Nat)), none⟩,
  ⟨(some 57), .move (.const (.int .i64 0)), none⟩]
def bilevel_pass_r15 : List SO := [⟨(some 58), .binOp .lss 3 (.tmp (57 : Nat)) (.tmp (56 : Nat)) 3, none⟩]
def bilevel_pass_r16 : List SO := [⟨(some 59), .move (.tmp (57 : Nat)), none⟩,
  ⟨(some 11), .assign (.tmp (59 : Nat)), none⟩]
def bilevel_pass_r17 : List SO := [⟨(some 12), .assign (.const (.int .i64 0)), none⟩]
def bilevel_pass_r18 : List SO := [⟨(some 60), .move (.tmp (0 : Nat)), none⟩,
  ⟨(some 61), .move (.tmp (11 : Nat)), none⟩,
  ⟨(some 62), .move (.tmp (8 : Nat)), none⟩,
  ⟨(some 63), .call ⟨(.value (.func (46 : Nat))), #[(.tmp (60 : Nat)), (.tmp (61 : Nat)), (.tmp (62 : Nat))], #[91, 3, 3]⟩, none⟩]
def bilevel_pass_r19 : List SO := [⟨(some 12), .assign (.const (.int .i64 1)), none⟩]
def bilevel_pass_r20 : List SO := [⟨(some 64), .move (.tmp (1 : Nat)), none⟩,
  ⟨(some 65), .move (.tmp (0 : Nat)), none⟩,
  ⟨(some 66), .move (.tmp (11 : Nat)), none⟩,
  ⟨(some 67), .move (.tmp (8 : Nat)), none⟩,
  ⟨(some 68), .call ⟨(.value (.func (130 : Nat))), #[(.tmp (65 : Nat)), (.tmp (66 : Nat)), (.tmp (67 : Nat))], #[91, 3, 3]⟩, none⟩,
  ⟨(some 69), .move (.tmp (12 : Nat)), none⟩,
  ⟨(some 70), .call ⟨(.value (.tmp (64 : Nat))), #[(.tmp (68 : Nat)), (.tmp (69 : Nat))], #[3, 3]⟩, none⟩,
  ⟨(some 12), .assign (.tmp (70 : Nat)), none⟩]
def bilevel_pass_r21 : List SO := [⟨(some 71), .move (.tmp (2 : Nat)), none⟩,
  ⟨(some 72), .move (.tmp (71 : Nat)), none⟩,
  ⟨(some 73), .move (.tmp (12 : Nat)), (some (72, true))⟩,
  ⟨(some 74), .binOp .eql 3 (.tmp (73 : Nat)) (.const (.int .i64 1)) 3, (some (72, true))⟩,
  ⟨(some 75), .pick (.tmp (72 : Nat)) (.tmp (74 : Nat)) (.const (.bool false)), none⟩]
def bilevel_pass_r22 : List SO := [⟨(some 76), .move (.tmp (0 : Nat)), none⟩,
  ⟨(some 77), .move (.tmp (11 : Nat)), none⟩,
  ⟨(some 78), .move (.tmp (8 : Nat)), none⟩,
  ⟨(some 79), .call ⟨(.value (.func (92 : Nat))), #[(.tmp (76 : Nat)), (.tmp (77 : Nat)), (.tmp (78 : Nat))], #[91, 3, 3]⟩, none⟩]
def bilevel_pass_r23 : List SO := [⟨(some 80), .binOp .add 3 (.tmp (57 : Nat)) (.const (.int .i64 1)) 3, none⟩,
  ⟨(some 57), .move (.tmp (80 : Nat)), none⟩]
def bilevel_pass_r24 : List SO := [⟨(some 81), .move (.tmp (9 : Nat)), none⟩,
  ⟨(some 7), .assign (.tmp (81 : Nat)), none⟩]
def bilevel_pass_r25 : List SO := [⟨(some 82), .binOp .add 3 (.tmp (25 : Nat)) (.const (.int .i64 1)) 3, none⟩,
  ⟨(some 25), .move (.tmp (82 : Nat)), none⟩]
def bilevel_pass_c : SF := ⟨83, (.seq (.reg bilevel_pass_r0)
  (.seq (.reg bilevel_pass_r1)
  (.seq (.reg bilevel_pass_r2)
  (.block 0 (.loop (.seq (.reg bilevel_pass_r3)
  (.seq (.cond (.tmp (26 : Nat)) .skip (.exit 0))
  (.seq (.block 1 (.seq (.reg bilevel_pass_r4)
  (.seq (.reg bilevel_pass_r5)
  (.seq (.reg bilevel_pass_r6)
  (.seq (.seq (.reg bilevel_pass_r7)
  (.cond (.tmp (42 : Nat)) (.reg bilevel_pass_r8) .skip))
  (.seq (.seq (.reg bilevel_pass_r9)
  (.seq (.reg bilevel_pass_r10)
  (.cond (.tmp (47 : Nat)) (.seq (.seq (.reg bilevel_pass_r11)
  (.cond (.tmp (48 : Nat)) (.reg bilevel_pass_r12) .skip))
  (.seq (.reg bilevel_pass_r13)
  (.exit 1))) .skip)))
  (.seq (.seq (.reg bilevel_pass_r14)
  (.block 2 (.loop (.seq (.reg bilevel_pass_r15)
  (.seq (.cond (.tmp (58 : Nat)) .skip (.exit 2))
  (.seq (.block 3 (.seq (.reg bilevel_pass_r16)
  (.seq (.reg bilevel_pass_r17)
  (.seq (.seq (.reg bilevel_pass_r18)
  (.cond (.tmp (63 : Nat)) (.reg bilevel_pass_r19) .skip))
  (.seq (.reg bilevel_pass_r20)
  (.seq (.reg bilevel_pass_r21)
  (.cond (.tmp (75 : Nat)) (.reg bilevel_pass_r22) .skip)))))))
  (.reg bilevel_pass_r23)))))))
  (.reg bilevel_pass_r24))))))))
  (.reg bilevel_pass_r25))))))))), []⟩
theorem bilevel_pass_s : slimF Try.prog 94 = some bilevel_pass_c := by kernel_rfl
abbrev bilevel_pass_f : Nat := 94
/-- printworks/bilevel.packed$1 -/
def bilevel_packed_1_r0 : List SO := [⟨(some 6), .assign (.const (.int .i64 0)), none⟩]
def bilevel_packed_1_r1 : List SO := [⟨(some 7), .load 31 (.tmp (2 : Nat)), none⟩,
  ⟨(some 8), .load 104 (.tmp (3 : Nat)), none⟩,
  ⟨(some 9), .move (.tmp (0 : Nat)), none⟩,
  ⟨(some 10), .move (.tmp (1 : Nat)), none⟩,
  ⟨(some 11), .call ⟨(.value (.func (59 : Nat))), #[(.tmp (8 : Nat)), (.tmp (9 : Nat)), (.tmp (10 : Nat))], #[104, 3, 3]⟩, none⟩,
  ⟨(some 12), .call ⟨(.builtin .max), #[(.tmp (7 : Nat)), (.tmp (11 : Nat))], #[31, 31]⟩, none⟩,
  ⟨none, .store 31 (.tmp (2 : Nat)) (.tmp (12 : Nat)), none⟩]
def bilevel_packed_1_a1 : List (List Nat) := [[], [], [], [], [1, 2, 3], [0, 4], [5, 4, 0, 1, 2, 3, 4, 5]]
def bilevel_packed_1_r2 : List SO := [⟨(some 13), .move (.tmp (1 : Nat)), none⟩,
  ⟨(some 6), .assign (.tmp (13 : Nat)), none⟩]
def bilevel_packed_1_c : SF := ⟨14, (.seq (.reg bilevel_packed_1_r0)
  (.seq (.regd bilevel_packed_1_r1 bilevel_packed_1_a1)
  (.seq (.reg bilevel_packed_1_r2)
  .ret))), [.tmp 6]⟩
theorem bilevel_packed_1_s : slimF Try.prog 97 = some bilevel_packed_1_c := by kernel_rfl
abbrev bilevel_packed_1_f : Nat := 97
/-- printworks/bilevel.window -/
def bilevel_window_r0 : List SO := [⟨(some 3), .box 91 (.tmp (0 : Nat)), none⟩,
  ⟨(some 4), .box 3 (.tmp (1 : Nat)), none⟩,
  ⟨(some 6), .assign (.const (.int .i64 0)), none⟩]
def bilevel_window_r1 : List SO := [⟨(some 7), .alloc 3, none⟩,
  ⟨none, .store 3 (.tmp (7 : Nat)) (.const (.int .i64 0)), none⟩]
def bilevel_window_r2 : List SO := [⟨(some 9), .makeFunc (.func (148 : Nat)) #[] #[(.tmp (7 : Nat)), (.tmp (3 : Nat)), (.tmp (4 : Nat))], none⟩,
  ⟨(some 8), .assign (.tmp (9 : Nat)), none⟩]
def bilevel_window_r3 : List SO := [⟨(some 10), .move (.tmp (8 : Nat)), none⟩,
  ⟨(some 11), .move (.tmp (2 : Nat)), none⟩,
  ⟨(some 12), .binOp .sub 3 (.tmp (11 : Nat)) (.const (.int .i64 2)) 3, none⟩,
  ⟨(some 13), .call ⟨(.value (.tmp (10 : Nat))), #[(.tmp (12 : Nat)), (.const (.int .i64 (-1))), (.const (.int .i64 1))], #[3, 3, 3]⟩, none⟩]
def bilevel_window_r4 : List SO := [⟨(some 14), .move (.tmp (8 : Nat)), none⟩,
  ⟨(some 15), .move (.tmp (2 : Nat)), none⟩,
  ⟨(some 16), .binOp .sub 3 (.tmp (15 : Nat)) (.const (.int .i64 1)) 3, none⟩,
  ⟨(some 17), .call ⟨(.value (.tmp (14 : Nat))), #[(.tmp (16 : Nat)), (.const (.int .i64 (-2))), (.const (.int .i64 2))], #[3, 3, 3]⟩, none⟩]
def bilevel_window_r5 : List SO := [⟨(some 18), .move (.tmp (8 : Nat)), none⟩,
  ⟨(some 19), .move (.tmp (2 : Nat)), none⟩,
  ⟨(some 20), .call ⟨(.value (.tmp (18 : Nat))), #[(.tmp (19 : Nat)), (.const (.int .i64 (-3))), (.const (.int .i64 (-1)))], #[3, 3, 3]⟩, none⟩]
def bilevel_window_r6 : List SO := [⟨(some 21), .load 3 (.tmp (7 : Nat)), none⟩,
  ⟨(some 6), .assign (.tmp (21 : Nat)), none⟩]
def bilevel_window_c : SF := ⟨22, (.seq (.reg bilevel_window_r0)
  (.seq (.reg bilevel_window_r1)
  (.seq (.reg bilevel_window_r2)
  (.seq (.reg bilevel_window_r3)
  (.seq (.reg bilevel_window_r4)
  (.seq (.reg bilevel_window_r5)
  (.seq (.reg bilevel_window_r6)
  .ret))))))), [.tmp 6]⟩
theorem bilevel_window_s : slimF Try.prog 130 = some bilevel_window_c := by kernel_rfl
abbrev bilevel_window_f : Nat := 130
/-- printworks/bilevel.window$1 -/
def bilevel_window_1_r0 : List SO := [⟨(some 10), .move (.tmp (1 : Nat)), none⟩,
  ⟨(some 9), .assign (.tmp (10 : Nat)), none⟩]
def bilevel_window_1_r1 : List SO := [⟨(some 11), .move (.tmp (9 : Nat)), none⟩,
  ⟨(some 12), .move (.tmp (2 : Nat)), none⟩,
  ⟨(some 13), .binOp .leq 3 (.tmp (11 : Nat)) (.tmp (12 : Nat)) 3, none⟩]
def bilevel_window_1_r2 : List SO := [⟨(some 16), .load 3 (.tmp (3 : Nat)), none⟩,
  ⟨(some 17), .binOp .shl 3 (.tmp (16 : Nat)) (.const (.int .u64 1)) 111, none⟩,
  ⟨none, .store 3 (.tmp (3 : Nat)) (.tmp (17 : Nat)), none⟩]
def bilevel_window_1_r3 : List SO := [⟨(some 18), .load 91 (.tmp (4 : Nat)), none⟩,
  ⟨(some 19), .load 3 (.tmp (5 : Nat)), none⟩,
  ⟨(some 20), .move (.tmp (9 : Nat)), none⟩,
  ⟨(some 21), .binOp .add 3 (.tmp (19 : Nat)) (.tmp (20 : Nat)) 3, none⟩,
  ⟨(some 22), .move (.tmp (0 : Nat)), none⟩,
  ⟨(some 23), .call ⟨(.value (.func (46 : Nat))), #[(.tmp (18 : Nat)), (.tmp (21 : Nat)), (.tmp (22 : Nat))], #[91, 3, 3]⟩, none⟩]
def bilevel_window_1_r4 : List SO := [⟨(some 24), .load 3 (.tmp (3 : Nat)), none⟩,
  ⟨(some 25), .binOp .or 3 (.tmp (24 : Nat)) (.const (.int .i64 1)) 3, none⟩,
  ⟨none, .store 3 (.tmp (3 : Nat)) (.tmp (25 : Nat)), none⟩]
def bilevel_window_1_r5 : List SO := [⟨(some 14), .move (.tmp (9 : Nat)), none⟩,
  ⟨(some 15), .binOp .add 3 (.tmp (14 : Nat)) (.const (.int .i64 1)) 3, none⟩,
  ⟨(some 9), .assign (.tmp (15 : Nat)), none⟩]
def bilevel_window_1_c : SF := ⟨26, (.seq (.reg bilevel_window_1_r0)
  (.block 0 (.loop (.seq (.seq (.reg bilevel_window_1_r1)
  (.cond (.tmp (13 : Nat)) .skip (.exit 0)))
  (.seq (.block 1 (.seq (.reg bilevel_window_1_r2)
  (.seq (.reg bilevel_window_1_r3)
  (.cond (.tmp (23 : Nat)) (.reg bilevel_window_1_r4) .skip))))
  (.reg bilevel_window_1_r5)))))), []⟩
theorem bilevel_window_1_s : slimF Try.prog 148 = some bilevel_window_1_c := by kernel_rfl
abbrev bilevel_window_1_f : Nat := 148

end Go.Proofs.Ytjedljdfkoagbaa
namespace Go.Proofs.Ytjedljdfkoagbaa
open Go Go.Lite
set_option linter.unusedVariables false

/-- bytes.Equal -/
def bytes_Equal_r0 : List SO := [⟨(some 4), .assign (.const (.bool false)), none⟩]
def bytes_Equal_r1 : List SO := [⟨(some 5), .move (.tmp (0 : Nat)), none⟩,
  ⟨(some 6), .convert 22 9 (.tmp (5 : Nat)), none⟩,
  ⟨(some 7), .move (.tmp (1 : Nat)), none⟩,
  ⟨(some 8), .convert 22 9 (.tmp (7 : Nat)), none⟩,
  ⟨(some 9), .binOp .eql 9 (.tmp (6 : Nat)) (.tmp (8 : Nat)) 9, none⟩,
  ⟨(some 4), .assign (.tmp (9 : Nat)), none⟩]
def bytes_Equal_c : SF := ⟨10, (.seq (.reg bytes_Equal_r0)
  (.seq (.reg bytes_Equal_r1)
  .ret)), [.tmp 4]⟩
theorem bytes_Equal_s : slimF Try.prog 129 = some bytes_Equal_c := by kernel_rfl
abbrev bytes_Equal_f : Nat := 129

end Go.Proofs.Ytjedljdfkoagbaa
namespace Go.Proofs.Ytjedljdfkoagbaa
open Go Go.Lite
set_option linter.unusedVariables false

/-- printworks/rangecoder.NewEncoder -/
def rangecoder_NewEncoder_r0 : List SO := [⟨(some 2), .assign (.const (.pointer none)), none⟩,
  ⟨(some 3), .assign (.const (.int .i64 0)), none⟩]
def rangecoder_NewEncoder_r1 : List SO := [⟨(some 7), .move (.tmp (0 : Nat)), none⟩,
  ⟨(some 8), .call ⟨(.value (.func (98 : Nat))), #[(.tmp (7 : Nat))], #[3]⟩, none⟩,
  ⟨(some 6), .move (.tmp (8 : Nat)), none⟩,
  ⟨(some 9), .extract (.tmp (6 : Nat)) 0, none⟩,
  ⟨(some 10), .extract (.tmp (6 : Nat)) 1, none⟩,
  ⟨(some 4), .alloc 157, none⟩,
  ⟨none, .store 157 (.tmp (4 : Nat)) (.tmp (9 : Nat)), none⟩,
  ⟨(some 5), .assign (.tmp (10 : Nat)), none⟩]
def rangecoder_NewEncoder_r2 : List SO := [⟨(some 11), .move (.tmp (5 : Nat)), none⟩,
  ⟨(some 12), .binOp .neq 31 (.tmp (11 : Nat)) (.const (.int .i64 0)) 31, none⟩]
def rangecoder_NewEncoder_r3 : List SO := [⟨(some 13), .move (.tmp (5 : Nat)), none⟩,
  ⟨(some 2), .assign (.const (.pointer none)), none⟩,
  ⟨(some 3), .assign (.tmp (13 : Nat)), none⟩]
def rangecoder_NewEncoder_r4 : List SO := [⟨(some 14), .load 157 (.tmp (4 : Nat)), none⟩,
  ⟨(some 15), .build 161 #[(0, (.tmp (14 : Nat)))], none⟩,
  ⟨(some 16), .box 161 (.tmp (15 : Nat)), none⟩,
  ⟨(some 2), .assign (.tmp (16 : Nat)), none⟩,
  ⟨(some 3), .assign (.const (.int .i64 0)), none⟩]
def rangecoder_NewEncoder_c : SF := ⟨17, (.seq (.reg rangecoder_NewEncoder_r0)
  (.seq (.reg rangecoder_NewEncoder_r1)
  (.seq (.seq (.reg rangecoder_NewEncoder_r2)
  (.cond (.tmp (12 : Nat)) (.seq (.reg rangecoder_NewEncoder_r3)
  .ret) .skip))
  (.seq (.reg rangecoder_NewEncoder_r4)
  .ret)))), [.tmp 2, .tmp 3]⟩
theorem rangecoder_NewEncoder_s : slimF Try.prog 58 = some rangecoder_NewEncoder_c := by kernel_rfl
abbrev rangecoder_NewEncoder_f : Nat := 58
/-- (*printworks/rangecoder.Encoder).Put -/
def __rangecoder_Encoder__Put_r0 : List SO := [⟨(some 6), .assign (.const (.int .i64 0)), none⟩]
def __rangecoder_Encoder__Put_r1 : List SO := [⟨(some 9), .move (.tmp (0 : Nat)), none⟩,
  ⟨(some 10), .nilCheck (.tmp (9 : Nat)), none⟩,
  ⟨(some 11), .fieldAddr 161 (.tmp (10 : Nat)) 3, none⟩,
  ⟨(some 12), .load 4 (.tmp (11 : Nat)), none⟩]
def __rangecoder_Encoder__Put_r2 : List SO := [⟨(some 6), .assign (.const (.int .i64 9)), none⟩]
def __rangecoder_Encoder__Put_r3 : List SO := [⟨(some 13), .move (.tmp (2 : Nat)), none⟩,
  ⟨(some 14), .binOp .neq 3 (.tmp (13 : Nat)) (.const (.int .i64 0)) 3, none⟩,
  ⟨(some 15), .move (.tmp (14 : Nat)), none⟩,
  ⟨(some 16), .move (.tmp (2 : Nat)), (some (15, true))⟩,
  ⟨(some 17), .binOp .neq 3 (.tmp (16 : Nat)) (.const (.int .i64 1)) 3, (some (15, true))⟩,
  ⟨(some 18), .pick (.tmp (15 : Nat)) (.tmp (17 : Nat)) (.const (.bool false)), none⟩]
def __rangecoder_Encoder__Put_r4 : List SO := [⟨(some 6), .assign (.const (.int .i64 3)), none⟩]
def __rangecoder_Encoder__Put_r5 : List SO := [⟨(some 19), .move (.tmp (0 : Nat)), none⟩,
  ⟨(some 20), .nilCheck (.tmp (19 : Nat)), none⟩,
  ⟨(some 21), .fieldAddr 161 (.tmp (20 : Nat)) 0, none⟩,
  ⟨(some 22), .move (.tmp (1 : Nat)), none⟩,
  ⟨(some 23), .call ⟨(.value (.func (99 : Nat))), #[(.tmp (21 : Nat)), (.tmp (22 : Nat))], #[157, 3]⟩, none⟩,
  ⟨(some 7), .assign (.tmp (23 : Nat)), none⟩]
def __rangecoder_Encoder__Put_r6 : List SO := [⟨(some 24), .move (.tmp (7 : Nat)), none⟩,
  ⟨(some 25), .binOp .neq 31 (.tmp (24 : Nat)) (.const (.int .i64 0)) 31, none⟩]
def __rangecoder_Encoder__Put_r7 : List SO := [⟨(some 26), .move (.tmp (7 : Nat)), none⟩,
  ⟨(some 6), .assign (.tmp (26 : Nat)), none⟩]
def __rangecoder_Encoder__Put_r8 : List SO := [⟨(some 27), .move (.tmp (0 : Nat)), none⟩,
  ⟨(some 28), .nilCheck (.tmp (27 : Nat)), none⟩,
  ⟨(some 29), .fieldAddr 161 (.tmp (28 : Nat)) 0, none⟩,
  ⟨(some 30), .move (.tmp (1 : Nat)), none⟩,
  ⟨(some 31), .call ⟨(.value (.func (100 : Nat))), #[(.tmp (29 : Nat)), (.tmp (30 : Nat))], #[157, 3]⟩, none⟩,
  ⟨(some 8), .assign (.tmp (31 : Nat)), none⟩]
def __rangecoder_Encoder__Put_r9 : List SO := [⟨(some 32), .move (.tmp (2 : Nat)), none⟩,
  ⟨(some 33), .binOp .eql 3 (.tmp (32 : Nat)) (.const (.int .i64 0)) 3, none⟩]
def __rangecoder_Encoder__Put_r10 : List SO := [⟨(some 34), .move (.tmp (0 : Nat)), none⟩,
  ⟨(some 35), .move (.tmp (8 : Nat)), none⟩,
  ⟨(some 36), .nilCheck (.tmp (34 : Nat)), none⟩,
  ⟨(some 37), .fieldAddr 161 (.tmp (36 : Nat)) 0, none⟩,
  ⟨(some 38), .fieldAddr 157 (.tmp (37 : Nat)) 1, none⟩,
  ⟨none, .store 155 (.tmp (38 : Nat)) (.tmp (35 : Nat)), none⟩]
def __rangecoder_Encoder__Put_r11 : List SO := [⟨(some 39), .move (.tmp (0 : Nat)), none⟩,
  ⟨(some 40), .nilCheck (.tmp (39 : Nat)), none⟩,
  ⟨(some 41), .fieldAddr 161 (.tmp (40 : Nat)) 1, none⟩,
  ⟨(some 42), .load 155 (.tmp (41 : Nat)), none⟩,
  ⟨(some 43), .move (.tmp (8 : Nat)), none⟩,
  ⟨(some 44), .binOp .add 155 (.tmp (42 : Nat)) (.tmp (43 : Nat)) 155, none⟩,
  ⟨(some 45), .nilCheck (.tmp (39 : Nat)), none⟩,
  ⟨(some 46), .fieldAddr 161 (.tmp (45 : Nat)) 1, none⟩,
  ⟨none, .store 155 (.tmp (46 : Nat)) (.tmp (44 : Nat)), none⟩]
def __rangecoder_Encoder__Put_r12 : List SO := [⟨(some 47), .move (.tmp (0 : Nat)), none⟩,
  ⟨(some 48), .nilCheck (.tmp (47 : Nat)), none⟩,
  ⟨(some 49), .fieldAddr 161 (.tmp (48 : Nat)) 1, none⟩,
  ⟨(some 50), .load 155 (.tmp (49 : Nat)), none⟩,
  ⟨(some 51), .move (.tmp (8 : Nat)), none⟩,
  ⟨(some 52), .binOp .lss 155 (.tmp (50 : Nat)) (.tmp (51 : Nat)) 155, none⟩]
def __rangecoder_Encoder__Put_r13 : List SO := [⟨(some 53), .move (.tmp (0 : Nat)), none⟩,
  ⟨(some 54), .call ⟨(.value (.func (101 : Nat))), #[(.tmp (53 : Nat))], #[104]⟩, none⟩]
def __rangecoder_Encoder__Put_r14 : List SO := [⟨(some 55), .move (.tmp (0 : Nat)), none⟩,
  ⟨(some 56), .nilCheck (.tmp (55 : Nat)), none⟩,
  ⟨(some 57), .fieldAddr 161 (.tmp (56 : Nat)) 0, none⟩,
  ⟨(some 58), .fieldAddr 157 (.tmp (57 : Nat)) 1, none⟩,
  ⟨(some 59), .load 155 (.tmp (58 : Nat)), none⟩,
  ⟨(some 60), .move (.tmp (8 : Nat)), none⟩,
  ⟨(some 61), .binOp .sub 155 (.tmp (59 : Nat)) (.tmp (60 : Nat)) 155, none⟩,
  ⟨(some 62), .nilCheck (.tmp (55 : Nat)), none⟩,
  ⟨(some 63), .fieldAddr 161 (.tmp (62 : Nat)) 0, none⟩,
  ⟨(some 64), .fieldAddr 157 (.tmp (63 : Nat)) 1, none⟩,
  ⟨none, .store 155 (.tmp (64 : Nat)) (.tmp (61 : Nat)), none⟩]
def __rangecoder_Encoder__Put_r15 : List SO := [⟨(some 65), .move (.tmp (0 : Nat)), none⟩,
  ⟨(some 66), .nilCheck (.tmp (65 : Nat)), none⟩,
  ⟨(some 67), .fieldAddr 161 (.tmp (66 : Nat)) 0, none⟩,
  ⟨(some 68), .fieldAddr 157 (.tmp (67 : Nat)) 1, none⟩,
  ⟨(some 69), .load 155 (.tmp (68 : Nat)), none⟩,
  ⟨(some 70), .binOp .lss 155 (.tmp (69 : Nat)) (.const (.int .u32 16777216)) 155, none⟩]
def __rangecoder_Encoder__Put_r16 : List SO := [⟨(some 71), .move (.tmp (0 : Nat)), none⟩,
  ⟨(some 72), .move (.tmp (0 : Nat)), none⟩,
  ⟨(some 73), .nilCheck (.tmp (72 : Nat)), none⟩,
  ⟨(some 74), .fieldAddr 161 (.tmp (73 : Nat)) 2, none⟩,
  ⟨(some 75), .load 22 (.tmp (74 : Nat)), none⟩,
  ⟨(some 76), .move (.tmp (0 : Nat)), none⟩,
  ⟨(some 77), .nilCheck (.tmp (76 : Nat)), none⟩,
  ⟨(some 78), .fieldAddr 161 (.tmp (77 : Nat)) 1, none⟩,
  ⟨(some 79), .load 155 (.tmp (78 : Nat)), none⟩,
  ⟨(some 80), .binOp .shr 155 (.tmp (79 : Nat)) (.const (.int .u64 24)) 111, none⟩,
  ⟨(some 81), .convert 155 5 (.tmp (80 : Nat)), none⟩,
  ⟨(some 82), .buildSlice 22 1 #[(0, (.tmp (81 : Nat)))], none⟩,
  ⟨(some 83), .call ⟨(.builtin .append), #[(.tmp (75 : Nat)), (.tmp (82 : Nat))], #[22, 22]⟩, none⟩,
  ⟨(some 84), .nilCheck (.tmp (71 : Nat)), none⟩,
  ⟨(some 85), .fieldAddr 161 (.tmp (84 : Nat)) 2, none⟩,
  ⟨none, .store 22 (.tmp (85 : Nat)) (.tmp (83 : Nat)), none⟩]
def __rangecoder_Encoder__Put_a16 : List (List Nat) := [[], [], [1], [2], [3], [], [5], [6], [7], [8], [9], [10], [4, 11], [0, 0, 1, 2, 3, 4, 5, 6, 7, 8, 9, 10, 11, 12], [13, 0, 1, 2, 3, 4, 5, 6, 7, 8, 9, 10, 11, 12], [14, 12, 12, 0, 1, 2, 3, 4, 5, 6, 7, 8, 9, 10, 11, 12]]
def __rangecoder_Encoder__Put_r17 : List SO := [⟨(some 86), .move (.tmp (0 : Nat)), none⟩,
  ⟨(some 87), .nilCheck (.tmp (86 : Nat)), none⟩,
  ⟨(some 88), .fieldAddr 161 (.tmp (87 : Nat)) 1, none⟩,
  ⟨(some 89), .load 155 (.tmp (88 : Nat)), none⟩,
  ⟨(some 90), .binOp .shl 155 (.tmp (89 : Nat)) (.const (.int .u64 8)) 111, none⟩,
  ⟨(some 91), .nilCheck (.tmp (86 : Nat)), none⟩,
  ⟨(some 92), .fieldAddr 161 (.tmp (91 : Nat)) 1, none⟩,
  ⟨none, .store 155 (.tmp (92 : Nat)) (.tmp (90 : Nat)), none⟩]
def __rangecoder_Encoder__Put_r18 : List SO := [⟨(some 93), .move (.tmp (0 : Nat)), none⟩,
  ⟨(some 94), .nilCheck (.tmp (93 : Nat)), none⟩,
  ⟨(some 95), .fieldAddr 161 (.tmp (94 : Nat)) 0, none⟩,
  ⟨(some 96), .fieldAddr 157 (.tmp (95 : Nat)) 1, none⟩,
  ⟨(some 97), .load 155 (.tmp (96 : Nat)), none⟩,
  ⟨(some 98), .binOp .shl 155 (.tmp (97 : Nat)) (.const (.int .u64 8)) 111, none⟩,
  ⟨(some 99), .nilCheck (.tmp (93 : Nat)), none⟩,
  ⟨(some 100), .fieldAddr 161 (.tmp (99 : Nat)) 0, none⟩,
  ⟨(some 101), .fieldAddr 157 (.tmp (100 : Nat)) 1, none⟩,
  ⟨none, .store 155 (.tmp (101 : Nat)) (.tmp (98 : Nat)), none⟩]
def __rangecoder_Encoder__Put_r19 : List SO := [⟨(some 102), .move (.tmp (0 : Nat)), none⟩,
  ⟨(some 103), .nilCheck (.tmp (102 : Nat)), none⟩,
  ⟨(some 104), .fieldAddr 161 (.tmp (103 : Nat)) 0, none⟩,
  ⟨(some 105), .move (.tmp (1 : Nat)), none⟩,
  ⟨(some 106), .move (.tmp (2 : Nat)), none⟩,
  ⟨(some 107), .call ⟨(.value (.func (102 : Nat))), #[(.tmp (104 : Nat)), (.tmp (105 : Nat)), (.tmp (106 : Nat))], #[157, 3, 3]⟩, none⟩]
def __rangecoder_Encoder__Put_r20 : List SO := [⟨(some 6), .assign (.const (.int .i64 0)), none⟩]
def __rangecoder_Encoder__Put_c : SF := ⟨108, (.seq (.reg __rangecoder_Encoder__Put_r0)
  (.seq (.seq (.reg __rangecoder_Encoder__Put_r1)
  (.cond (.tmp (12 : Nat)) (.seq (.reg __rangecoder_Encoder__Put_r2)
  .ret) .skip))
  (.seq (.seq (.reg __rangecoder_Encoder__Put_r3)
  (.cond (.tmp (18 : Nat)) (.seq (.reg __rangecoder_Encoder__Put_r4)
  .ret) .skip))
  (.seq (.seq (.reg __rangecoder_Encoder__Put_r5)
  (.seq (.reg __rangecoder_Encoder__Put_r6)
  (.cond (.tmp (25 : Nat)) (.seq (.reg __rangecoder_Encoder__Put_r7)
  .ret) .skip)))
  (.seq (.reg __rangecoder_Encoder__Put_r8)
  (.seq (.seq (.reg __rangecoder_Encoder__Put_r9)
  (.cond (.tmp (33 : Nat)) (.reg __rangecoder_Encoder__Put_r10) (.seq (.seq (.reg __rangecoder_Encoder__Put_r11)
  (.seq (.reg __rangecoder_Encoder__Put_r12)
  (.cond (.tmp (52 : Nat)) (.reg __rangecoder_Encoder__Put_r13) .skip)))
  (.reg __rangecoder_Encoder__Put_r14))))
  (.seq (.block 0 (.loop (.seq (.seq (.reg __rangecoder_Encoder__Put_r15)
  (.cond (.tmp (70 : Nat)) .skip (.exit 0)))
  (.block 1 (.seq (.regd __rangecoder_Encoder__Put_r16 __rangecoder_Encoder__Put_a16)
  (.seq (.reg __rangecoder_Encoder__Put_r17)
  (.reg __rangecoder_Encoder__Put_r18)))))))
  (.seq (.reg __rangecoder_Encoder__Put_r19)
  (.seq (.reg __rangecoder_Encoder__Put_r20)
  .ret))))))))), [.tmp 6]⟩
theorem __rangecoder_Encoder__Put_s : slimF Try.prog 59 = some __rangecoder_Encoder__Put_c := by kernel_rfl
abbrev __rangecoder_Encoder__Put_f : Nat := 59
/-- (*printworks/rangecoder.Encoder).Close -/
def __rangecoder_Encoder__Close_r0 : List SO := [⟨(some 2), .assign (.const (.slice none 0 0)), none⟩,
  ⟨(some 3), .assign (.const (.int .i64 0)), none⟩]
def __rangecoder_Encoder__Close_r1 : List SO := [⟨(some 5), .move (.tmp (0 : Nat)), none⟩,
  ⟨(some 6), .nilCheck (.tmp (5 : Nat)), none⟩,
  ⟨(some 7), .fieldAddr 161 (.tmp (6 : Nat)) 3, none⟩,
  ⟨(some 8), .load 4 (.tmp (7 : Nat)), none⟩]
def __rangecoder_Encoder__Close_r2 : List SO := [⟨(some 2), .assign (.const (.slice none 0 0)), none⟩,
  ⟨(some 3), .assign (.const (.int .i64 9)), none⟩]
def __rangecoder_Encoder__Close_r3 : List SO := [⟨(some 9), .move (.tmp (0 : Nat)), none⟩,
  ⟨(some 10), .nilCheck (.tmp (9 : Nat)), none⟩,
  ⟨(some 11), .fieldAddr 161 (.tmp (10 : Nat)) 3, none⟩,
  ⟨none, .store 4 (.tmp (11 : Nat)) (.const (.bool true)), none⟩]
def __rangecoder_Encoder__Close_r4 : List SO := [⟨(some 12), .move (.tmp (0 : Nat)), none⟩,
  ⟨(some 13), .nilCheck (.tmp (12 : Nat)), none⟩,
  ⟨(some 14), .fieldAddr 161 (.tmp (13 : Nat)) 2, none⟩,
  ⟨(some 15), .load 22 (.tmp (14 : Nat)), none⟩,
  ⟨(some 16), .call ⟨(.builtin .append), #[(.const (.slice none 0 0)), (.tmp (15 : Nat))], #[22, 22]⟩, none⟩,
  ⟨(some 4), .assign (.tmp (16 : Nat)), none⟩]
def __rangecoder_Encoder__Close_r5 : List SO := [⟨(some 17), .move (.tmp (4 : Nat)), none⟩,
  ⟨(some 18), .move (.tmp (0 : Nat)), none⟩,
  ⟨(some 19), .nilCheck (.tmp (18 : Nat)), none⟩,
  ⟨(some 20), .fieldAddr 161 (.tmp (19 : Nat)) 1, none⟩,
  ⟨(some 21), .load 155 (.tmp (20 : Nat)), none⟩,
  ⟨(some 22), .binOp .shr 155 (.tmp (21 : Nat)) (.const (.int .u64 24)) 111, none⟩,
  ⟨(some 23), .convert 155 5 (.tmp (22 : Nat)), none⟩,
  ⟨(some 24), .move (.tmp (0 : Nat)), none⟩,
  ⟨(some 25), .nilCheck (.tmp (24 : Nat)), none⟩,
  ⟨(some 26), .fieldAddr 161 (.tmp (25 : Nat)) 1, none⟩,
  ⟨(some 27), .load 155 (.tmp (26 : Nat)), none⟩,
  ⟨(some 28), .binOp .shr 155 (.tmp (27 : Nat)) (.const (.int .u64 16)) 111, none⟩,
  ⟨(some 29), .convert 155 5 (.tmp (28 : Nat)), none⟩,
  ⟨(some 30), .move (.tmp (0 : Nat)), none⟩,
  ⟨(some 31), .nilCheck (.tmp (30 : Nat)), none⟩,
  ⟨(some 32), .fieldAddr 161 (.tmp (31 : Nat)) 1, none⟩,
  ⟨(some 33), .load 155 (.tmp (32 : Nat)), none⟩,
  ⟨(some 34), .binOp .shr 155 (.tmp (33 : Nat)) (.const (.int .u64 8)) 111, none⟩,
  ⟨(some 35), .convert 155 5 (.tmp (34 : Nat)), none⟩,
  ⟨(some 36), .move (.tmp (0 : Nat)), none⟩,
  ⟨(some 37), .nilCheck (.tmp (36 : Nat)), none⟩,
  ⟨(some 38), .fieldAddr 161 (.tmp (37 : Nat)) 1, none⟩,
  ⟨(some 39), .load 155 (.tmp (38 : Nat)), none⟩,
  ⟨(some 40), .convert 155 5 (.tmp (39 : Nat)), none⟩,
  ⟨(some 41), .buildSlice 22 4 #[(0, (.tmp (23 : Nat))), (1, (.tmp (29 : Nat))), (2, (.tmp (35 : Nat))), (3, (.tmp (40 : Nat)))], none⟩,
  ⟨(some 42), .call ⟨(.builtin .append), #[(.tmp (17 : Nat)), (.tmp (41 : Nat))], #[22, 22]⟩, none⟩,
  ⟨(some 4), .assign (.tmp (42 : Nat)), none⟩]
def __rangecoder_Encoder__Close_a5 : List (List Nat) := [[], [], [1], [2], [3], [4], [5], [], [7], [8], [9], [10], [11], [], [13], [14], [15], [16], [17], [], [19], [20], [21], [22], [6, 12, 18, 23], [0, 24], [25, 25, 0, 1, 2, 3, 4, 5, 6, 7, 8, 9, 10, 11, 12, 13, 14, 15, 16, 17, 18, 19, 20, 21, 22, 23, 24, 25]]
def __rangecoder_Encoder__Close_r6 : List SO := [⟨(some 43), .move (.tmp (4 : Nat)), none⟩,
  ⟨(some 44), .call ⟨(.builtin .len), #[(.tmp (43 : Nat))], #[22]⟩, none⟩,
  ⟨(some 45), .binOp .gtr 3 (.tmp (44 : Nat)) (.const (.int .i64 0)) 3, none⟩,
  ⟨(some 46), .move (.tmp (45 : Nat)), none⟩,
  ⟨(some 47), .move (.tmp (4 : Nat)), (some (46, true))⟩,
  ⟨(some 48), .move (.tmp (4 : Nat)), (some (46, true))⟩,
  ⟨(some 49), .call ⟨(.builtin .len), #[(.tmp (48 : Nat))], #[22]⟩, (some (46, true))⟩,
  ⟨(some 50), .binOp .sub 3 (.tmp (49 : Nat)) (.const (.int .i64 1)) 3, (some (46, true))⟩,
  ⟨(some 51), .indexAddr 22 (.tmp (47 : Nat)) (.tmp (50 : Nat)), (some (46, true))⟩,
  ⟨(some 52), .load 5 (.tmp (51 : Nat)), (some (46, true))⟩,
  ⟨(some 53), .binOp .eql 5 (.tmp (52 : Nat)) (.const (.int .u8 0)) 5, (some (46, true))⟩,
  ⟨(some 54), .pick (.tmp (46 : Nat)) (.tmp (53 : Nat)) (.const (.bool false)), none⟩]
def __rangecoder_Encoder__Close_r7 : List SO := [⟨(some 55), .move (.tmp (4 : Nat)), none⟩,
  ⟨(some 56), .move (.tmp (4 : Nat)), none⟩,
  ⟨(some 57), .call ⟨(.builtin .len), #[(.tmp (56 : Nat))], #[22]⟩, none⟩,
  ⟨(some 58), .binOp .sub 3 (.tmp (57 : Nat)) (.const (.int .i64 1)) 3, none⟩,
  ⟨(some 59), .slice 22 (.tmp (55 : Nat)) none (some (.tmp (58 : Nat))) none, none⟩,
  ⟨(some 4), .assign (.tmp (59 : Nat)), none⟩]
def __rangecoder_Encoder__Close_r8 : List SO := [⟨(some 60), .move (.tmp (4 : Nat)), none⟩,
  ⟨(some 61), .call ⟨(.builtin .append), #[(.const (.slice none 0 0)), (.tmp (60 : Nat))], #[22, 22]⟩, none⟩,
  ⟨(some 2), .assign (.tmp (61 : Nat)), none⟩,
  ⟨(some 3), .assign (.const (.int .i64 0)), none⟩]
def __rangecoder_Encoder__Close_c : SF := ⟨62, (.seq (.reg __rangecoder_Encoder__Close_r0)
  (.seq (.seq (.reg __rangecoder_Encoder__Close_r1)
  (.cond (.tmp (8 : Nat)) (.seq (.reg __rangecoder_Encoder__Close_r2)
  .ret) .skip))
  (.seq (.reg __rangecoder_Encoder__Close_r3)
  (.seq (.reg __rangecoder_Encoder__Close_r4)
  (.seq (.regd __rangecoder_Encoder__Close_r5 __rangecoder_Encoder__Close_a5)
  (.seq (.block 0 (.loop (.seq (.seq (.reg __rangecoder_Encoder__Close_r6)
  (.cond (.tmp (54 : Nat)) .skip (.exit 0)))
  (.block 1 (.reg __rangecoder_Encoder__Close_r7)))))
  (.seq (.reg __rangecoder_Encoder__Close_r8)
  .ret))))))), [.tmp 2, .tmp 3]⟩
theorem __rangecoder_Encoder__Close_s : slimF Try.prog 60 = some __rangecoder_Encoder__Close_c := by kernel_rfl
abbrev __rangecoder_Encoder__Close_f : Nat := 60
/-- printworks/rangecoder.NewDecoder -/
def rangecoder_NewDecoder_r0 : List SO := [⟨(some 4), .assign (.const (.pointer none)), none⟩,
  ⟨(some 5), .assign (.const (.int .i64 0)), none⟩]
def rangecoder_NewDecoder_r1 : List SO := [⟨(some 9), .move (.tmp (0 : Nat)), none⟩,
  ⟨(some 10), .call ⟨(.builtin .len), #[(.tmp (9 : Nat))], #[22]⟩, none⟩,
  ⟨(some 11), .binOp .gtr 3 (.tmp (10 : Nat)) (.const (.int .i64 2097152)) 3, none⟩]
def rangecoder_NewDecoder_r2 : List SO := [⟨(some 4), .assign (.const (.pointer none)), none⟩,
  ⟨(some 5), .assign (.const (.int .i64 2)), none⟩]
def rangecoder_NewDecoder_r3 : List SO := [⟨(some 13), .move (.tmp (1 : Nat)), none⟩,
  ⟨(some 14), .call ⟨(.value (.func (98 : Nat))), #[(.tmp (13 : Nat))], #[3]⟩, none⟩,
  ⟨(some 12), .move (.tmp (14 : Nat)), none⟩,
  ⟨(some 15), .extract (.tmp (12 : Nat)) 0, none⟩,
  ⟨(some 16), .extract (.tmp (12 : Nat)) 1, none⟩,
  ⟨(some 6), .alloc 157, none⟩,
  ⟨none, .store 157 (.tmp (6 : Nat)) (.tmp (15 : Nat)), none⟩,
  ⟨(some 7), .assign (.tmp (16 : Nat)), none⟩]
def rangecoder_NewDecoder_r4 : List SO := [⟨(some 17), .move (.tmp (7 : Nat)), none⟩,
  ⟨(some 18), .binOp .neq 31 (.tmp (17 : Nat)) (.const (.int .i64 0)) 31, none⟩]
def rangecoder_NewDecoder_r5 : List SO := [⟨(some 19), .move (.tmp (7 : Nat)), none⟩,
  ⟨(some 4), .assign (.const (.pointer none)), none⟩,
  ⟨(some 5), .assign (.tmp (19 : Nat)), none⟩]
def rangecoder_NewDecoder_r6 : List SO := [⟨(some 20), .load 157 (.tmp (6 : Nat)), none⟩,
  ⟨(some 21), .move (.tmp (0 : Nat)), none⟩,
  ⟨(some 22), .call ⟨(.builtin .append), #[(.const (.slice none 0 0)), (.tmp (21 : Nat))], #[22, 22]⟩, none⟩,
  ⟨(some 23), .build 199 #[(0, (.tmp (20 : Nat))), (2, (.tmp (22 : Nat)))], none⟩,
  ⟨(some 24), .box 199 (.tmp (23 : Nat)), none⟩,
  ⟨(some 8), .assign (.tmp (24 : Nat)), none⟩]
def rangecoder_NewDecoder_a6 : List (List Nat) := [[], [], [1], [0, 2], [3], [4, 2, 0, 1, 2, 3, 4]]
def rangecoder_NewDecoder_r7 : List SO := [⟨(some 25), .move (.const (.int .i64 0)), none⟩]
def rangecoder_NewDecoder_r8 : List SO := [⟨(some 26), .binOp .lss 3 (.tmp (25 : Nat)) (.const (.int .i64 4)) 3, none⟩]
def rangecoder_NewDecoder_r9 : List SO := [⟨(some 27), .move (.tmp (8 : Nat)), none⟩,
  ⟨(some 28), .move (.tmp (8 : Nat)), none⟩,
  ⟨(some 29), .nilCheck (.tmp (28 : Nat)), none⟩,
  ⟨(some 30), .fieldAddr 199 (.tmp (29 : Nat)) 1, none⟩,
  ⟨(some 31), .load 155 (.tmp (30 : Nat)), none⟩,
  ⟨(some 32), .binOp .shl 155 (.tmp (31 : Nat)) (.const (.int .u64 8)) 111, none⟩,
  ⟨(some 33), .move (.tmp (8 : Nat)), none⟩,
  ⟨(some 34), .call ⟨(.value (.func (128 : Nat))), #[(.tmp (33 : Nat))], #[149]⟩, none⟩,
  ⟨(some 35), .binOp .or 155 (.tmp (32 : Nat)) (.tmp (34 : Nat)) 155, none⟩,
  ⟨(some 36), .nilCheck (.tmp (27 : Nat)), none⟩,
  ⟨(some 37), .fieldAddr 199 (.tmp (36 : Nat)) 1, none⟩,
  ⟨none, .store 155 (.tmp (37 : Nat)) (.tmp (35 : Nat)), none⟩]
def rangecoder_NewDecoder_a9 : List (List Nat) := [[], [], [1], [2], [3], [4], [], [6], [5, 7], [0, 0, 1, 2, 3, 4, 5, 6, 7, 8], [9, 0, 1, 2, 3, 4, 5, 6, 7, 8], [10, 8, 7, 0, 1, 2, 3, 4, 5, 6, 7, 8]]
def rangecoder_NewDecoder_r10 : List SO := [⟨(some 38), .binOp .add 3 (.tmp (25 : Nat)) (.const (.int .i64 1)) 3, none⟩,
  ⟨(some 25), .move (.tmp (38 : Nat)), none⟩]
def rangecoder_NewDecoder_r11 : List SO := [⟨(some 39), .move (.tmp (8 : Nat)), none⟩,
  ⟨(some 4), .assign (.tmp (39 : Nat)), none⟩,
  ⟨(some 5), .assign (.const (.int .i64 0)), none⟩]
def rangecoder_NewDecoder_c : SF := ⟨40, (.seq (.reg rangecoder_NewDecoder_r0)
  (.seq (.seq (.reg rangecoder_NewDecoder_r1)
  (.cond (.tmp (11 : Nat)) (.seq (.reg rangecoder_NewDecoder_r2)
  .ret) .skip))
  (.seq (.reg rangecoder_NewDecoder_r3)
  (.seq (.seq (.reg rangecoder_NewDecoder_r4)
  (.cond (.tmp (18 : Nat)) (.seq (.reg rangecoder_NewDecoder_r5)
  .ret) .skip))
  (.seq (.regd rangecoder_NewDecoder_r6 rangecoder_NewDecoder_a6)
  (.seq (.seq (.reg rangecoder_NewDecoder_r7)
  (.block 0 (.loop (.seq (.reg rangecoder_NewDecoder_r8)
  (.seq (.cond (.tmp (26 : Nat)) .skip (.exit 0))
  (.seq (.block 1 (.regd rangecoder_NewDecoder_r9 rangecoder_NewDecoder_a9))
  (.reg rangecoder_NewDecoder_r10)))))))
  (.seq (.reg rangecoder_NewDecoder_r11)
  .ret))))))), [.tmp 4, .tmp 5]⟩
theorem rangecoder_NewDecoder_s : slimF Try.prog 93 = some rangecoder_NewDecoder_c := by kernel_rfl
abbrev rangecoder_NewDecoder_f : Nat := 93
/-- printworks/rangecoder.begin -/
def rangecoder_begin_r0 : List SO := [⟨(some 2), .alloc 157, none⟩,
  ⟨(some 3), .assign (.const (.int .i64 0)), none⟩]
def rangecoder_begin_r1 : List SO := [⟨(some 4), .move (.tmp (0 : Nat)), none⟩,
  ⟨(some 5), .binOp .lss 3 (.tmp (4 : Nat)) (.const (.int .i64 1)) 3, none⟩,
  ⟨(some 6), .move (.tmp (5 : Nat)), none⟩,
  ⟨(some 7), .move (.tmp (0 : Nat)), (some (6, false))⟩,
  ⟨(some 8), .binOp .gtr 3 (.tmp (7 : Nat)) (.const (.int .i64 4096)) 3, (some (6, false))⟩,
  ⟨(some 9), .pick (.tmp (6 : Nat)) (.const (.bool true)) (.tmp (8 : Nat)), none⟩]
def rangecoder_begin_r2 : List SO := [⟨(some 10), .build 157 #[], none⟩,
  ⟨none, .store 157 (.tmp (2 : Nat)) (.tmp (10 : Nat)), none⟩,
  ⟨(some 3), .assign (.const (.int .i64 3)), none⟩]
def rangecoder_begin_r3 : List SO := [⟨(some 11), .move (.tmp (0 : Nat)), none⟩,
  ⟨(some 12), .makeSlice 154 (.tmp (11 : Nat)) (.tmp (11 : Nat)), none⟩,
  ⟨(some 13), .build 157 #[(0, (.tmp (12 : Nat))), (1, (.const (.int .u32 4294967295)))], none⟩,
  ⟨none, .store 157 (.tmp (2 : Nat)) (.tmp (13 : Nat)), none⟩,
  ⟨(some 3), .assign (.const (.int .i64 0)), none⟩]
def rangecoder_begin_c : SF := ⟨14, (.seq (.reg rangecoder_begin_r0)
  (.seq (.seq (.reg rangecoder_begin_r1)
  (.cond (.tmp (9 : Nat)) (.seq (.reg rangecoder_begin_r2)
  .ret) .skip))
  (.seq (.reg rangecoder_begin_r3)
  .ret))), [.cell 2 157, .tmp 3]⟩
theorem rangecoder_begin_s : slimF Try.prog 98 = some rangecoder_begin_c := by kernel_rfl
abbrev rangecoder_begin_f : Nat := 98
/-- (*printworks/rangecoder.model).check -/
def __rangecoder_model__check_r0 : List SO := [⟨(some 4), .assign (.const (.int .i64 0)), none⟩]
def __rangecoder_model__check_r1 : List SO := [⟨(some 5), .move (.tmp (1 : Nat)), none⟩,
  ⟨(some 6), .binOp .lss 3 (.tmp (5 : Nat)) (.const (.int .i64 0)) 3, none⟩,
  ⟨(some 7), .move (.tmp (6 : Nat)), none⟩,
  ⟨(some 8), .move (.tmp (1 : Nat)), (some (7, false))⟩,
  ⟨(some 9), .move (.tmp (0 : Nat)), (some (7, false))⟩,
  ⟨(some 10), .nilCheck (.tmp (9 : Nat)), (some (7, false))⟩,
  ⟨(some 11), .fieldAddr 157 (.tmp (10 : Nat)) 0, (some (7, false))⟩,
  ⟨(some 12), .load 154 (.tmp (11 : Nat)), (some (7, false))⟩,
  ⟨(some 13), .call ⟨(.builtin .len), #[(.tmp (12 : Nat))], #[154]⟩, (some (7, false))⟩,
  ⟨(some 14), .binOp .geq 3 (.tmp (8 : Nat)) (.tmp (13 : Nat)) 3, (some (7, false))⟩,
  ⟨(some 15), .pick (.tmp (7 : Nat)) (.const (.bool true)) (.tmp (14 : Nat)), none⟩]
def __rangecoder_model__check_r2 : List SO := [⟨(some 4), .assign (.const (.int .i64 3)), none⟩]
def __rangecoder_model__check_r3 : List SO := [⟨(some 16), .move (.tmp (0 : Nat)), none⟩,
  ⟨(some 17), .nilCheck (.tmp (16 : Nat)), none⟩,
  ⟨(some 18), .fieldAddr 157 (.tmp (17 : Nat)) 2, none⟩,
  ⟨(some 19), .load 3 (.tmp (18 : Nat)), none⟩,
  ⟨(some 20), .binOp .geq 3 (.tmp (19 : Nat)) (.const (.int .i64 1048576)) 3, none⟩]
def __rangecoder_model__check_r4 : List SO := [⟨(some 4), .assign (.const (.int .i64 16)), none⟩]
def __rangecoder_model__check_r5 : List SO := [⟨(some 4), .assign (.const (.int .i64 0)), none⟩]
def __rangecoder_model__check_c : SF := ⟨21, (.seq (.reg __rangecoder_model__check_r0)
  (.seq (.seq (.reg __rangecoder_model__check_r1)
  (.cond (.tmp (15 : Nat)) (.seq (.reg __rangecoder_model__check_r2)
  .ret) .skip))
  (.seq (.seq (.reg __rangecoder_model__check_r3)
  (.cond (.tmp (20 : Nat)) (.seq (.reg __rangecoder_model__check_r4)
  .ret) .skip))
  (.seq (.reg __rangecoder_model__check_r5)
  .ret)))), [.tmp 4]⟩
theorem __rangecoder_model__check_s : slimF Try.prog 99 = some __rangecoder_model__check_c := by kernel_rfl
abbrev __rangecoder_model__check_f : Nat := 99
/-- (*printworks/rangecoder.model).split -/
def __rangecoder_model__split_r0 : List SO := [⟨(some 4), .assign (.const (.int .u32 0)), none⟩]
def __rangecoder_model__split_r1 : List SO := [⟨(some 6), .move (.tmp (0 : Nat)), none⟩,
  ⟨(some 7), .nilCheck (.tmp (6 : Nat)), none⟩,
  ⟨(some 8), .fieldAddr 157 (.tmp (7 : Nat)) 0, none⟩,
  ⟨(some 9), .load 154 (.tmp (8 : Nat)), none⟩,
  ⟨(some 10), .move (.tmp (1 : Nat)), none⟩,
  ⟨(some 11), .indexAddr 154 (.tmp (9 : Nat)) (.tmp (10 : Nat)), none⟩,
  ⟨(some 12), .load 205 (.tmp (11 : Nat)), none⟩,
  ⟨(some 5), .alloc 205, none⟩,
  ⟨none, .store 205 (.tmp (5 : Nat)) (.tmp (12 : Nat)), none⟩]
def __rangecoder_model__split_r2 : List SO := [⟨(some 13), .move (.tmp (0 : Nat)), none⟩,
  ⟨(some 14), .nilCheck (.tmp (13 : Nat)), none⟩,
  ⟨(some 15), .fieldAddr 157 (.tmp (14 : Nat)) 1, none⟩,
  ⟨(some 16), .load 155 (.tmp (15 : Nat)), none⟩,
  ⟨(some 17), .fieldAddr 205 (.tmp (5 : Nat)) 1, none⟩,
  ⟨(some 18), .load 155 (.tmp (17 : Nat)), none⟩,
  ⟨(some 19), .binOp .add 155 (.tmp (18 : Nat)) (.const (.int .u32 2)) 155, none⟩,
  ⟨(some 20), .binOp .quo 155 (.tmp (16 : Nat)) (.tmp (19 : Nat)) 155, none⟩,
  ⟨(some 21), .fieldAddr 205 (.tmp (5 : Nat)) 0, none⟩,
  ⟨(some 22), .load 155 (.tmp (21 : Nat)), none⟩,
  ⟨(some 23), .binOp .add 155 (.tmp (22 : Nat)) (.const (.int .u32 1)) 155, none⟩,
  ⟨(some 24), .binOp .mul 155 (.tmp (20 : Nat)) (.tmp (23 : Nat)) 155, none⟩,
  ⟨(some 4), .assign (.tmp (24 : Nat)), none⟩]
def __rangecoder_model__split_a2 : List (List Nat) := [[], [0], [1], [2], [], [4], [5], [3, 6], [], [8], [9], [7, 10], [11, 0, 1, 2, 3, 4, 5, 6, 7, 8, 9, 10, 11]]
def __rangecoder_model__split_c : SF := ⟨25, (.seq (.reg __rangecoder_model__split_r0)
  (.seq (.reg __rangecoder_model__split_r1)
  (.seq (.regd __rangecoder_model__split_r2 __rangecoder_model__split_a2)
  .ret))), [.tmp 4]⟩
theorem __rangecoder_model__split_s : slimF Try.prog 100 = some __rangecoder_model__split_c := by kernel_rfl
abbrev __rangecoder_model__split_f : Nat := 100
/-- (*printworks/rangecoder.Encoder).carry -/
def __rangecoder_Encoder__carry_r0 : List SO := [⟨(some 3), .move (.tmp (0 : Nat)), none⟩,
  ⟨(some 4), .nilCheck (.tmp (3 : Nat)), none⟩,
  ⟨(some 5), .fieldAddr 161 (.tmp (4 : Nat)) 2, none⟩,
  ⟨(some 6), .load 22 (.tmp (5 : Nat)), none⟩,
  ⟨(some 7), .call ⟨(.builtin .len), #[(.tmp (6 : Nat))], #[22]⟩, none⟩,
  ⟨(some 8), .binOp .sub 3 (.tmp (7 : Nat)) (.const (.int .i64 1)) 3, none⟩,
  ⟨(some 2), .assign (.tmp (8 : Nat)), none⟩]
def __rangecoder_Encoder__carry_r1 : List SO := [⟨(some 9), .move (.tmp (2 : Nat)), none⟩,
  ⟨(some 10), .binOp .geq 3 (.tmp (9 : Nat)) (.const (.int .i64 0)) 3, none⟩]
def __rangecoder_Encoder__carry_r2 : List SO := [⟨(some 11), .move (.tmp (0 : Nat)), none⟩,
  ⟨(some 12), .nilCheck (.tmp (11 : Nat)), none⟩,
  ⟨(some 13), .fieldAddr 161 (.tmp (12 : Nat)) 2, none⟩,
  ⟨(some 14), .load 22 (.tmp (13 : Nat)), none⟩,
  ⟨(some 15), .move (.tmp (2 : Nat)), none⟩,
  ⟨(some 16), .indexAddr 22 (.tmp (14 : Nat)) (.tmp (15 : Nat)), none⟩,
  ⟨(some 17), .load 5 (.tmp (16 : Nat)), none⟩,
  ⟨(some 18), .binOp .add 5 (.tmp (17 : Nat)) (.const (.int .u8 1)) 5, none⟩,
  ⟨(some 19), .indexAddr 22 (.tmp (14 : Nat)) (.tmp (15 : Nat)), none⟩,
  ⟨none, .store 5 (.tmp (19 : Nat)) (.tmp (18 : Nat)), none⟩]
def __rangecoder_Encoder__carry_r3 : List SO := [⟨(some 20), .move (.tmp (0 : Nat)), none⟩,
  ⟨(some 21), .nilCheck (.tmp (20 : Nat)), none⟩,
  ⟨(some 22), .fieldAddr 161 (.tmp (21 : Nat)) 2, none⟩,
  ⟨(some 23), .load 22 (.tmp (22 : Nat)), none⟩,
  ⟨(some 24), .move (.tmp (2 : Nat)), none⟩,
  ⟨(some 25), .indexAddr 22 (.tmp (23 : Nat)) (.tmp (24 : Nat)), none⟩,
  ⟨(some 26), .load 5 (.tmp (25 : Nat)), none⟩,
  ⟨(some 27), .binOp .neq 5 (.tmp (26 : Nat)) (.const (.int .u8 0)) 5, none⟩]
def __rangecoder_Encoder__carry_r4 : List SO := [⟨(some 28), .move (.tmp (2 : Nat)), none⟩,
  ⟨(some 29), .binOp .sub 3 (.tmp (28 : Nat)) (.const (.int .i64 1)) 3, none⟩,
  ⟨(some 2), .assign (.tmp (29 : Nat)), none⟩]
def __rangecoder_Encoder__carry_c : SF := ⟨30, (.seq (.reg __rangecoder_Encoder__carry_r0)
  (.block 0 (.loop (.seq (.seq (.reg __rangecoder_Encoder__carry_r1)
  (.cond (.tmp (10 : Nat)) .skip (.exit 0)))
  (.block 1 (.seq (.seq (.reg __rangecoder_Encoder__carry_r2)
  (.seq (.reg __rangecoder_Encoder__carry_r3)
  (.cond (.tmp (27 : Nat)) .ret .skip)))
  (.reg __rangecoder_Encoder__carry_r4))))))), []⟩
theorem __rangecoder_Encoder__carry_s : slimF Try.prog 101 = some __rangecoder_Encoder__carry_c := by kernel_rfl
abbrev __rangecoder_Encoder__carry_f : Nat := 101
/-- (*printworks/rangecoder.model).learn -/
def __rangecoder_model__learn_r0 : List SO := [⟨(some 8), .move (.tmp (0 : Nat)), none⟩,
  ⟨(some 9), .nilCheck (.tmp (8 : Nat)), none⟩,
  ⟨(some 10), .fieldAddr 157 (.tmp (9 : Nat)) 0, none⟩,
  ⟨(some 11), .load 154 (.tmp (10 : Nat)), none⟩,
  ⟨(some 12), .move (.tmp (1 : Nat)), none⟩,
  ⟨(some 13), .indexAddr 154 (.tmp (11 : Nat)) (.tmp (12 : Nat)), none⟩,
  ⟨(some 6), .assign (.tmp (13 : Nat)), none⟩]
def __rangecoder_model__learn_r1 : List SO := [⟨(some 14), .move (.tmp (6 : Nat)), none⟩,
  ⟨(some 15), .nilCheck (.tmp (14 : Nat)), none⟩,
  ⟨(some 16), .fieldAddr 205 (.tmp (15 : Nat)) 0, none⟩,
  ⟨(some 17), .load 155 (.tmp (16 : Nat)), none⟩,
  ⟨(some 18), .move (.tmp (2 : Nat)), none⟩,
  ⟨(some 19), .binOp .sub 3 (.const (.int .i64 1)) (.tmp (18 : Nat)) 3, none⟩,
  ⟨(some 20), .convert 3 155 (.tmp (19 : Nat)), none⟩,
  ⟨(some 21), .binOp .add 155 (.tmp (17 : Nat)) (.tmp (20 : Nat)) 155, none⟩,
  ⟨(some 22), .nilCheck (.tmp (14 : Nat)), none⟩,
  ⟨(some 23), .fieldAddr 205 (.tmp (22 : Nat)) 0, none⟩,
  ⟨none, .store 155 (.tmp (23 : Nat)) (.tmp (21 : Nat)), none⟩]
def __rangecoder_model__learn_r2 : List SO := [⟨(some 24), .move (.tmp (6 : Nat)), none⟩,
  ⟨(some 25), .nilCheck (.tmp (24 : Nat)), none⟩,
  ⟨(some 26), .fieldAddr 205 (.tmp (25 : Nat)) 1, none⟩,
  ⟨(some 27), .load 155 (.tmp (26 : Nat)), none⟩,
  ⟨(some 28), .binOp .add 155 (.tmp (27 : Nat)) (.const (.int .u32 1)) 155, none⟩,
  ⟨(some 29), .nilCheck (.tmp (24 : Nat)), none⟩,
  ⟨(some 30), .fieldAddr 205 (.tmp (29 : Nat)) 1, none⟩,
  ⟨none, .store 155 (.tmp (30 : Nat)) (.tmp (28 : Nat)), none⟩]
def __rangecoder_model__learn_r3 : List SO := [⟨(some 31), .move (.tmp (6 : Nat)), none⟩,
  ⟨(some 32), .nilCheck (.tmp (31 : Nat)), none⟩,
  ⟨(some 33), .fieldAddr 205 (.tmp (32 : Nat)) 1, none⟩,
  ⟨(some 34), .load 155 (.tmp (33 : Nat)), none⟩,
  ⟨(some 35), .binOp .eql 155 (.tmp (34 : Nat)) (.const (.int .u32 254)) 155, none⟩]
def __rangecoder_model__learn_r4 : List SO := [⟨(some 36), .move (.tmp (6 : Nat)), none⟩,
  ⟨(some 37), .nilCheck (.tmp (36 : Nat)), none⟩,
  ⟨(some 38), .fieldAddr 205 (.tmp (37 : Nat)) 1, none⟩,
  ⟨(some 39), .load 155 (.tmp (38 : Nat)), none⟩,
  ⟨(some 40), .move (.tmp (6 : Nat)), none⟩,
  ⟨(some 41), .nilCheck (.tmp (40 : Nat)), none⟩,
  ⟨(some 42), .fieldAddr 205 (.tmp (41 : Nat)) 0, none⟩,
  ⟨(some 43), .load 155 (.tmp (42 : Nat)), none⟩,
  ⟨(some 44), .binOp .sub 155 (.tmp (39 : Nat)) (.tmp (43 : Nat)) 155, none⟩,
  ⟨(some 45), .binOp .quo 155 (.tmp (44 : Nat)) (.const (.int .u32 2)) 155, none⟩,
  ⟨(some 7), .assign (.tmp (45 : Nat)), none⟩]
def __rangecoder_model__learn_a4 : List (List Nat) := [[], [0], [1], [2], [], [4], [5], [6], [3, 7], [8], [9, 0, 1, 2, 3, 4, 5, 6, 7, 8, 9]]
def __rangecoder_model__learn_r5 : List SO := [⟨(some 46), .move (.tmp (6 : Nat)), none⟩,
  ⟨(some 47), .nilCheck (.tmp (46 : Nat)), none⟩,
  ⟨(some 48), .fieldAddr 205 (.tmp (47 : Nat)) 0, none⟩,
  ⟨(some 49), .load 155 (.tmp (48 : Nat)), none⟩,
  ⟨(some 50), .binOp .quo 155 (.tmp (49 : Nat)) (.const (.int .u32 2)) 155, none⟩,
  ⟨(some 51), .nilCheck (.tmp (46 : Nat)), none⟩,
  ⟨(some 52), .fieldAddr 205 (.tmp (51 : Nat)) 0, none⟩,
  ⟨none, .store 155 (.tmp (52 : Nat)) (.tmp (50 : Nat)), none⟩]
def __rangecoder_model__learn_r6 : List SO := [⟨(some 53), .move (.tmp (6 : Nat)), none⟩,
  ⟨(some 54), .move (.tmp (6 : Nat)), none⟩,
  ⟨(some 55), .nilCheck (.tmp (54 : Nat)), none⟩,
  ⟨(some 56), .fieldAddr 205 (.tmp (55 : Nat)) 0, none⟩,
  ⟨(some 57), .load 155 (.tmp (56 : Nat)), none⟩,
  ⟨(some 58), .move (.tmp (7 : Nat)), none⟩,
  ⟨(some 59), .binOp .add 155 (.tmp (57 : Nat)) (.tmp (58 : Nat)) 155, none⟩,
  ⟨(some 60), .nilCheck (.tmp (53 : Nat)), none⟩,
  ⟨(some 61), .fieldAddr 205 (.tmp (60 : Nat)) 1, none⟩,
  ⟨none, .store 155 (.tmp (61 : Nat)) (.tmp (59 : Nat)), none⟩]
def __rangecoder_model__learn_r7 : List SO := [⟨(some 62), .move (.tmp (0 : Nat)), none⟩,
  ⟨(some 63), .nilCheck (.tmp (62 : Nat)), none⟩,
  ⟨(some 64), .fieldAddr 157 (.tmp (63 : Nat)) 2, none⟩,
  ⟨(some 65), .load 3 (.tmp (64 : Nat)), none⟩,
  ⟨(some 66), .binOp .add 3 (.tmp (65 : Nat)) (.const (.int .i64 1)) 3, none⟩,
  ⟨(some 67), .nilCheck (.tmp (62 : Nat)), none⟩,
  ⟨(some 68), .fieldAddr 157 (.tmp (67 : Nat)) 2, none⟩,
  ⟨none, .store 3 (.tmp (68 : Nat)) (.tmp (66 : Nat)), none⟩]
def __rangecoder_model__learn_c : SF := ⟨69, (.seq (.reg __rangecoder_model__learn_r0)
  (.seq (.reg __rangecoder_model__learn_r1)
  (.seq (.seq (.reg __rangecoder_model__learn_r2)
  (.seq (.reg __rangecoder_model__learn_r3)
  (.cond (.tmp (35 : Nat)) (.seq (.regd __rangecoder_model__learn_r4 __rangecoder_model__learn_a4)
  (.seq (.reg __rangecoder_model__learn_r5)
  (.reg __rangecoder_model__learn_r6))) .skip)))
  (.reg __rangecoder_model__learn_r7)))), []⟩
theorem __rangecoder_model__learn_s : slimF Try.prog 102 = some __rangecoder_model__learn_c := by kernel_rfl
abbrev __rangecoder_model__learn_f : Nat := 102
/-- (*printworks/rangecoder.Decoder).next -/
def __rangecoder_Decoder__next_r0 : List SO := [⟨(some 2), .assign (.const (.int .u32 0)), none⟩]
def __rangecoder_Decoder__next_r1 : List SO := [⟨(some 4), .move (.tmp (0 : Nat)), none⟩,
  ⟨(some 5), .nilCheck (.tmp (4 : Nat)), none⟩,
  ⟨(some 6), .fieldAddr 199 (.tmp (5 : Nat)) 2, none⟩,
  ⟨(some 7), .load 22 (.tmp (6 : Nat)), none⟩,
  ⟨(some 8), .call ⟨(.builtin .len), #[(.tmp (7 : Nat))], #[22]⟩, none⟩,
  ⟨(some 9), .binOp .eql 3 (.tmp (8 : Nat)) (.const (.int .i64 0)) 3, none⟩]
def __rangecoder_Decoder__next_r2 : List SO := [⟨(some 2), .assign (.const (.int .u32 0)), none⟩]
def __rangecoder_Decoder__next_r3 : List SO := [⟨(some 10), .move (.tmp (0 : Nat)), none⟩,
  ⟨(some 11), .nilCheck (.tmp (10 : Nat)), none⟩,
  ⟨(some 12), .fieldAddr 199 (.tmp (11 : Nat)) 2, none⟩,
  ⟨(some 13), .load 22 (.tmp (12 : Nat)), none⟩,
  ⟨(some 14), .indexAddr 22 (.tmp (13 : Nat)) (.const (.int .i64 0)), none⟩,
  ⟨(some 15), .load 5 (.tmp (14 : Nat)), none⟩,
  ⟨(some 3), .assign (.tmp (15 : Nat)), none⟩]
def __rangecoder_Decoder__next_r4 : List SO := [⟨(some 16), .move (.tmp (0 : Nat)), none⟩,
  ⟨(some 17), .move (.tmp (0 : Nat)), none⟩,
  ⟨(some 18), .nilCheck (.tmp (17 : Nat)), none⟩,
  ⟨(some 19), .fieldAddr 199 (.tmp (18 : Nat)) 2, none⟩,
  ⟨(some 20), .load 22 (.tmp (19 : Nat)), none⟩,
  ⟨(some 21), .slice 22 (.tmp (20 : Nat)) (some (.const (.int .i64 1))) none none, none⟩,
  ⟨(some 22), .nilCheck (.tmp (16 : Nat)), none⟩,
  ⟨(some 23), .fieldAddr 199 (.tmp (22 : Nat)) 2, none⟩,
  ⟨none, .store 22 (.tmp (23 : Nat)) (.tmp (21 : Nat)), none⟩]
def __rangecoder_Decoder__next_r5 : List SO := [⟨(some 24), .move (.tmp (3 : Nat)), none⟩,
  ⟨(some 25), .convert 5 155 (.tmp (24 : Nat)), none⟩,
  ⟨(some 2), .assign (.tmp (25 : Nat)), none⟩]
def __rangecoder_Decoder__next_c : SF := ⟨26, (.seq (.reg __rangecoder_Decoder__next_r0)
  (.seq (.seq (.reg __rangecoder_Decoder__next_r1)
  (.cond (.tmp (9 : Nat)) (.seq (.reg __rangecoder_Decoder__next_r2)
  .ret) .skip))
  (.seq (.reg __rangecoder_Decoder__next_r3)
  (.seq (.reg __rangecoder_Decoder__next_r4)
  (.seq (.reg __rangecoder_Decoder__next_r5)
  .ret))))), [.tmp 2]⟩
theorem __rangecoder_Decoder__next_s : slimF Try.prog 128 = some __rangecoder_Decoder__next_c := by kernel_rfl
abbrev __rangecoder_Decoder__next_f : Nat := 128
/-- (*printworks/rangecoder.Decoder).Get -/
def __rangecoder_Decoder__Get_r0 : List SO := [⟨(some 4), .assign (.const (.int .i64 0)), none⟩,
  ⟨(some 5), .assign (.const (.int .i64 0)), none⟩]
def __rangecoder_Decoder__Get_r1 : List SO := [⟨(some 9), .move (.tmp (0 : Nat)), none⟩,
  ⟨(some 10), .nilCheck (.tmp (9 : Nat)), none⟩,
  ⟨(some 11), .fieldAddr 199 (.tmp (10 : Nat)) 0, none⟩,
  ⟨(some 12), .move (.tmp (1 : Nat)), none⟩,
  ⟨(some 13), .call ⟨(.value (.func (99 : Nat))), #[(.tmp (11 : Nat)), (.tmp (12 : Nat))], #[157, 3]⟩, none⟩,
  ⟨(some 6), .assign (.tmp (13 : Nat)), none⟩]
def __rangecoder_Decoder__Get_r2 : List SO := [⟨(some 14), .move (.tmp (6 : Nat)), none⟩,
  ⟨(some 15), .binOp .neq 31 (.tmp (14 : Nat)) (.const (.int .i64 0)) 31, none⟩]
def __rangecoder_Decoder__Get_r3 : List SO := [⟨(some 16), .move (.tmp (6 : Nat)), none⟩,
  ⟨(some 4), .assign (.const (.int .i64 0)), none⟩,
  ⟨(some 5), .assign (.tmp (16 : Nat)), none⟩]
def __rangecoder_Decoder__Get_r4 : List SO := [⟨(some 17), .move (.tmp (0 : Nat)), none⟩,
  ⟨(some 18), .nilCheck (.tmp (17 : Nat)), none⟩,
  ⟨(some 19), .fieldAddr 199 (.tmp (18 : Nat)) 0, none⟩,
  ⟨(some 20), .move (.tmp (1 : Nat)), none⟩,
  ⟨(some 21), .call ⟨(.value (.func (100 : Nat))), #[(.tmp (19 : Nat)), (.tmp (20 : Nat))], #[157, 3]⟩, none⟩,
  ⟨(some 7), .assign (.tmp (21 : Nat)), none⟩,
  ⟨(some 8), .assign (.const (.int .i64 0)), none⟩]
def __rangecoder_Decoder__Get_r5 : List SO := [⟨(some 22), .move (.tmp (0 : Nat)), none⟩,
  ⟨(some 23), .nilCheck (.tmp (22 : Nat)), none⟩,
  ⟨(some 24), .fieldAddr 199 (.tmp (23 : Nat)) 1, none⟩,
  ⟨(some 25), .load 155 (.tmp (24 : Nat)), none⟩,
  ⟨(some 26), .move (.tmp (7 : Nat)), none⟩,
  ⟨(some 27), .binOp .lss 155 (.tmp (25 : Nat)) (.tmp (26 : Nat)) 155, none⟩]
def __rangecoder_Decoder__Get_r6 : List SO := [⟨(some 28), .move (.tmp (0 : Nat)), none⟩,
  ⟨(some 29), .move (.tmp (7 : Nat)), none⟩,
  ⟨(some 30), .nilCheck (.tmp (28 : Nat)), none⟩,
  ⟨(some 31), .fieldAddr 199 (.tmp (30 : Nat)) 0, none⟩,
  ⟨(some 32), .fieldAddr 157 (.tmp (31 : Nat)) 1, none⟩,
  ⟨none, .store 155 (.tmp (32 : Nat)) (.tmp (29 : Nat)), none⟩]
def __rangecoder_Decoder__Get_r7 : List SO := [⟨(some 33), .move (.tmp (0 : Nat)), none⟩,
  ⟨(some 34), .nilCheck (.tmp (33 : Nat)), none⟩,
  ⟨(some 35), .fieldAddr 199 (.tmp (34 : Nat)) 1, none⟩,
  ⟨(some 36), .load 155 (.tmp (35 : Nat)), none⟩,
  ⟨(some 37), .move (.tmp (7 : Nat)), none⟩,
  ⟨(some 38), .binOp .sub 155 (.tmp (36 : Nat)) (.tmp (37 : Nat)) 155, none⟩,
  ⟨(some 39), .nilCheck (.tmp (33 : Nat)), none⟩,
  ⟨(some 40), .fieldAddr 199 (.tmp (39 : Nat)) 1, none⟩,
  ⟨none, .store 155 (.tmp (40 : Nat)) (.tmp (38 : Nat)), none⟩]
def __rangecoder_Decoder__Get_r8 : List SO := [⟨(some 41), .move (.tmp (0 : Nat)), none⟩,
  ⟨(some 42), .nilCheck (.tmp (41 : Nat)), none⟩,
  ⟨(some 43), .fieldAddr 199 (.tmp (42 : Nat)) 0, none⟩,
  ⟨(some 44), .fieldAddr 157 (.tmp (43 : Nat)) 1, none⟩,
  ⟨(some 45), .load 155 (.tmp (44 : Nat)), none⟩,
  ⟨(some 46), .move (.tmp (7 : Nat)), none⟩,
  ⟨(some 47), .binOp .sub 155 (.tmp (45 : Nat)) (.tmp (46 : Nat)) 155, none⟩,
  ⟨(some 48), .nilCheck (.tmp (41 : Nat)), none⟩,
  ⟨(some 49), .fieldAddr 199 (.tmp (48 : Nat)) 0, none⟩,
  ⟨(some 50), .fieldAddr 157 (.tmp (49 : Nat)) 1, none⟩,
  ⟨none, .store 155 (.tmp (50 : Nat)) (.tmp (47 : Nat)), none⟩]
def __rangecoder_Decoder__Get_r9 : List SO := [⟨(some 8), .assign (.const (.int .i64 1)), none⟩]
def __rangecoder_Decoder__Get_r10 : List SO := [⟨(some 51), .move (.tmp (0 : Nat)), none⟩,
  ⟨(some 52), .nilCheck (.tmp (51 : Nat)), none⟩,
  ⟨(some 53), .fieldAddr 199 (.tmp (52 : Nat)) 0, none⟩,
  ⟨(some 54), .fieldAddr 157 (.tmp (53 : Nat)) 1, none⟩,
  ⟨(some 55), .load 155 (.tmp (54 : Nat)), none⟩,
  ⟨(some 56), .binOp .lss 155 (.tmp (55 : Nat)) (.const (.int .u32 16777216)) 155, none⟩]
def __rangecoder_Decoder__Get_r11 : List SO := [⟨(some 57), .move (.tmp (0 : Nat)), none⟩,
  ⟨(some 58), .move (.tmp (0 : Nat)), none⟩,
  ⟨(some 59), .nilCheck (.tmp (58 : Nat)), none⟩,
  ⟨(some 60), .fieldAddr 199 (.tmp (59 : Nat)) 1, none⟩,
  ⟨(some 61), .load 155 (.tmp (60 : Nat)), none⟩,
  ⟨(some 62), .binOp .shl 155 (.tmp (61 : Nat)) (.const (.int .u64 8)) 111, none⟩,
  ⟨(some 63), .move (.tmp (0 : Nat)), none⟩,
  ⟨(some 64), .call ⟨(.value (.func (128 : Nat))), #[(.tmp (63 : Nat))], #[149]⟩, none⟩,
  ⟨(some 65), .binOp .or 155 (.tmp (62 : Nat)) (.tmp (64 : Nat)) 155, none⟩,
  ⟨(some 66), .nilCheck (.tmp (57 : Nat)), none⟩,
  ⟨(some 67), .fieldAddr 199 (.tmp (66 : Nat)) 1, none⟩,
  ⟨none, .store 155 (.tmp (67 : Nat)) (.tmp (65 : Nat)), none⟩]
def __rangecoder_Decoder__Get_a11 : List (List Nat) := [[], [], [1], [2], [3], [4], [], [6], [5, 7], [0, 0, 1, 2, 3, 4, 5, 6, 7, 8], [9, 0, 1, 2, 3, 4, 5, 6, 7, 8], [10, 8, 7, 0, 1, 2, 3, 4, 5, 6, 7, 8]]
def __rangecoder_Decoder__Get_r12 : List SO := [⟨(some 68), .move (.tmp (0 : Nat)), none⟩,
  ⟨(some 69), .nilCheck (.tmp (68 : Nat)), none⟩,
  ⟨(some 70), .fieldAddr 199 (.tmp (69 : Nat)) 0, none⟩,
  ⟨(some 71), .fieldAddr 157 (.tmp (70 : Nat)) 1, none⟩,
  ⟨(some 72), .load 155 (.tmp (71 : Nat)), none⟩,
  ⟨(some 73), .binOp .shl 155 (.tmp (72 : Nat)) (.const (.int .u64 8)) 111, none⟩,
  ⟨(some 74), .nilCheck (.tmp (68 : Nat)), none⟩,
  ⟨(some 75), .fieldAddr 199 (.tmp (74 : Nat)) 0, none⟩,
  ⟨(some 76), .fieldAddr 157 (.tmp (75 : Nat)) 1, none⟩,
  ⟨none, .store 155 (.tmp (76 : Nat)) (.tmp (73 : Nat)), none⟩]
def __rangecoder_Decoder__Get_r13 : List SO := [⟨(some 77), .move (.tmp (0 : Nat)), none⟩,
  ⟨(some 78), .nilCheck (.tmp (77 : Nat)), none⟩,
  ⟨(some 79), .fieldAddr 199 (.tmp (78 : Nat)) 0, none⟩,
  ⟨(some 80), .move (.tmp (1 : Nat)), none⟩,
  ⟨(some 81), .move (.tmp (8 : Nat)), none⟩,
  ⟨(some 82), .call ⟨(.value (.func (102 : Nat))), #[(.tmp (79 : Nat)), (.tmp (80 : Nat)), (.tmp (81 : Nat))], #[157, 3, 3]⟩, none⟩]
def __rangecoder_Decoder__Get_r14 : List SO := [⟨(some 83), .move (.tmp (8 : Nat)), none⟩,
  ⟨(some 4), .assign (.tmp (83 : Nat)), none⟩,
  ⟨(some 5), .assign (.const (.int .i64 0)), none⟩]
def __rangecoder_Decoder__Get_c : SF := ⟨84, (.seq (.reg __rangecoder_Decoder__Get_r0)
  (.seq (.seq (.reg __rangecoder_Decoder__Get_r1)
  (.seq (.reg __rangecoder_Decoder__Get_r2)
  (.cond (.tmp (15 : Nat)) (.seq (.reg __rangecoder_Decoder__Get_r3)
  .ret) .skip)))
  (.seq (.reg __rangecoder_Decoder__Get_r4)
  (.seq (.seq (.reg __rangecoder_Decoder__Get_r5)
  (.cond (.tmp (27 : Nat)) (.reg __rangecoder_Decoder__Get_r6) (.seq (.reg __rangecoder_Decoder__Get_r7)
  (.seq (.reg __rangecoder_Decoder__Get_r8)
  (.reg __rangecoder_Decoder__Get_r9)))))
  (.seq (.block 0 (.loop (.seq (.seq (.reg __rangecoder_Decoder__Get_r10)
  (.cond (.tmp (56 : Nat)) .skip (.exit 0)))
  (.block 1 (.seq (.regd __rangecoder_Decoder__Get_r11 __rangecoder_Decoder__Get_a11)
  (.reg __rangecoder_Decoder__Get_r12))))))
  (.seq (.reg __rangecoder_Decoder__Get_r13)
  (.seq (.reg __rangecoder_Decoder__Get_r14)
  .ret))))))), [.tmp 4, .tmp 5]⟩
theorem __rangecoder_Decoder__Get_s : slimF Try.prog 96 = some __rangecoder_Decoder__Get_c := by kernel_rfl
abbrev __rangecoder_Decoder__Get_f : Nat := 96

end Go.Proofs.Ytjedljdfkoagbaa
namespace Go.Proofs.Ytjedljdfkoagbaa
open Go Go.Lite
set_option linter.unusedVariables false

/-- printworks/profile.Put16 -/
def profile_Put16_r0 : List SO := [⟨(some 4), .assign (.const (.slice none 0 0)), none⟩]
def profile_Put16_r1 : List SO := [⟨(some 5), .move (.tmp (0 : Nat)), none⟩,
  ⟨(some 6), .move (.tmp (1 : Nat)), none⟩,
  ⟨(some 7), .binOp .shr 3 (.tmp (6 : Nat)) (.const (.int .u64 8)) 111, none⟩,
  ⟨(some 8), .convert 3 5 (.tmp (7 : Nat)), none⟩,
  ⟨(some 9), .move (.tmp (1 : Nat)), none⟩,
  ⟨(some 10), .convert 3 5 (.tmp (9 : Nat)), none⟩,
  ⟨(some 11), .buildSlice 22 2 #[(0, (.tmp (8 : Nat))), (1, (.tmp (10 : Nat)))], none⟩,
  ⟨(some 12), .call ⟨(.builtin .append), #[(.tmp (5 : Nat)), (.tmp (11 : Nat))], #[22, 22]⟩, none⟩,
  ⟨(some 4), .assign (.tmp (12 : Nat)), none⟩]
def profile_Put16_c : SF := ⟨13, (.seq (.reg profile_Put16_r0)
  (.seq (.reg profile_Put16_r1)
  .ret)), [.tmp 4]⟩
theorem profile_Put16_s : slimF Try.prog 61 = some profile_Put16_c := by kernel_rfl
abbrev profile_Put16_f : Nat := 61
/-- printworks/profile.Get16 -/
def profile_Get16_r0 : List SO := [⟨(some 2), .assign (.const (.int .i64 0)), none⟩]
def profile_Get16_r1 : List SO := [⟨(some 3), .move (.tmp (0 : Nat)), none⟩,
  ⟨(some 4), .indexAddr 22 (.tmp (3 : Nat)) (.const (.int .i64 0)), none⟩,
  ⟨(some 5), .load 5 (.tmp (4 : Nat)), none⟩,
  ⟨(some 6), .convert 5 3 (.tmp (5 : Nat)), none⟩,
  ⟨(some 7), .binOp .shl 3 (.tmp (6 : Nat)) (.const (.int .u64 8)) 111, none⟩,
  ⟨(some 8), .move (.tmp (0 : Nat)), none⟩,
  ⟨(some 9), .indexAddr 22 (.tmp (8 : Nat)) (.const (.int .i64 1)), none⟩,
  ⟨(some 10), .load 5 (.tmp (9 : Nat)), none⟩,
  ⟨(some 11), .convert 5 3 (.tmp (10 : Nat)), none⟩,
  ⟨(some 12), .binOp .or 3 (.tmp (7 : Nat)) (.tmp (11 : Nat)) 3, none⟩,
  ⟨(some 2), .assign (.tmp (12 : Nat)), none⟩]
def profile_Get16_a1 : List (List Nat) := [[], [0], [1], [2], [3], [], [5], [6], [7], [4, 8], [9, 0, 1, 2, 3, 4, 5, 6, 7, 8, 9]]
def profile_Get16_c : SF := ⟨13, (.seq (.reg profile_Get16_r0)
  (.seq (.regd profile_Get16_r1 profile_Get16_a1)
  .ret)), [.tmp 2]⟩
theorem profile_Get16_s : slimF Try.prog 103 = some profile_Get16_c := by kernel_rfl
abbrev profile_Get16_f : Nat := 103
end Go.Proofs.Ytjedljdfkoagbaa
namespace Go.Proofs.Ytjedljdfkoagbaa
open Go Go.Lite
set_option linter.unusedVariables false

/-- printworks/printworkskeep2.bilevelWorks -/
def K2_bilevelWorks_r0 : List SO := [⟨(some 0), .assign (.const (.bool false)), none⟩]
def K2_bilevelWorks_r1 : List SO := [⟨(some 8), .buildSlice 22 1 #[(0, (.const (.int .u8 0)))], none⟩,
  ⟨(some 9), .build 24 #[(0, (.const (.int .i64 8))), (1, (.const (.int .i64 1))), (2, (.tmp (8 : Nat)))], none⟩,
  ⟨(some 10), .call ⟨(.value (.func (24 : Nat))), #[(.tmp (9 : Nat)), (.const (.int .i64 1))], #[24, 3]⟩, none⟩,
  ⟨(some 7), .move (.tmp (10 : Nat)), none⟩,
  ⟨(some 11), .extract (.tmp (7 : Nat)) 0, none⟩,
  ⟨(some 12), .extract (.tmp (7 : Nat)) 1, none⟩,
  ⟨(some 1), .assign (.tmp (11 : Nat)), none⟩,
  ⟨(some 2), .assign (.tmp (12 : Nat)), none⟩]
def K2_bilevelWorks_r2 : List SO := [⟨(some 14), .call ⟨(.value (.func (54 : Nat))), #[(.const (.slice none 0 0)), (.const (.int .i64 8)), (.const (.int .i64 1))], #[22, 3, 3]⟩, none⟩,
  ⟨(some 13), .move (.tmp (14 : Nat)), none⟩,
  ⟨(some 15), .extract (.tmp (13 : Nat)) 0, none⟩,
  ⟨(some 16), .extract (.tmp (13 : Nat)) 1, none⟩,
  ⟨(some 3), .alloc 24, none⟩,
  ⟨none, .store 24 (.tmp (3 : Nat)) (.tmp (15 : Nat)), none⟩,
  ⟨(some 4), .assign (.tmp (16 : Nat)), none⟩]
def K2_bilevelWorks_r3 : List SO := [⟨(some 18), .move (.tmp (1 : Nat)), none⟩,
  ⟨(some 19), .call ⟨(.value (.func (27 : Nat))), #[(.tmp (18 : Nat))], #[22]⟩, none⟩,
  ⟨(some 17), .move (.tmp (19 : Nat)), none⟩,
  ⟨(some 20), .extract (.tmp (17 : Nat)) 0, none⟩,
  ⟨(some 21), .extract (.tmp (17 : Nat)) 1, none⟩,
  ⟨(some 5), .assign (.tmp (20 : Nat)), none⟩,
  ⟨(some 6), .assign (.tmp (21 : Nat)), none⟩]
def K2_bilevelWorks_r4 : List SO := [⟨(some 22), .move (.tmp (2 : Nat)), none⟩,
  ⟨(some 23), .binOp .eql 31 (.tmp (22 : Nat)) (.const (.int .i64 0)) 31, none⟩,
  ⟨(some 24), .move (.tmp (23 : Nat)), none⟩,
  ⟨(some 25), .move (.tmp (1 : Nat)), (some (24, true))⟩,
  ⟨(some 26), .buildSlice 22 12 #[(0, (.const (.int .u8 0))), (1, (.const (.int .u8 8))), (2, (.const (.int .u8 0))), (3, (.const (.int .u8 1))), (4, (.const (.int .u8 1))), (5, (.const (.int .u8 0))), (6, (.const (.int .u8 0))), (7, (.const (.int .u8 4))), (8, (.const (.int .u8 127))), (9, (.const (.int .u8 255))), (10, (.const (.int .u8 255))), (11, (.const (.int .u8 255)))], (some (24, true))⟩,
  ⟨(some 27), .call ⟨(.value (.func (14 : Nat))), #[(.tmp (25 : Nat)), (.tmp (26 : Nat))], #[22, 22]⟩, (some (24, true))⟩,
  ⟨(some 28), .pick (.tmp (24 : Nat)) (.tmp (27 : Nat)) (.const (.bool false)), none⟩,
  ⟨(some 29), .move (.tmp (28 : Nat)), none⟩,
  ⟨(some 30), .move (.tmp (4 : Nat)), (some (29, true))⟩,
  ⟨(some 31), .binOp .eql 31 (.tmp (30 : Nat)) (.const (.int .i64 0)) 31, (some (29, true))⟩,
  ⟨(some 32), .pick (.tmp (29 : Nat)) (.tmp (31 : Nat)) (.const (.bool false)), none⟩,
  ⟨(some 33), .move (.tmp (32 : Nat)), none⟩,
  ⟨(some 34), .load 24 (.tmp (3 : Nat)), (some (33, true))⟩,
  ⟨(some 35), .buildSlice 22 1 #[(0, (.const (.int .u8 0)))], (some (33, true))⟩,
  ⟨(some 36), .build 24 #[(0, (.const (.int .i64 8))), (1, (.const (.int .i64 1))), (2, (.tmp (35 : Nat)))], (some (33, true))⟩,
  ⟨(some 37), .call ⟨(.value (.func (28 : Nat))), #[(.tmp (34 : Nat)), (.tmp (36 : Nat))], #[24, 24]⟩, (some (33, true))⟩,
  ⟨(some 38), .pick (.tmp (33 : Nat)) (.tmp (37 : Nat)) (.const (.bool false)), none⟩,
  ⟨(some 39), .move (.tmp (38 : Nat)), none⟩,
  ⟨(some 40), .move (.tmp (6 : Nat)), (some (39, true))⟩,
  ⟨(some 41), .binOp .eql 31 (.tmp (40 : Nat)) (.const (.int .i64 0)) 31, (some (39, true))⟩,
  ⟨(some 42), .pick (.tmp (39 : Nat)) (.tmp (41 : Nat)) (.const (.bool false)), none⟩,
  ⟨(some 43), .move (.tmp (42 : Nat)), none⟩,
  ⟨(some 44), .move (.tmp (5 : Nat)), (some (43, true))⟩,
  ⟨(some 45), .binOp .eql 3 (.tmp (44 : Nat)) (.const (.int .i64 1)) 3, (some (43, true))⟩,
  ⟨(some 46), .pick (.tmp (43 : Nat)) (.tmp (45 : Nat)) (.const (.bool false)), none⟩,
  ⟨(some 0), .assign (.tmp (46 : Nat)), none⟩]
def K2_bilevelWorks_c : SF := ⟨47, (.seq (.reg K2_bilevelWorks_r0)
  (.seq (.reg K2_bilevelWorks_r1)
  (.seq (.reg K2_bilevelWorks_r2)
  (.seq (.reg K2_bilevelWorks_r3)
  (.seq (.reg K2_bilevelWorks_r4)
  .ret))))), [.tmp 0]⟩
theorem K2_bilevelWorks_s : slimF Try.prog 19 = some K2_bilevelWorks_c := by kernel_rfl
abbrev K2_bilevelWorks_f : Nat := 19
end Go.Proofs.Ytjedljdfkoagbaa
namespace Go.Proofs.Ytjedljdfkoagbaa
open Go Go.Lite
set_option linter.unusedVariables false

/-- printworks/printworkskeep2.BilevelDamage -/
def K2_BilevelDamage_r0 : List SO := [⟨(some 5), .box 24 (.tmp (0 : Nat)), none⟩,
  ⟨(some 10), .assign (.const (.bool false)), none⟩]
def K2_BilevelDamage_r1 : List SO := [⟨(some 20), .call ⟨(.value (.func (19 : Nat))), #[], #[]⟩, none⟩,
  ⟨(some 21), .unOp .not 4 (.tmp (20 : Nat)), none⟩]
def K2_BilevelDamage_r2 : List SO := [⟨(some 10), .assign (.const (.bool false)), none⟩]
def K2_BilevelDamage_r3 : List SO := [⟨(some 22), .fieldAddr 24 (.tmp (5 : Nat)) 0, none⟩,
  ⟨(some 23), .load 3 (.tmp (22 : Nat)), none⟩,
  ⟨(some 24), .binOp .gtr 3 (.tmp (23 : Nat)) (.const (.int .i64 64)) 3, none⟩,
  ⟨(some 25), .move (.tmp (24 : Nat)), none⟩,
  ⟨(some 26), .fieldAddr 24 (.tmp (5 : Nat)) 1, (some (25, false))⟩,
  ⟨(some 27), .load 3 (.tmp (26 : Nat)), (some (25, false))⟩,
  ⟨(some 28), .binOp .gtr 3 (.tmp (27 : Nat)) (.const (.int .i64 40)) 3, (some (25, false))⟩,
  ⟨(some 29), .pick (.tmp (25 : Nat)) (.const (.bool true)) (.tmp (28 : Nat)), none⟩]
def K2_BilevelDamage_r4 : List SO := [⟨(some 10), .assign (.const (.bool true)), none⟩]
def K2_BilevelDamage_r5 : List SO := [⟨(some 30), .move (.tmp (1 : Nat)), none⟩,
  ⟨(some 31), .call ⟨(.value (.func (20 : Nat))), #[(.tmp (30 : Nat)), (.const (.int .i64 8))], #[3, 3]⟩, none⟩,
  ⟨(some 32), .binOp .add 3 (.const (.int .i64 1)) (.tmp (31 : Nat)) 3, none⟩,
  ⟨(some 1), .assign (.tmp (32 : Nat)), none⟩]
def K2_BilevelDamage_r6 : List SO := [⟨(some 34), .load 24 (.tmp (5 : Nat)), none⟩,
  ⟨(some 35), .move (.tmp (1 : Nat)), none⟩,
  ⟨(some 36), .call ⟨(.value (.func (24 : Nat))), #[(.tmp (34 : Nat)), (.tmp (35 : Nat))], #[24, 3]⟩, none⟩,
  ⟨(some 33), .move (.tmp (36 : Nat)), none⟩,
  ⟨(some 37), .extract (.tmp (33 : Nat)) 0, none⟩,
  ⟨(some 38), .extract (.tmp (33 : Nat)) 1, none⟩,
  ⟨(some 11), .assign (.tmp (37 : Nat)), none⟩,
  ⟨(some 12), .assign (.tmp (38 : Nat)), none⟩]
def K2_BilevelDamage_r7 : List SO := [⟨(some 39), .move (.tmp (12 : Nat)), none⟩,
  ⟨(some 40), .binOp .neq 31 (.tmp (39 : Nat)) (.const (.int .i64 0)) 31, none⟩,
  ⟨(some 41), .move (.tmp (40 : Nat)), none⟩,
  ⟨(some 42), .move (.tmp (11 : Nat)), (some (41, false))⟩,
  ⟨(some 43), .call ⟨(.builtin .len), #[(.tmp (42 : Nat))], #[22]⟩, (some (41, false))⟩,
  ⟨(some 44), .binOp .lss 3 (.tmp (43 : Nat)) (.const (.int .i64 5)) 3, (some (41, false))⟩,
  ⟨(some 45), .pick (.tmp (41 : Nat)) (.const (.bool true)) (.tmp (44 : Nat)), none⟩]
def K2_BilevelDamage_r8 : List SO := [⟨(some 46), .move (.tmp (12 : Nat)), none⟩,
  ⟨(some 47), .binOp .neq 31 (.tmp (46 : Nat)) (.const (.int .i64 0)) 31, none⟩,
  ⟨(some 48), .move (.tmp (47 : Nat)), none⟩,
  ⟨(some 49), .move (.tmp (11 : Nat)), (some (48, true))⟩,
  ⟨(some 50), .call ⟨(.builtin .len), #[(.tmp (49 : Nat))], #[22]⟩, (some (48, true))⟩,
  ⟨(some 51), .binOp .eql 3 (.tmp (50 : Nat)) (.const (.int .i64 0)) 3, (some (48, true))⟩,
  ⟨(some 52), .pick (.tmp (48 : Nat)) (.tmp (51 : Nat)) (.const (.bool false)), none⟩,
  ⟨(some 10), .assign (.tmp (52 : Nat)), none⟩]
def K2_BilevelDamage_r9 : List SO := [⟨(some 53), .fieldAddr 24 (.tmp (5 : Nat)) 1, none⟩,
  ⟨(some 54), .load 3 (.tmp (53 : Nat)), none⟩,
  ⟨(some 55), .move (.tmp (1 : Nat)), none⟩,
  ⟨(some 56), .binOp .add 3 (.tmp (54 : Nat)) (.tmp (55 : Nat)) 3, none⟩,
  ⟨(some 57), .binOp .sub 3 (.tmp (56 : Nat)) (.const (.int .i64 1)) 3, none⟩,
  ⟨(some 58), .move (.tmp (1 : Nat)), none⟩,
  ⟨(some 59), .binOp .quo 3 (.tmp (57 : Nat)) (.tmp (58 : Nat)) 3, none⟩,
  ⟨(some 13), .assign (.tmp (59 : Nat)), none⟩]
def K2_BilevelDamage_r10 : List SO := [⟨(some 60), .move (.tmp (2 : Nat)), none⟩,
  ⟨(some 61), .move (.tmp (13 : Nat)), none⟩,
  ⟨(some 62), .call ⟨(.value (.func (20 : Nat))), #[(.tmp (60 : Nat)), (.tmp (61 : Nat))], #[3, 3]⟩, none⟩,
  ⟨(some 2), .assign (.tmp (62 : Nat)), none⟩]
def K2_BilevelDamage_r11 : List SO := [⟨(some 14), .assign (.const (.int .i64 5)), none⟩]
def K2_BilevelDamage_r12 : List SO := [⟨(some 63), .move (.tmp (2 : Nat)), none⟩,
  ⟨(some 64), .move (.const (.int .i64 0)), none⟩]
def K2_BilevelDamage_r13 : List SO := [⟨(some 65), .binOp .lss 3 (.tmp (64 : Nat)) (.tmp (63 : Nat)) 3, none⟩]
def K2_BilevelDamage_r14 : List SO := [⟨(some 66), .move (.tmp (14 : Nat)), none⟩,
  ⟨(some 67), .binOp .add 3 (.tmp (66 : Nat)) (.const (.int .i64 3)) 3, none⟩,
  ⟨(some 68), .move (.tmp (11 : Nat)), none⟩,
  ⟨(some 69), .call ⟨(.builtin .len), #[(.tmp (68 : Nat))], #[22]⟩, none⟩,
  ⟨(some 70), .binOp .gtr 3 (.tmp (67 : Nat)) (.tmp (69 : Nat)) 3, none⟩]
def K2_BilevelDamage_r15 : List SO := [⟨(some 10), .assign (.const (.bool false)), none⟩]
def K2_BilevelDamage_r16 : List SO := [⟨(some 71), .move (.tmp (14 : Nat)), none⟩,
  ⟨(some 72), .move (.tmp (11 : Nat)), none⟩,
  ⟨(some 73), .move (.tmp (14 : Nat)), none⟩,
  ⟨(some 74), .move (.tmp (14 : Nat)), none⟩,
  ⟨(some 75), .binOp .add 3 (.tmp (74 : Nat)) (.const (.int .i64 3)) 3, none⟩,
  ⟨(some 76), .slice 22 (.tmp (72 : Nat)) (some (.tmp (73 : Nat))) (some (.tmp (75 : Nat))) none, none⟩,
  ⟨(some 77), .call ⟨(.value (.func (31 : Nat))), #[(.tmp (76 : Nat))], #[22]⟩, none⟩,
  ⟨(some 78), .binOp .add 3 (.const (.int .i64 3)) (.tmp (77 : Nat)) 3, none⟩,
  ⟨(some 79), .binOp .add 3 (.tmp (71 : Nat)) (.tmp (78 : Nat)) 3, none⟩,
  ⟨(some 14), .assign (.tmp (79 : Nat)), none⟩]
def K2_BilevelDamage_r17 : List SO := [⟨(some 80), .binOp .add 3 (.tmp (64 : Nat)) (.const (.int .i64 1)) 3, none⟩,
  ⟨(some 64), .move (.tmp (80 : Nat)), none⟩]
def K2_BilevelDamage_r18 : List SO := [⟨(some 81), .move (.tmp (14 : Nat)), none⟩,
  ⟨(some 82), .binOp .add 3 (.tmp (81 : Nat)) (.const (.int .i64 3)) 3, none⟩,
  ⟨(some 83), .move (.tmp (11 : Nat)), none⟩,
  ⟨(some 84), .call ⟨(.builtin .len), #[(.tmp (83 : Nat))], #[22]⟩, none⟩,
  ⟨(some 85), .binOp .gtr 3 (.tmp (82 : Nat)) (.tmp (84 : Nat)) 3, none⟩]
def K2_BilevelDamage_r19 : List SO := [⟨(some 10), .assign (.const (.bool false)), none⟩]
def K2_BilevelDamage_r20 : List SO := [⟨(some 86), .move (.tmp (11 : Nat)), none⟩,
  ⟨(some 87), .move (.tmp (14 : Nat)), none⟩,
  ⟨(some 88), .move (.tmp (14 : Nat)), none⟩,
  ⟨(some 89), .binOp .add 3 (.tmp (88 : Nat)) (.const (.int .i64 3)) 3, none⟩,
  ⟨(some 90), .slice 22 (.tmp (86 : Nat)) (some (.tmp (87 : Nat))) (some (.tmp (89 : Nat))) none, none⟩,
  ⟨(some 91), .call ⟨(.value (.func (31 : Nat))), #[(.tmp (90 : Nat))], #[22]⟩, none⟩,
  ⟨(some 15), .assign (.tmp (91 : Nat)), none⟩]
def K2_BilevelDamage_r21 : List SO := [⟨(some 92), .move (.tmp (15 : Nat)), none⟩,
  ⟨(some 93), .binOp .eql 3 (.tmp (92 : Nat)) (.const (.int .i64 0)) 3, none⟩,
  ⟨(some 94), .move (.tmp (93 : Nat)), none⟩,
  ⟨(some 95), .move (.tmp (14 : Nat)), (some (94, false))⟩,
  ⟨(some 96), .binOp .add 3 (.tmp (95 : Nat)) (.const (.int .i64 3)) 3, (some (94, false))⟩,
  ⟨(some 97), .move (.tmp (15 : Nat)), (some (94, false))⟩,
  ⟨(some 98), .binOp .add 3 (.tmp (96 : Nat)) (.tmp (97 : Nat)) 3, (some (94, false))⟩,
  ⟨(some 99), .move (.tmp (11 : Nat)), (some (94, false))⟩,
  ⟨(some 100), .call ⟨(.builtin .len), #[(.tmp (99 : Nat))], #[22]⟩, (some (94, false))⟩,
  ⟨(some 101), .binOp .gtr 3 (.tmp (98 : Nat)) (.tmp (100 : Nat)) 3, (some (94, false))⟩,
  ⟨(some 102), .pick (.tmp (94 : Nat)) (.const (.bool true)) (.tmp (101 : Nat)), none⟩]
def K2_BilevelDamage_r22 : List SO := [⟨(some 103), .move (.tmp (15 : Nat)), none⟩,
  ⟨(some 104), .binOp .eql 3 (.tmp (103 : Nat)) (.const (.int .i64 0)) 3, none⟩,
  ⟨(some 10), .assign (.tmp (104 : Nat)), none⟩]
def K2_BilevelDamage_r23 : List SO := [⟨(some 105), .move (.tmp (11 : Nat)), none⟩,
  ⟨(some 106), .move (.tmp (14 : Nat)), none⟩,
  ⟨(some 107), .binOp .add 3 (.tmp (106 : Nat)) (.const (.int .i64 3)) 3, none⟩,
  ⟨(some 108), .move (.tmp (3 : Nat)), none⟩,
  ⟨(some 109), .move (.tmp (15 : Nat)), none⟩,
  ⟨(some 110), .call ⟨(.value (.func (20 : Nat))), #[(.tmp (108 : Nat)), (.tmp (109 : Nat))], #[3, 3]⟩, none⟩,
  ⟨(some 111), .binOp .add 3 (.tmp (107 : Nat)) (.tmp (110 : Nat)) 3, none⟩,
  ⟨(some 112), .indexAddr 22 (.tmp (105 : Nat)) (.tmp (111 : Nat)), none⟩,
  ⟨(some 113), .load 5 (.tmp (112 : Nat)), none⟩,
  ⟨(some 114), .move (.tmp (4 : Nat)), none⟩,
  ⟨(some 115), .call ⟨(.value (.func (20 : Nat))), #[(.tmp (114 : Nat)), (.const (.int .i64 256))], #[3, 3]⟩, none⟩,
  ⟨(some 116), .convert 3 5 (.tmp (115 : Nat)), none⟩,
  ⟨(some 117), .binOp .xor 5 (.tmp (113 : Nat)) (.tmp (116 : Nat)) 5, none⟩,
  ⟨(some 118), .indexAddr 22 (.tmp (105 : Nat)) (.tmp (111 : Nat)), none⟩,
  ⟨none, .store 5 (.tmp (118 : Nat)) (.tmp (117 : Nat)), none⟩]
def K2_BilevelDamage_a23 : List (List Nat) := [[], [], [1], [], [], [3, 4], [2, 5], [0, 6], [7], [], [9, 5], [10], [8, 11], [0, 6, 0, 1, 2, 3, 4, 5, 6, 7, 8, 9, 10, 11, 12], [13, 12, 10, 0, 1, 2, 3, 4, 5, 6, 7, 8, 9, 10, 11, 12]]
def K2_BilevelDamage_r24 : List SO := [⟨(some 120), .move (.tmp (11 : Nat)), none⟩,
  ⟨(some 121), .call ⟨(.value (.func (26 : Nat))), #[(.tmp (120 : Nat))], #[22]⟩, none⟩,
  ⟨(some 119), .move (.tmp (121 : Nat)), none⟩,
  ⟨(some 122), .extract (.tmp (119 : Nat)) 0, none⟩,
  ⟨(some 123), .extract (.tmp (119 : Nat)) 1, none⟩,
  ⟨(some 16), .alloc 24, none⟩,
  ⟨none, .store 24 (.tmp (16 : Nat)) (.tmp (122 : Nat)), none⟩,
  ⟨(some 17), .assign (.tmp (123 : Nat)), none⟩]
def K2_BilevelDamage_r25 : List SO := [⟨(some 124), .move (.tmp (17 : Nat)), none⟩,
  ⟨(some 125), .binOp .neq 31 (.tmp (124 : Nat)) (.const (.int .i64 0)) 31, none⟩,
  ⟨(some 126), .move (.tmp (125 : Nat)), none⟩,
  ⟨(some 127), .fieldAddr 24 (.tmp (16 : Nat)) 0, (some (126, false))⟩,
  ⟨(some 128), .load 3 (.tmp (127 : Nat)), (some (126, false))⟩,
  ⟨(some 129), .fieldAddr 24 (.tmp (5 : Nat)) 0, (some (126, false))⟩,
  ⟨(some 130), .load 3 (.tmp (129 : Nat)), (some (126, false))⟩,
  ⟨(some 131), .binOp .neq 3 (.tmp (128 : Nat)) (.tmp (130 : Nat)) 3, (some (126, false))⟩,
  ⟨(some 132), .pick (.tmp (126 : Nat)) (.const (.bool true)) (.tmp (131 : Nat)), none⟩,
  ⟨(some 133), .move (.tmp (132 : Nat)), none⟩,
  ⟨(some 134), .fieldAddr 24 (.tmp (16 : Nat)) 1, (some (133, false))⟩,
  ⟨(some 135), .load 3 (.tmp (134 : Nat)), (some (133, false))⟩,
  ⟨(some 136), .fieldAddr 24 (.tmp (5 : Nat)) 1, (some (133, false))⟩,
  ⟨(some 137), .load 3 (.tmp (136 : Nat)), (some (133, false))⟩,
  ⟨(some 138), .binOp .neq 3 (.tmp (135 : Nat)) (.tmp (137 : Nat)) 3, (some (133, false))⟩,
  ⟨(some 139), .pick (.tmp (133 : Nat)) (.const (.bool true)) (.tmp (138 : Nat)), none⟩,
  ⟨(some 140), .move (.tmp (139 : Nat)), none⟩,
  ⟨(some 141), .load 24 (.tmp (16 : Nat)), (some (140, false))⟩,
  ⟨(some 142), .call ⟨(.value (.func (25 : Nat))), #[(.tmp (141 : Nat))], #[24]⟩, (some (140, false))⟩,
  ⟨(some 143), .binOp .neq 31 (.tmp (142 : Nat)) (.const (.int .i64 0)) 31, (some (140, false))⟩,
  ⟨(some 144), .pick (.tmp (140 : Nat)) (.const (.bool true)) (.tmp (143 : Nat)), none⟩]
def K2_BilevelDamage_r26 : List SO := [⟨(some 10), .assign (.const (.bool false)), none⟩]
def K2_BilevelDamage_r27 : List SO := [⟨(some 145), .fieldAddr 24 (.tmp (5 : Nat)) 1, none⟩,
  ⟨(some 146), .load 3 (.tmp (145 : Nat)), none⟩,
  ⟨(some 147), .move (.const (.int .i64 0)), none⟩]
def K2_BilevelDamage_r28 : List SO := [⟨(some 148), .binOp .lss 3 (.tmp (147 : Nat)) (.tmp (146 : Nat)) 3, none⟩]
def K2_BilevelDamage_r29 : List SO := [⟨(some 149), .move (.tmp (147 : Nat)), none⟩,
  ⟨(some 18), .assign (.tmp (149 : Nat)), none⟩]
def K2_BilevelDamage_r30 : List SO := [⟨(some 150), .fieldAddr 24 (.tmp (5 : Nat)) 0, none⟩,
  ⟨(some 151), .load 3 (.tmp (150 : Nat)), none⟩,
  ⟨(some 152), .move (.const (.int .i64 0)), none⟩]
def K2_BilevelDamage_r31 : List SO := [⟨(some 153), .binOp .lss 3 (.tmp (152 : Nat)) (.tmp (151 : Nat)) 3, none⟩]
def K2_BilevelDamage_r32 : List SO := [⟨(some 154), .move (.tmp (152 : Nat)), none⟩,
  ⟨(some 19), .assign (.tmp (154 : Nat)), none⟩]
def K2_BilevelDamage_r33 : List SO := [⟨(some 155), .move (.tmp (18 : Nat)), none⟩,
  ⟨(some 156), .move (.tmp (1 : Nat)), none⟩,
  ⟨(some 157), .binOp .quo 3 (.tmp (155 : Nat)) (.tmp (156 : Nat)) 3, none⟩,
  ⟨(some 158), .move (.tmp (2 : Nat)), none⟩,
  ⟨(some 159), .binOp .neq 3 (.tmp (157 : Nat)) (.tmp (158 : Nat)) 3, none⟩,
  ⟨(some 160), .move (.tmp (159 : Nat)), none⟩,
  ⟨(some 161), .load 24 (.tmp (5 : Nat)), (some (160, true))⟩,
  ⟨(some 162), .move (.tmp (19 : Nat)), (some (160, true))⟩,
  ⟨(some 163), .move (.tmp (18 : Nat)), (some (160, true))⟩,
  ⟨(some 164), .call ⟨(.value (.func (18 : Nat))), #[(.tmp (161 : Nat)), (.tmp (162 : Nat)), (.tmp (163 : Nat))], #[24, 3, 3]⟩, (some (160, true))⟩,
  ⟨(some 165), .load 24 (.tmp (16 : Nat)), (some (160, true))⟩,
  ⟨(some 166), .move (.tmp (19 : Nat)), (some (160, true))⟩,
  ⟨(some 167), .move (.tmp (18 : Nat)), (some (160, true))⟩,
  ⟨(some 168), .call ⟨(.value (.func (18 : Nat))), #[(.tmp (165 : Nat)), (.tmp (166 : Nat)), (.tmp (167 : Nat))], #[24, 3, 3]⟩, (some (160, true))⟩,
  ⟨(some 169), .binOp .neq 4 (.tmp (164 : Nat)) (.tmp (168 : Nat)) 4, (some (160, true))⟩,
  ⟨(some 170), .pick (.tmp (160 : Nat)) (.tmp (169 : Nat)) (.const (.bool false)), none⟩]
def K2_BilevelDamage_a33 : List (List Nat) := [[], [], [0, 1], [], [2, 3], [4], [5], [5], [5], [6, 7, 8, 5, 5], [5], [5], [5], [10, 11, 12, 9, 5], [9, 13, 5], [5, 14]]
def K2_BilevelDamage_r34 : List SO := [⟨(some 10), .assign (.const (.bool false)), none⟩]
def K2_BilevelDamage_r35 : List SO := [⟨(some 171), .binOp .add 3 (.tmp (152 : Nat)) (.const (.int .i64 1)) 3, none⟩,
  ⟨(some 152), .move (.tmp (171 : Nat)), none⟩]
def K2_BilevelDamage_r36 : List SO := [⟨(some 172), .binOp .add 3 (.tmp (147 : Nat)) (.const (.int .i64 1)) 3, none⟩,
  ⟨(some 147), .move (.tmp (172 : Nat)), none⟩]
def K2_BilevelDamage_r37 : List SO := [⟨(some 10), .assign (.const (.bool true)), none⟩]
def K2_BilevelDamage_c : SF := ⟨173, (.seq (.reg K2_BilevelDamage_r0)
  (.seq (.seq (.reg K2_BilevelDamage_r1)
  (.cond (.tmp (21 : Nat)) (.seq (.reg K2_BilevelDamage_r2)
  .ret) .skip))
  (.seq (.seq (.reg K2_BilevelDamage_r3)
  (.cond (.tmp (29 : Nat)) (.seq (.reg K2_BilevelDamage_r4)
  .ret) .skip))
  (.seq (.reg K2_BilevelDamage_r5)
  (.seq (.reg K2_BilevelDamage_r6)
  (.seq (.seq (.reg K2_BilevelDamage_r7)
  (.cond (.tmp (45 : Nat)) (.seq (.reg K2_BilevelDamage_r8)
  .ret) .skip))
  (.seq (.reg K2_BilevelDamage_r9)
  (.seq (.reg K2_BilevelDamage_r10)
  (.seq (.reg K2_BilevelDamage_r11)
  (.seq (.seq (.reg K2_BilevelDamage_r12)
  (.block 0 (.loop (.seq (.reg K2_BilevelDamage_r13)
  (.seq (.cond (.tmp (65 : Nat)) .skip (.exit 0))
  (.seq (.block 1 (.seq (.seq (.reg K2_BilevelDamage_r14)
  (.cond (.tmp (70 : Nat)) (.seq (.reg K2_BilevelDamage_r15)
  .ret) .skip))
  (.reg K2_BilevelDamage_r16)))
  (.reg K2_BilevelDamage_r17)))))))
  (.seq (.seq (.reg K2_BilevelDamage_r18)
  (.cond (.tmp (85 : Nat)) (.seq (.reg K2_BilevelDamage_r19)
  .ret) .skip))
  (.seq (.reg K2_BilevelDamage_r20)
  (.seq (.seq (.reg K2_BilevelDamage_r21)
  (.cond (.tmp (102 : Nat)) (.seq (.reg K2_BilevelDamage_r22)
  .ret) .skip))
  (.seq (.regd K2_BilevelDamage_r23 K2_BilevelDamage_a23)
  (.seq (.reg K2_BilevelDamage_r24)
  (.seq (.seq (.reg K2_BilevelDamage_r25)
  (.cond (.tmp (144 : Nat)) (.seq (.reg K2_BilevelDamage_r26)
  .ret) .skip))
  (.seq (.seq (.reg K2_BilevelDamage_r27)
  (.block 2 (.loop (.seq (.reg K2_BilevelDamage_r28)
  (.seq (.cond (.tmp (148 : Nat)) .skip (.exit 2))
  (.seq (.block 3 (.seq (.reg K2_BilevelDamage_r29)
  (.seq (.reg K2_BilevelDamage_r30)
  (.block 4 (.loop (.seq (.reg K2_BilevelDamage_r31)
  (.seq (.cond (.tmp (153 : Nat)) .skip (.exit 4))
  (.seq (.block 5 (.seq (.reg K2_BilevelDamage_r32)
  (.seq (.regd K2_BilevelDamage_r33 K2_BilevelDamage_a33)
  (.cond (.tmp (170 : Nat)) (.seq (.reg K2_BilevelDamage_r34)
  .ret) .skip))))
  (.reg K2_BilevelDamage_r35)))))))))
  (.reg K2_BilevelDamage_r36)))))))
  (.seq (.reg K2_BilevelDamage_r37)
  .ret)))))))))))))))))), [.tmp 10]⟩
theorem K2_BilevelDamage_s : slimF Try.prog 7 = some K2_BilevelDamage_c := by kernel_rfl
abbrev K2_BilevelDamage_f : Nat := 7

end Go.Proofs.Ytjedljdfkoagbaa
