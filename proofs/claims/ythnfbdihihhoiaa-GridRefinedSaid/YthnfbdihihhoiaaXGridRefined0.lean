/- Printed by program: the functions' code in few words; the kernel checks it against the translation. -/
import Derived.Test.YthnfbdihihhoiaaRows
import Derived.Test.YthnfbdihihhoiaaLiteTP
namespace Go.Proofs.Ythnfbdihihhoiaa
open Go Go.Lite
set_option linter.unusedVariables false

/-- Int -/
abbrev Ei : Nat := 0
/-- Int × Int -/
abbrev E2i : Nat := 1
/-- List (Int × Int) -/
abbrev EL2iJ : Nat := 2
/-- Int -/
abbrev Ey : Nat := 3
/-- Bool -/
abbrev Eo : Nat := 4
/-- ByteArray -/
abbrev Es : Nat := 5
/-- ByteArray × List (Int) -/
abbrev EsLyJ : Nat := 6
/-- Int × Int -/
abbrev E2w : Nat := 7
@[reducible] def A (e : Nat) : Type := match e with
  | 0 => Int
  | 1 => Int × Int
  | 2 => List (Int × Int)
  | 3 => Int
  | 4 => Bool
  | 5 => ByteArray
  | 6 => ByteArray × List (Int)
  | 7 => Int × Int
  | _ => Unit
def eSz (e : Nat) : Nat := match e with
  | 0 => 1
  | 1 => 2
  | 2 => 1
  | 3 => 1
  | 4 => 1
  | 5 => 1
  | 6 => 2
  | 7 => 2
  | _ => 1
def eD (e : Nat) : A e := match e with
  | 0 => (0 : Int)
  | 1 => ((0 : Int), (0 : Int))
  | 2 => ([] : List (Int × Int))
  | 3 => (0 : Int)
  | 4 => false
  | 5 => (⟨#[]⟩ : ByteArray)
  | 6 => ((⟨#[]⟩ : ByteArray), ([] : List (Int)))
  | 7 => ((0 : Int), (0 : Int))
  | _ + 8 => ()
def encL0 (x : Int) : List LV := [.int .i64 (x)]
def enc0 (x : Int) : List (TV A) := [.int .i64 (x)]
def dec0 (cs : List (TV A)) : Option (Int) := match cs with
  | [.int .i64 x0] => some x0
  | _ => none
def encL1 (x : Int × Int) : List LV := [.int .i64 (x.1), .int .i64 (x.2)]
def enc1 (x : Int × Int) : List (TV A) := [.int .i64 (x.1), .int .i64 (x.2)]
def dec1 (cs : List (TV A)) : Option (Int × Int) := match cs with
  | [.int .i64 x0, .int .i64 x1] => some (x0, x1)
  | _ => none
def encL2 (x : List (Int × Int)) : List LV := [.ps 2 (List.length (x)) (List.flatMap encL1 (x))]
def enc2 (x : List (Int × Int)) : List (TV A) := [.lst 1 (x)]
def dec2 (cs : List (TV A)) : Option (List (Int × Int)) := match cs with
  | [.lst 1 x0] => some x0
  | _ => none
def encL3 (x : Int) : List LV := [.int .u8 (x)]
def enc3 (x : Int) : List (TV A) := [.int .u8 (x)]
def dec3 (cs : List (TV A)) : Option (Int) := match cs with
  | [.int .u8 x0] => some x0
  | _ => none
def encL4 (x : Bool) : List LV := [.bool (x)]
def enc4 (x : Bool) : List (TV A) := [.bool (x)]
def dec4 (cs : List (TV A)) : Option (Bool) := match cs with
  | [.bool x0] => some x0
  | _ => none
def encL5 (x : ByteArray) : List LV := [.str (x)]
def enc5 (x : ByteArray) : List (TV A) := [.str (x)]
def dec5 (cs : List (TV A)) : Option (ByteArray) := match cs with
  | [.str x0] => some x0
  | _ => none
def encL6 (x : ByteArray × List (Int)) : List LV := [.str (x.1), .ps 1 (List.length (x.2)) (List.flatMap encL3 (x.2))]
def enc6 (x : ByteArray × List (Int)) : List (TV A) := [.str (x.1), .lst 3 (x.2)]
def dec6 (cs : List (TV A)) : Option (ByteArray × List (Int)) := match cs with
  | [.str x0, .lst 3 x1] => some (x0, x1)
  | _ => none
def encL7 (x : Int × Int) : List LV := [.int .u32 (x.1), .int .u32 (x.2)]
def enc7 (x : Int × Int) : List (TV A) := [.int .u32 (x.1), .int .u32 (x.2)]
def dec7 (cs : List (TV A)) : Option (Int × Int) := match cs with
  | [.int .u32 x0, .int .u32 x1] => some (x0, x1)
  | _ => none
def eEncL (e : Nat) (a : A e) : List LV := match e, a with
  | 0, a => encL0 a
  | 1, a => encL1 a
  | 2, a => encL2 a
  | 3, a => encL3 a
  | 4, a => encL4 a
  | 5, a => encL5 a
  | 6, a => encL6 a
  | 7, a => encL7 a
  | _ + 8, _ => [.nilp]
def eEnc (e : Nat) (a : A e) : List (TV A) := match e, a with
  | 0, a => enc0 a
  | 1, a => enc1 a
  | 2, a => enc2 a
  | 3, a => enc3 a
  | 4, a => enc4 a
  | 5, a => enc5 a
  | 6, a => enc6 a
  | 7, a => enc7 a
  | _ + 8, _ => [.nilp]
def eDec (e : Nat) (cs : List (TV A)) : Option (A e) := match e with
  | 0 => dec0 cs
  | 1 => dec1 cs
  | 2 => dec2 cs
  | 3 => dec3 cs
  | 4 => dec4 cs
  | 5 => dec5 cs
  | 6 => dec6 cs
  | 7 => dec7 cs
  | _ + 8 => none
def eEl (t : Nat) : Option Nat := match t with
  | 22 => some 0
  | 43 => some 2
  | 57 => some 3
  | 79 => some 4
  | 42 => some 5
  | 136 => some 3
  | 49 => some 1
  | 164 => some 6
  | 118 => some 7
  | _ => none
def fl (e : Nat) : Bool := match e with
  | 0 => true
  | 1 => true
  | 2 => false
  | 3 => true
  | 4 => true
  | 5 => true
  | 6 => false
  | 7 => true
  | _ => false
def eByt (e : Nat) : Option (List (A e) → List Int) := match e with
  | 3 => some fun xs => xs
  | _ => none
theorem flat1 : ∀ xs : List Int, xs.flatMap (fun x => [LV.int .u8 x]) = xs.map (LV.int .u8)
  | [] => rfl
  | x :: r => congrArg (LV.int .u8 x :: ·) (flat1 r)
def R : Reg A := ⟨eSz, eD, eEncL, eEnc, eDec, eEl, eByt⟩
theorem R_ok : R.Ok where
  pos e := by show 0 < eSz e; unfold eSz; split <;> decide
  len e a := match e, a with
    | 0, a => rfl
    | 1, a => rfl
    | 2, a => rfl
    | 3, a => rfl
    | 4, a => rfl
    | 5, a => rfl
    | 6, a => rfl
    | 7, a => rfl
    | e + 8, a => rfl
  ok e a := match e, a with
    | 0, a => rfl
    | 1, a => rfl
    | 2, a => rfl
    | 3, a => rfl
    | 4, a => rfl
    | 5, a => rfl
    | 6, a => rfl
    | 7, a => rfl
    | e + 8, a => rfl
  dec e cs a h := match e, a, h with
    | 0, a, h => by
      replace h : dec0 cs = some a := h
      unfold dec0 at h
      split at h
      · cases h; rfl
      · cases h
    | 1, a, h => by
      replace h : dec1 cs = some a := h
      unfold dec1 at h
      split at h
      · cases h; rfl
      · cases h
    | 2, a, h => by
      replace h : dec2 cs = some a := h
      unfold dec2 at h
      split at h
      · cases h; rfl
      · cases h
    | 3, a, h => by
      replace h : dec3 cs = some a := h
      unfold dec3 at h
      split at h
      · cases h; rfl
      · cases h
    | 4, a, h => by
      replace h : dec4 cs = some a := h
      unfold dec4 at h
      split at h
      · cases h; rfl
      · cases h
    | 5, a, h => by
      replace h : dec5 cs = some a := h
      unfold dec5 at h
      split at h
      · cases h; rfl
      · cases h
    | 6, a, h => by
      replace h : dec6 cs = some a := h
      unfold dec6 at h
      split at h
      · cases h; rfl
      · cases h
    | 7, a, h => by
      replace h : dec7 cs = some a := h
      unfold dec7 at h
      split at h
      · cases h; rfl
      · cases h
    | e + 8, a, h => by cases h
  free e a := match e, a with
    | 0, a => rfl
    | 1, a => rfl
    | 2, a => rfl
    | 3, a => rfl
    | 4, a => rfl
    | 5, a => rfl
    | 6, a => rfl
    | 7, a => rfl
    | e + 8, a => rfl
  sol e a := match e, a with
    | 0, a => rfl
    | 1, a => rfl
    | 2, a => rfl
    | 3, a => rfl
    | 4, a => rfl
    | 5, a => rfl
    | 6, a => rfl
    | 7, a => rfl
    | e + 8, a => rfl
  byt e f h xs := match e, f, h with
    | 0, f, h => by cases h
    | 1, f, h => by cases h
    | 2, f, h => by cases h
    | 3, f, h => by cases h; exact flat1 xs
    | 4, f, h => by cases h
    | 5, f, h => by cases h
    | 6, f, h => by cases h
    | 7, f, h => by cases h
    | e + 8, f, h => by cases h
theorem fl_ok : ∀ e, fl e = true → ∀ a, psfreeL (R.encL e a) = true := fun e h a => match e, h, a with
  | 0, h, a => rfl
  | 1, h, a => rfl
  | 2, h, a => by cases h
  | 3, h, a => rfl
  | 4, h, a => rfl
  | 5, h, a => rfl
  | 6, h, a => by cases h
  | 7, h, a => rfl
  | e + 8, h, a => rfl

def tyL : List (Nat × TI) := [(0, ⟨.other, 1, false, [.dead]⟩),
  (24, ⟨.struct [(0, 1, false), (1, 1, false), (2, 1, false), (3, 1, false)], 4, true, [.int .i64 0, .int .i64 0, .int .i64 0, .nils]⟩),
  (26, ⟨.int .i64, 1, false, [.int .i64 0]⟩),
  (22, ⟨.slice 1 8 [.int .i64 0], 1, false, [.nils]⟩),
  (3, ⟨.int .i64, 1, false, [.int .i64 0]⟩),
  (34, ⟨.arr 3 1 false, 3, true, [.int .i64 0, .int .i64 0, .int .i64 0]⟩),
  (4, ⟨.bool, 1, false, [.bool false]⟩),
  (45, ⟨.struct [(0, 1, false), (1, 1, false), (2, 1, false), (3, 4, true)], 7, true, [.str ⟨([] : List UInt8).toArray⟩, .nils, .nils, .int .i64 0, .int .i64 0, .int .i64 0, .nils]⟩),
  (43, ⟨.slice 1 24 [.nils], 1, false, [.nils]⟩),
  (51, ⟨.struct [(0, 1, false)], 1, true, [.nils]⟩),
  (53, ⟨.struct [(0, 1, false), (1, 1, false), (2, 1, false)], 3, true, [.int .i64 0, .int .i64 0, .int .i64 0]⟩),
  (57, ⟨.slice 1 1 [.int .u8 0], 1, false, [.nils]⟩),
  (61, ⟨.other, 1, false, [.nilp]⟩),
  (68, ⟨.int .u64, 1, false, [.int .u64 0]⟩),
  (70, ⟨.other, 1, false, [.nilp]⟩),
  (5, ⟨.int .u8, 1, false, [.int .u8 0]⟩),
  (79, ⟨.slice 1 1 [.bool false], 1, false, [.nils]⟩),
  (84, ⟨.struct [(0, 1, false), (1, 1, false), (2, 1, false)], 3, true, [.int .i64 0, .int .i64 0, .int .i64 0]⟩),
  (87, ⟨.arr 2 1 false, 2, true, [.int .i64 0, .int .i64 0]⟩),
  (88, ⟨.arr 4 2 true, 8, true, [.int .i64 0, .int .i64 0, .int .i64 0, .int .i64 0, .int .i64 0, .int .i64 0, .int .i64 0, .int .i64 0]⟩),
  (91, ⟨.struct [(0, 1, false), (1, 1, false), (2, 1, false)], 3, true, [.int .i64 0, .int .i64 0, .int .i64 0]⟩),
  (94, ⟨.arr 2 3 true, 6, true, [.int .i64 0, .int .i64 0, .int .i64 0, .int .i64 0, .int .i64 0, .int .i64 0]⟩),
  (99, ⟨.other, 1, false, [.nilp]⟩),
  (104, ⟨.other, 1, false, [.nilf]⟩),
  (42, ⟨.slice 1 16 [.str ⟨([] : List UInt8).toArray⟩], 1, false, [.nils]⟩),
  (114, ⟨.other, 1, false, [.nilp]⟩),
  (121, ⟨.struct [(0, 1, false), (1, 1, false), (2, 1, false)], 3, true, [.nils, .int .u32 0, .int .i64 0]⟩),
  (125, ⟨.struct [(0, 3, true), (3, 1, false), (4, 1, false), (5, 1, false)], 6, true, [.nils, .int .u32 0, .int .i64 0, .int .u32 0, .nils, .bool false]⟩),
  (119, ⟨.int .u32, 1, false, [.int .u32 0]⟩),
  (9, ⟨.str, 1, false, [.str ⟨([] : List UInt8).toArray⟩]⟩),
  (131, ⟨.struct [(0, 3, true), (3, 1, false), (4, 1, false)], 5, true, [.nils, .int .u32 0, .int .i64 0, .int .u32 0, .nils]⟩),
  (136, ⟨.slice 1 1 [.int .u8 0], 1, false, [.nils]⟩),
  (150, ⟨.struct [(0, 1, false), (1, 1, false), (2, 1, false)], 3, true, [.int .i64 0, .int .i64 0, .int .i64 0]⟩),
  (156, ⟨.arr 4 1 false, 4, true, [.int .i64 0, .int .i64 0, .int .i64 0, .int .i64 0]⟩),
  (158, ⟨.arr 4 1 false, 4, true, [.nils, .nils, .nils, .nils]⟩),
  (49, ⟨.slice 2 16 [.int .i64 0, .int .i64 0], 1, false, [.nils]⟩),
  (160, ⟨.struct [(0, 1, false), (1, 1, false)], 2, true, [.int .i64 0, .int .i64 0]⟩),
  (162, ⟨.arr 4 1 false, 4, true, [.str ⟨([] : List UInt8).toArray⟩, .str ⟨([] : List UInt8).toArray⟩, .str ⟨([] : List UInt8).toArray⟩, .str ⟨([] : List UInt8).toArray⟩]⟩),
  (164, ⟨.slice 2 40 [.str ⟨([] : List UInt8).toArray⟩, .nils], 1, false, [.nils]⟩),
  (168, ⟨.struct [(0, 1, false), (1, 1, false)], 2, true, [.str ⟨([] : List UInt8).toArray⟩, .nils]⟩),
  (118, ⟨.slice 2 8 [.int .u32 0, .int .u32 0], 1, false, [.nils]⟩),
  (173, ⟨.other, 1, false, [.nilp]⟩),
  (175, ⟨.struct [(0, 1, false), (1, 1, false)], 2, true, [.int .u32 0, .int .u32 0]⟩),
  (181, ⟨.other, 1, false, [.nilf]⟩),
  (28, ⟨.other, 1, false, [.nilf]⟩),
  (128, ⟨.int .u64, 1, false, [.int .u64 0]⟩),
  (187, ⟨.int .i64, 1, false, [.int .i64 0]⟩),
  (196, ⟨.int .u64, 1, false, [.int .u64 0]⟩),
  (200, ⟨.other, 1, false, [.nilp]⟩),
  (202, ⟨.other, 1, false, [.nilp]⟩)]
theorem tyL_ok : okL (tiOf Try.prog) tyL := ⟨by kernel_rfl, by kernel_rfl, by kernel_rfl, by kernel_rfl, by kernel_rfl, by kernel_rfl, by kernel_rfl, by kernel_rfl, by kernel_rfl, by kernel_rfl, by kernel_rfl, by kernel_rfl, by kernel_rfl, by kernel_rfl, by kernel_rfl, by kernel_rfl, by kernel_rfl, by kernel_rfl, by kernel_rfl, by kernel_rfl, by kernel_rfl, by kernel_rfl, by kernel_rfl, by kernel_rfl, by kernel_rfl, by kernel_rfl, by kernel_rfl, by kernel_rfl, by kernel_rfl, by kernel_rfl, by kernel_rfl, by kernel_rfl, by kernel_rfl, by kernel_rfl, by kernel_rfl, by kernel_rfl, by kernel_rfl, by kernel_rfl, by kernel_rfl, by kernel_rfl, by kernel_rfl, by kernel_rfl, by kernel_rfl, by kernel_rfl, by kernel_rfl, by kernel_rfl, by kernel_rfl, by kernel_rfl, by kernel_rfl, by kernel_rfl, trivial⟩
def eqL : List (Nat × List Nat) := [(91, [0, 0, 0]), (53, [0, 0, 0])]
theorem eqL_ok : okL (eqOf Try.prog) eqL := ⟨by kernel_rfl, by kernel_rfl, trivial⟩
def nlL : List (Nat × Nat) := [(26, 0), (3, 0), (61, 2), (70, 2), (5, 0), (91, 0), (53, 0), (9, 0), (119, 0), (187, 0), (57, 3), (128, 0), (68, 0)]
theorem nlL_ok : okN (nilOf Try.prog) nlL := ⟨by kernel_rfl, by kernel_rfl, by kernel_rfl, by kernel_rfl, by kernel_rfl, by kernel_rfl, by kernel_rfl, by kernel_rfl, by kernel_rfl, by kernel_rfl, by kernel_rfl, by kernel_rfl, by kernel_rfl, trivial⟩
noncomputable def ty : TT := ⟨lookT tyL (tiOf Try.prog), lookT eqL (eqOf Try.prog), lookN nlL (nilOf Try.prog)⟩
theorem ty_ok : ty = ttOf Try.prog := by
  unfold ty ttOf
  rw [lookT_eq tyL_ok, lookT_eq eqL_ok, lookN_eq nlL_ok]
def Wi (x : Int) : Prop := rng .i64 x
def W2i (x : Int × Int) : Prop := rng .i64 x.1 ∧ rng .i64 x.2
def WL2iJ (x : List (Int × Int)) : Prop := (List.length x ≤ 9223372036854775807 ∧ ∀ y ∈ x, W2i y)
def Wy (x : Int) : Prop := rng .u8 x
def Wo (x : Bool) : Prop := True
def Ws (x : ByteArray) : Prop := ByteArray.size x ≤ 9223372036854775807
def WsLyJ (x : ByteArray × List (Int)) : Prop := ByteArray.size x.1 ≤ 9223372036854775807 ∧ (List.length x.2 ≤ 9223372036854775807 ∧ ∀ y ∈ x.2, Wy y)
def W2w (x : Int × Int) : Prop := rng .u32 x.1 ∧ rng .u32 x.2
theorem rdi : R.d Ei = (0 : Int) := rfl
theorem rd2i : R.d E2i = ((0 : Int), (0 : Int)) := rfl
theorem rdL2iJ : R.d EL2iJ = ([] : List (Int × Int)) := rfl
theorem rdy : R.d Ey = (0 : Int) := rfl
theorem rdo : R.d Eo = false := rfl
theorem rds : R.d Es = (⟨#[]⟩ : ByteArray) := rfl
theorem rdsLyJ : R.d EsLyJ = ((⟨#[]⟩ : ByteArray), ([] : List (Int))) := rfl
theorem rd2w : R.d E2w = ((0 : Int), (0 : Int)) := rfl
theorem env : Env A R Try.prog ty fl := ⟨R_ok, ty_ok, fl_ok, by kernel_rfl⟩

end Go.Proofs.Ythnfbdihihhoiaa
namespace Go.Proofs.Ythnfbdihihhoiaa
open Go Go.Lite
set_option linter.unusedVariables false

/-- printworks/curve.At -/
def curve_At_r0 : List SO := [⟨(some 2), .box 51 (.tmp (0 : Nat)), none⟩,
  ⟨(some 4), .assign (.const (.int .i64 0)), none⟩,
  ⟨(some 5), .assign (.const (.int .i64 0)), none⟩]
def curve_At_r1 : List SO := [⟨(some 7), .load 51 (.tmp (2 : Nat)), none⟩,
  ⟨(some 8), .call ⟨(.value (.func (66 : Nat))), #[(.tmp (7 : Nat))], #[51]⟩, none⟩,
  ⟨(some 6), .assign (.tmp (8 : Nat)), none⟩]
def curve_At_r2 : List SO := [⟨(some 9), .move (.tmp (6 : Nat)), none⟩,
  ⟨(some 10), .binOp .neq 26 (.tmp (9 : Nat)) (.const (.int .i64 0)) 26, none⟩]
def curve_At_r3 : List SO := [⟨(some 11), .move (.tmp (6 : Nat)), none⟩,
  ⟨(some 4), .assign (.const (.int .i64 0)), none⟩,
  ⟨(some 5), .assign (.tmp (11 : Nat)), none⟩]
def curve_At_r4 : List SO := [⟨(some 12), .move (.tmp (1 : Nat)), none⟩,
  ⟨(some 13), .binOp .lss 3 (.tmp (12 : Nat)) (.const (.int .i64 0)) 3, none⟩,
  ⟨(some 14), .move (.tmp (13 : Nat)), none⟩,
  ⟨(some 15), .move (.tmp (1 : Nat)), (some (14, false))⟩,
  ⟨(some 16), .binOp .gtr 3 (.tmp (15 : Nat)) (.const (.int .i64 65280)) 3, (some (14, false))⟩,
  ⟨(some 17), .pick (.tmp (14 : Nat)) (.const (.bool true)) (.tmp (16 : Nat)), none⟩]
def curve_At_r5 : List SO := [⟨(some 4), .assign (.const (.int .i64 0)), none⟩,
  ⟨(some 5), .assign (.const (.int .i64 3)), none⟩]
def curve_At_r6 : List SO := [⟨(some 18), .load 51 (.tmp (2 : Nat)), none⟩,
  ⟨(some 19), .move (.tmp (1 : Nat)), none⟩,
  ⟨(some 20), .call ⟨(.value (.func (67 : Nat))), #[(.tmp (18 : Nat)), (.tmp (19 : Nat))], #[51, 3]⟩, none⟩,
  ⟨(some 4), .assign (.tmp (20 : Nat)), none⟩,
  ⟨(some 5), .assign (.const (.int .i64 0)), none⟩]
def curve_At_c : SF := ⟨21, (.seq (.reg curve_At_r0)
  (.seq (.seq (.reg curve_At_r1)
  (.seq (.reg curve_At_r2)
  (.cond (.tmp (10 : Nat)) (.seq (.reg curve_At_r3)
  .ret) .skip)))
  (.seq (.seq (.reg curve_At_r4)
  (.cond (.tmp (17 : Nat)) (.seq (.reg curve_At_r5)
  .ret) .skip))
  (.seq (.reg curve_At_r6)
  .ret)))), [.tmp 4, .tmp 5]⟩
theorem curve_At_s : slimF Try.prog 28 = some curve_At_c := by kernel_rfl
abbrev curve_At_f : Nat := 28
/-- printworks/curve.Check -/
def curve_Check_r0 : List SO := [⟨(some 1), .box 51 (.tmp (0 : Nat)), none⟩,
  ⟨(some 2), .assign (.const (.int .i64 0)), none⟩]
def curve_Check_r1 : List SO := [⟨(some 6), .fieldAddr 51 (.tmp (1 : Nat)) 0, none⟩,
  ⟨(some 7), .load 49 (.tmp (6 : Nat)), none⟩,
  ⟨(some 8), .call ⟨(.builtin .len), #[(.tmp (7 : Nat))], #[49]⟩, none⟩,
  ⟨(some 3), .assign (.tmp (8 : Nat)), none⟩]
def curve_Check_r2 : List SO := [⟨(some 10), .move (.tmp (3 : Nat)), none⟩,
  ⟨(some 11), .binOp .gtr 3 (.tmp (10 : Nat)) (.const (.int .i64 33)) 3, none⟩,
  ⟨(some 9), .assign (.tmp (11 : Nat)), none⟩]
def curve_Check_r3 : List SO := [⟨(some 2), .assign (.const (.int .i64 2)), none⟩]
def curve_Check_r4 : List SO := [⟨(some 13), .move (.tmp (3 : Nat)), none⟩,
  ⟨(some 14), .binOp .lss 3 (.tmp (13 : Nat)) (.const (.int .i64 2)) 3, none⟩,
  ⟨(some 12), .assign (.tmp (14 : Nat)), none⟩]
def curve_Check_r5 : List SO := [⟨(some 2), .assign (.const (.int .i64 1)), none⟩]
def curve_Check_r6 : List SO := [⟨(some 15), .fieldAddr 51 (.tmp (1 : Nat)) 0, none⟩,
  ⟨(some 16), .load 49 (.tmp (15 : Nat)), none⟩,
  ⟨(some 17), .call ⟨(.builtin .len), #[(.tmp (16 : Nat))], #[49]⟩, none⟩,
  ⟨(some 18), .move (.const (.int .i64 0)), none⟩]
def curve_Check_r7 : List SO := [⟨(some 19), .binOp .lss 3 (.tmp (18 : Nat)) (.tmp (17 : Nat)) 3, none⟩]
def curve_Check_r8 : List SO := [⟨(some 20), .move (.tmp (18 : Nat)), none⟩,
  ⟨(some 21), .indexAddr 49 (.tmp (16 : Nat)) (.tmp (18 : Nat)), none⟩,
  ⟨(some 22), .load 160 (.tmp (21 : Nat)), none⟩,
  ⟨(some 5), .alloc 160, none⟩,
  ⟨(some 4), .assign (.tmp (20 : Nat)), none⟩,
  ⟨none, .store 160 (.tmp (5 : Nat)) (.tmp (22 : Nat)), none⟩]
def curve_Check_r9 : List SO := [⟨(some 23), .fieldAddr 160 (.tmp (5 : Nat)) 0, none⟩,
  ⟨(some 24), .load 3 (.tmp (23 : Nat)), none⟩,
  ⟨(some 25), .binOp .lss 3 (.tmp (24 : Nat)) (.const (.int .i64 0)) 3, none⟩,
  ⟨(some 26), .move (.tmp (25 : Nat)), none⟩,
  ⟨(some 27), .fieldAddr 160 (.tmp (5 : Nat)) 0, (some (26, false))⟩,
  ⟨(some 28), .load 3 (.tmp (27 : Nat)), (some (26, false))⟩,
  ⟨(some 29), .binOp .gtr 3 (.tmp (28 : Nat)) (.const (.int .i64 65280)) 3, (some (26, false))⟩,
  ⟨(some 30), .pick (.tmp (26 : Nat)) (.const (.bool true)) (.tmp (29 : Nat)), none⟩,
  ⟨(some 31), .move (.tmp (30 : Nat)), none⟩,
  ⟨(some 32), .fieldAddr 160 (.tmp (5 : Nat)) 1, (some (31, false))⟩,
  ⟨(some 33), .load 3 (.tmp (32 : Nat)), (some (31, false))⟩,
  ⟨(some 34), .binOp .lss 3 (.tmp (33 : Nat)) (.const (.int .i64 0)) 3, (some (31, false))⟩,
  ⟨(some 35), .pick (.tmp (31 : Nat)) (.const (.bool true)) (.tmp (34 : Nat)), none⟩,
  ⟨(some 36), .move (.tmp (35 : Nat)), none⟩,
  ⟨(some 37), .fieldAddr 160 (.tmp (5 : Nat)) 1, (some (36, false))⟩,
  ⟨(some 38), .load 3 (.tmp (37 : Nat)), (some (36, false))⟩,
  ⟨(some 39), .binOp .gtr 3 (.tmp (38 : Nat)) (.const (.int .i64 65280)) 3, (some (36, false))⟩,
  ⟨(some 40), .pick (.tmp (36 : Nat)) (.const (.bool true)) (.tmp (39 : Nat)), none⟩]
def curve_Check_r10 : List SO := [⟨(some 2), .assign (.const (.int .i64 3)), none⟩]
def curve_Check_r11 : List SO := [⟨(some 41), .move (.tmp (4 : Nat)), none⟩,
  ⟨(some 42), .binOp .gtr 3 (.tmp (41 : Nat)) (.const (.int .i64 0)) 3, none⟩,
  ⟨(some 43), .move (.tmp (42 : Nat)), none⟩,
  ⟨(some 44), .fieldAddr 160 (.tmp (5 : Nat)) 0, (some (43, true))⟩,
  ⟨(some 45), .load 3 (.tmp (44 : Nat)), (some (43, true))⟩,
  ⟨(some 46), .fieldAddr 51 (.tmp (1 : Nat)) 0, (some (43, true))⟩,
  ⟨(some 47), .load 49 (.tmp (46 : Nat)), (some (43, true))⟩,
  ⟨(some 48), .move (.tmp (4 : Nat)), (some (43, true))⟩,
  ⟨(some 49), .binOp .sub 3 (.tmp (48 : Nat)) (.const (.int .i64 1)) 3, (some (43, true))⟩,
  ⟨(some 50), .indexAddr 49 (.tmp (47 : Nat)) (.tmp (49 : Nat)), (some (43, true))⟩,
  ⟨(some 51), .fieldAddr 160 (.tmp (50 : Nat)) 0, (some (43, true))⟩,
  ⟨(some 52), .load 3 (.tmp (51 : Nat)), (some (43, true))⟩,
  ⟨(some 53), .binOp .leq 3 (.tmp (45 : Nat)) (.tmp (52 : Nat)) 3, (some (43, true))⟩,
  ⟨(some 54), .move (.tmp (53 : Nat)), (some (43, true))⟩,
  ⟨(some 55), .fieldAddr 160 (.tmp (5 : Nat)) 1, (some (54, false))⟩,
  ⟨(some 56), .load 3 (.tmp (55 : Nat)), (some (54, false))⟩,
  ⟨(some 57), .fieldAddr 51 (.tmp (1 : Nat)) 0, (some (54, false))⟩,
  ⟨(some 58), .load 49 (.tmp (57 : Nat)), (some (54, false))⟩,
  ⟨(some 59), .move (.tmp (4 : Nat)), (some (54, false))⟩,
  ⟨(some 60), .binOp .sub 3 (.tmp (59 : Nat)) (.const (.int .i64 1)) 3, (some (54, false))⟩,
  ⟨(some 61), .indexAddr 49 (.tmp (58 : Nat)) (.tmp (60 : Nat)), (some (54, false))⟩,
  ⟨(some 62), .fieldAddr 160 (.tmp (61 : Nat)) 1, (some (54, false))⟩,
  ⟨(some 63), .load 3 (.tmp (62 : Nat)), (some (54, false))⟩,
  ⟨(some 64), .binOp .lss 3 (.tmp (56 : Nat)) (.tmp (63 : Nat)) 3, (some (54, false))⟩,
  ⟨(some 65), .pick (.tmp (54 : Nat)) (.const (.bool true)) (.tmp (64 : Nat)), (some (43, true))⟩,
  ⟨(some 66), .pick (.tmp (43 : Nat)) (.tmp (65 : Nat)) (.const (.bool false)), none⟩]
def curve_Check_a11 : List (List Nat) := [[], [0], [1], [2], [3, 2], [2], [5, 2], [2], [7, 2], [6, 8, 2], [9, 2], [10, 2], [4, 11, 2], [12, 2, 2], [13], [14, 13], [13], [16, 13], [13], [18, 13], [17, 19, 13], [20, 13], [21, 13], [15, 22, 13], [13, 23, 2], [2, 24]]
def curve_Check_r12 : List SO := [⟨(some 2), .assign (.const (.int .i64 18)), none⟩]
def curve_Check_r13 : List SO := [⟨(some 67), .binOp .add 3 (.tmp (18 : Nat)) (.const (.int .i64 1)) 3, none⟩,
  ⟨(some 18), .move (.tmp (67 : Nat)), none⟩]
def curve_Check_r14 : List SO := [⟨(some 68), .fieldAddr 51 (.tmp (1 : Nat)) 0, none⟩,
  ⟨(some 69), .load 49 (.tmp (68 : Nat)), none⟩,
  ⟨(some 70), .indexAddr 49 (.tmp (69 : Nat)) (.const (.int .i64 0)), none⟩,
  ⟨(some 71), .fieldAddr 160 (.tmp (70 : Nat)) 0, none⟩,
  ⟨(some 72), .load 3 (.tmp (71 : Nat)), none⟩,
  ⟨(some 73), .binOp .neq 3 (.tmp (72 : Nat)) (.const (.int .i64 0)) 3, none⟩,
  ⟨(some 74), .move (.tmp (73 : Nat)), none⟩,
  ⟨(some 75), .fieldAddr 51 (.tmp (1 : Nat)) 0, (some (74, false))⟩,
  ⟨(some 76), .load 49 (.tmp (75 : Nat)), (some (74, false))⟩,
  ⟨(some 77), .fieldAddr 51 (.tmp (1 : Nat)) 0, (some (74, false))⟩,
  ⟨(some 78), .load 49 (.tmp (77 : Nat)), (some (74, false))⟩,
  ⟨(some 79), .call ⟨(.builtin .len), #[(.tmp (78 : Nat))], #[49]⟩, (some (74, false))⟩,
  ⟨(some 80), .binOp .sub 3 (.tmp (79 : Nat)) (.const (.int .i64 1)) 3, (some (74, false))⟩,
  ⟨(some 81), .indexAddr 49 (.tmp (76 : Nat)) (.tmp (80 : Nat)), (some (74, false))⟩,
  ⟨(some 82), .fieldAddr 160 (.tmp (81 : Nat)) 0, (some (74, false))⟩,
  ⟨(some 83), .load 3 (.tmp (82 : Nat)), (some (74, false))⟩,
  ⟨(some 84), .binOp .neq 3 (.tmp (83 : Nat)) (.const (.int .i64 65280)) 3, (some (74, false))⟩,
  ⟨(some 85), .pick (.tmp (74 : Nat)) (.const (.bool true)) (.tmp (84 : Nat)), none⟩]
def curve_Check_r15 : List SO := [⟨(some 2), .assign (.const (.int .i64 4)), none⟩]
def curve_Check_r16 : List SO := [⟨(some 2), .assign (.const (.int .i64 0)), none⟩]
def curve_Check_c : SF := ⟨86, (.seq (.reg curve_Check_r0)
  (.seq (.seq (.reg curve_Check_r1)
  (.block 0 (.seq (.reg curve_Check_r2)
  (.cond (.tmp (9 : Nat)) (.seq (.reg curve_Check_r3)
  .ret) (.seq (.reg curve_Check_r4)
  (.cond (.tmp (12 : Nat)) (.seq (.reg curve_Check_r5)
  .ret) .skip))))))
  (.seq (.seq (.reg curve_Check_r6)
  (.block 1 (.loop (.seq (.reg curve_Check_r7)
  (.seq (.cond (.tmp (19 : Nat)) .skip (.exit 1))
  (.seq (.block 2 (.seq (.reg curve_Check_r8)
  (.seq (.seq (.reg curve_Check_r9)
  (.cond (.tmp (40 : Nat)) (.seq (.reg curve_Check_r10)
  .ret) .skip))
  (.seq (.regd curve_Check_r11 curve_Check_a11)
  (.cond (.tmp (66 : Nat)) (.seq (.reg curve_Check_r12)
  .ret) .skip)))))
  (.reg curve_Check_r13)))))))
  (.seq (.seq (.reg curve_Check_r14)
  (.cond (.tmp (85 : Nat)) (.seq (.reg curve_Check_r15)
  .ret) .skip))
  (.seq (.reg curve_Check_r16)
  .ret))))), [.tmp 2]⟩
theorem curve_Check_s : slimF Try.prog 66 = some curve_Check_c := by kernel_rfl
abbrev curve_Check_f : Nat := 66
/-- printworks/curve.Raw -/
def curve_Raw_r0 : List SO := [⟨(some 2), .box 51 (.tmp (0 : Nat)), none⟩,
  ⟨(some 4), .assign (.const (.int .i64 0)), none⟩]
def curve_Raw_r1 : List SO := [⟨(some 10), .fieldAddr 51 (.tmp (2 : Nat)) 0, none⟩,
  ⟨(some 11), .load 49 (.tmp (10 : Nat)), none⟩,
  ⟨(some 12), .call ⟨(.builtin .len), #[(.tmp (11 : Nat))], #[49]⟩, none⟩,
  ⟨(some 13), .binOp .sub 3 (.tmp (12 : Nat)) (.const (.int .i64 1)) 3, none⟩,
  ⟨(some 5), .assign (.const (.int .i64 0)), none⟩,
  ⟨(some 6), .assign (.tmp (13 : Nat)), none⟩]
def curve_Raw_a1 : List (List Nat) := [[], [0], [1], [2], [], [3, 4, 0, 1, 2, 3, 4]]
def curve_Raw_r2 : List SO := [⟨(some 14), .move (.tmp (6 : Nat)), none⟩,
  ⟨(some 15), .move (.tmp (5 : Nat)), none⟩,
  ⟨(some 16), .binOp .sub 3 (.tmp (14 : Nat)) (.tmp (15 : Nat)) 3, none⟩,
  ⟨(some 17), .binOp .gtr 3 (.tmp (16 : Nat)) (.const (.int .i64 1)) 3, none⟩]
def curve_Raw_r3 : List SO := [⟨(some 18), .move (.tmp (5 : Nat)), none⟩,
  ⟨(some 19), .move (.tmp (6 : Nat)), none⟩,
  ⟨(some 20), .binOp .add 3 (.tmp (18 : Nat)) (.tmp (19 : Nat)) 3, none⟩,
  ⟨(some 21), .binOp .quo 3 (.tmp (20 : Nat)) (.const (.int .i64 2)) 3, none⟩,
  ⟨(some 7), .assign (.tmp (21 : Nat)), none⟩]
def curve_Raw_r4 : List SO := [⟨(some 22), .fieldAddr 51 (.tmp (2 : Nat)) 0, none⟩,
  ⟨(some 23), .load 49 (.tmp (22 : Nat)), none⟩,
  ⟨(some 24), .move (.tmp (7 : Nat)), none⟩,
  ⟨(some 25), .indexAddr 49 (.tmp (23 : Nat)) (.tmp (24 : Nat)), none⟩,
  ⟨(some 26), .fieldAddr 160 (.tmp (25 : Nat)) 0, none⟩,
  ⟨(some 27), .load 3 (.tmp (26 : Nat)), none⟩,
  ⟨(some 28), .move (.tmp (1 : Nat)), none⟩,
  ⟨(some 29), .binOp .leq 3 (.tmp (27 : Nat)) (.tmp (28 : Nat)) 3, none⟩]
def curve_Raw_r5 : List SO := [⟨(some 30), .move (.tmp (7 : Nat)), none⟩,
  ⟨(some 5), .assign (.tmp (30 : Nat)), none⟩]
def curve_Raw_r6 : List SO := [⟨(some 31), .move (.tmp (7 : Nat)), none⟩,
  ⟨(some 6), .assign (.tmp (31 : Nat)), none⟩]
def curve_Raw_r7 : List SO := [⟨(some 32), .fieldAddr 51 (.tmp (2 : Nat)) 0, none⟩,
  ⟨(some 33), .load 49 (.tmp (32 : Nat)), none⟩,
  ⟨(some 34), .move (.tmp (5 : Nat)), none⟩,
  ⟨(some 35), .indexAddr 49 (.tmp (33 : Nat)) (.tmp (34 : Nat)), none⟩,
  ⟨(some 36), .load 160 (.tmp (35 : Nat)), none⟩,
  ⟨(some 37), .fieldAddr 51 (.tmp (2 : Nat)) 0, none⟩,
  ⟨(some 38), .load 49 (.tmp (37 : Nat)), none⟩,
  ⟨(some 39), .move (.tmp (6 : Nat)), none⟩,
  ⟨(some 40), .indexAddr 49 (.tmp (38 : Nat)) (.tmp (39 : Nat)), none⟩,
  ⟨(some 41), .load 160 (.tmp (40 : Nat)), none⟩,
  ⟨(some 8), .alloc 160, none⟩,
  ⟨(some 9), .alloc 160, none⟩,
  ⟨none, .store 160 (.tmp (8 : Nat)) (.tmp (36 : Nat)), none⟩,
  ⟨none, .store 160 (.tmp (9 : Nat)) (.tmp (41 : Nat)), none⟩]
def curve_Raw_a7 : List (List Nat) := [[], [0], [], [1, 2], [3], [], [5], [], [6, 7], [8], [], [], [10, 4, 0, 1, 2, 3, 4, 10, 11], [11, 9, 12, 0, 1, 2, 3, 4, 5, 6, 7, 8, 9, 10, 11, 12]]
def curve_Raw_r8 : List SO := [⟨(some 42), .fieldAddr 160 (.tmp (8 : Nat)) 1, none⟩,
  ⟨(some 43), .load 3 (.tmp (42 : Nat)), none⟩,
  ⟨(some 44), .fieldAddr 160 (.tmp (9 : Nat)) 1, none⟩,
  ⟨(some 45), .load 3 (.tmp (44 : Nat)), none⟩,
  ⟨(some 46), .fieldAddr 160 (.tmp (8 : Nat)) 1, none⟩,
  ⟨(some 47), .load 3 (.tmp (46 : Nat)), none⟩,
  ⟨(some 48), .binOp .sub 3 (.tmp (45 : Nat)) (.tmp (47 : Nat)) 3, none⟩,
  ⟨(some 49), .move (.tmp (1 : Nat)), none⟩,
  ⟨(some 50), .fieldAddr 160 (.tmp (8 : Nat)) 0, none⟩,
  ⟨(some 51), .load 3 (.tmp (50 : Nat)), none⟩,
  ⟨(some 52), .binOp .sub 3 (.tmp (49 : Nat)) (.tmp (51 : Nat)) 3, none⟩,
  ⟨(some 53), .binOp .mul 3 (.tmp (48 : Nat)) (.tmp (52 : Nat)) 3, none⟩,
  ⟨(some 54), .fieldAddr 160 (.tmp (9 : Nat)) 0, none⟩,
  ⟨(some 55), .load 3 (.tmp (54 : Nat)), none⟩,
  ⟨(some 56), .fieldAddr 160 (.tmp (8 : Nat)) 0, none⟩,
  ⟨(some 57), .load 3 (.tmp (56 : Nat)), none⟩,
  ⟨(some 58), .binOp .sub 3 (.tmp (55 : Nat)) (.tmp (57 : Nat)) 3, none⟩,
  ⟨(some 59), .call ⟨(.value (.func (93 : Nat))), #[(.tmp (53 : Nat)), (.tmp (58 : Nat))], #[3, 3]⟩, none⟩,
  ⟨(some 60), .binOp .add 3 (.tmp (43 : Nat)) (.tmp (59 : Nat)) 3, none⟩,
  ⟨(some 4), .assign (.tmp (60 : Nat)), none⟩]
def curve_Raw_a8 : List (List Nat) := [[], [0], [], [2], [], [4], [3, 5], [], [], [8], [7, 9], [6, 10], [], [12], [], [14], [13, 15], [11, 16], [1, 17], [18, 17, 0, 1, 2, 3, 4, 5, 6, 7, 8, 9, 10, 11, 12, 13, 14, 15, 16, 17, 18]]
def curve_Raw_c : SF := ⟨61, (.seq (.reg curve_Raw_r0)
  (.seq (.regd curve_Raw_r1 curve_Raw_a1)
  (.seq (.block 0 (.loop (.seq (.seq (.reg curve_Raw_r2)
  (.cond (.tmp (17 : Nat)) .skip (.exit 0)))
  (.block 1 (.seq (.reg curve_Raw_r3)
  (.seq (.reg curve_Raw_r4)
  (.cond (.tmp (29 : Nat)) (.reg curve_Raw_r5) (.reg curve_Raw_r6))))))))
  (.seq (.regd curve_Raw_r7 curve_Raw_a7)
  (.seq (.regd curve_Raw_r8 curve_Raw_a8)
  .ret))))), [.tmp 4]⟩
theorem curve_Raw_s : slimF Try.prog 67 = some curve_Raw_c := by kernel_rfl
abbrev curve_Raw_f : Nat := 67
/-- printworks/curve.Nearest -/
def curve_Nearest_r0 : List SO := [⟨(some 4), .assign (.const (.int .i64 0)), none⟩]
def curve_Nearest_r1 : List SO := [⟨(some 6), .move (.tmp (0 : Nat)), none⟩,
  ⟨(some 7), .binOp .mul 3 (.const (.int .i64 2)) (.tmp (6 : Nat)) 3, none⟩,
  ⟨(some 8), .move (.tmp (1 : Nat)), none⟩,
  ⟨(some 9), .binOp .add 3 (.tmp (7 : Nat)) (.tmp (8 : Nat)) 3, none⟩,
  ⟨(some 10), .move (.tmp (1 : Nat)), none⟩,
  ⟨(some 11), .binOp .mul 3 (.const (.int .i64 2)) (.tmp (10 : Nat)) 3, none⟩,
  ⟨(some 0), .assign (.tmp (9 : Nat)), none⟩,
  ⟨(some 1), .assign (.tmp (11 : Nat)), none⟩]
def curve_Nearest_r2 : List SO := [⟨(some 12), .move (.tmp (0 : Nat)), none⟩,
  ⟨(some 13), .move (.tmp (1 : Nat)), none⟩,
  ⟨(some 14), .binOp .quo 3 (.tmp (12 : Nat)) (.tmp (13 : Nat)) 3, none⟩,
  ⟨(some 5), .assign (.tmp (14 : Nat)), none⟩]
def curve_Nearest_r3 : List SO := [⟨(some 15), .move (.tmp (0 : Nat)), none⟩,
  ⟨(some 16), .move (.tmp (1 : Nat)), none⟩,
  ⟨(some 17), .binOp .rem 3 (.tmp (15 : Nat)) (.tmp (16 : Nat)) 3, none⟩,
  ⟨(some 18), .binOp .lss 3 (.tmp (17 : Nat)) (.const (.int .i64 0)) 3, none⟩]
def curve_Nearest_r4 : List SO := [⟨(some 19), .move (.tmp (5 : Nat)), none⟩,
  ⟨(some 20), .binOp .sub 3 (.tmp (19 : Nat)) (.const (.int .i64 1)) 3, none⟩,
  ⟨(some 5), .assign (.tmp (20 : Nat)), none⟩]
def curve_Nearest_r5 : List SO := [⟨(some 21), .move (.tmp (5 : Nat)), none⟩,
  ⟨(some 4), .assign (.tmp (21 : Nat)), none⟩]
def curve_Nearest_c : SF := ⟨22, (.seq (.reg curve_Nearest_r0)
  (.seq (.reg curve_Nearest_r1)
  (.seq (.reg curve_Nearest_r2)
  (.seq (.seq (.reg curve_Nearest_r3)
  (.cond (.tmp (18 : Nat)) (.reg curve_Nearest_r4) .skip))
  (.seq (.reg curve_Nearest_r5)
  .ret))))), [.tmp 4]⟩
theorem curve_Nearest_s : slimF Try.prog 93 = some curve_Nearest_c := by kernel_rfl
abbrev curve_Nearest_f : Nat := 93

def tbl_curve : List (Nat × SF) := [(28, curve_At_c), (66, curve_Check_c), (67, curve_Raw_c), (93, curve_Nearest_c)]
theorem tbl_curve_ok : okT Try.prog tbl_curve := ⟨curve_At_s, curve_Check_s, curve_Raw_s, curve_Nearest_s, trivial⟩

end Go.Proofs.Ythnfbdihihhoiaa
namespace Go.Proofs.Ythnfbdihihhoiaa
open Go Go.Lite
set_option linter.unusedVariables false

/-- printworks/grid.Check -/
def grid_Check_r0 : List SO := [⟨(some 1), .box 24 (.tmp (0 : Nat)), none⟩,
  ⟨(some 2), .assign (.const (.int .i64 0)), none⟩]
def grid_Check_r1 : List SO := [⟨(some 8), .fieldAddr 24 (.tmp (1 : Nat)) 0, none⟩,
  ⟨(some 9), .load 3 (.tmp (8 : Nat)), none⟩,
  ⟨(some 10), .fieldAddr 24 (.tmp (1 : Nat)) 1, none⟩,
  ⟨(some 11), .load 3 (.tmp (10 : Nat)), none⟩,
  ⟨(some 12), .fieldAddr 24 (.tmp (1 : Nat)) 2, none⟩,
  ⟨(some 13), .load 3 (.tmp (12 : Nat)), none⟩,
  ⟨(some 14), .call ⟨(.value (.func (50 : Nat))), #[(.tmp (9 : Nat)), (.tmp (11 : Nat)), (.tmp (13 : Nat))], #[3, 3, 3]⟩, none⟩,
  ⟨(some 7), .move (.tmp (14 : Nat)), none⟩,
  ⟨(some 15), .extract (.tmp (7 : Nat)) 0, none⟩,
  ⟨(some 16), .extract (.tmp (7 : Nat)) 1, none⟩,
  ⟨(some 3), .assign (.tmp (15 : Nat)), none⟩,
  ⟨(some 4), .assign (.tmp (16 : Nat)), none⟩]
def grid_Check_r2 : List SO := [⟨(some 17), .move (.tmp (4 : Nat)), none⟩,
  ⟨(some 18), .binOp .neq 26 (.tmp (17 : Nat)) (.const (.int .i64 0)) 26, none⟩]
def grid_Check_r3 : List SO := [⟨(some 19), .move (.tmp (4 : Nat)), none⟩,
  ⟨(some 2), .assign (.tmp (19 : Nat)), none⟩]
def grid_Check_r4 : List SO := [⟨(some 20), .fieldAddr 24 (.tmp (1 : Nat)) 3, none⟩,
  ⟨(some 21), .load 22 (.tmp (20 : Nat)), none⟩,
  ⟨(some 22), .call ⟨(.builtin .len), #[(.tmp (21 : Nat))], #[22]⟩, none⟩,
  ⟨(some 23), .move (.tmp (3 : Nat)), none⟩,
  ⟨(some 24), .fieldAddr 24 (.tmp (1 : Nat)) 1, none⟩,
  ⟨(some 25), .load 3 (.tmp (24 : Nat)), none⟩,
  ⟨(some 26), .binOp .mul 3 (.tmp (23 : Nat)) (.tmp (25 : Nat)) 3, none⟩,
  ⟨(some 27), .binOp .neq 3 (.tmp (22 : Nat)) (.tmp (26 : Nat)) 3, none⟩]
def grid_Check_r5 : List SO := [⟨(some 2), .assign (.const (.int .i64 4)), none⟩]
def grid_Check_r6 : List SO := [⟨(some 28), .fieldAddr 24 (.tmp (1 : Nat)) 3, none⟩,
  ⟨(some 29), .load 22 (.tmp (28 : Nat)), none⟩,
  ⟨(some 30), .call ⟨(.builtin .len), #[(.tmp (29 : Nat))], #[22]⟩, none⟩,
  ⟨(some 31), .move (.const (.int .i64 0)), none⟩]
def grid_Check_r7 : List SO := [⟨(some 32), .binOp .lss 3 (.tmp (31 : Nat)) (.tmp (30 : Nat)) 3, none⟩]
def grid_Check_r8 : List SO := [⟨(some 33), .indexAddr 22 (.tmp (29 : Nat)) (.tmp (31 : Nat)), none⟩,
  ⟨(some 34), .load 3 (.tmp (33 : Nat)), none⟩,
  ⟨(some 6), .assign (.tmp (34 : Nat)), none⟩]
def grid_Check_r9 : List SO := [⟨(some 35), .move (.tmp (6 : Nat)), none⟩,
  ⟨(some 36), .binOp .lss 3 (.tmp (35 : Nat)) (.const (.int .i64 (-32768))) 3, none⟩,
  ⟨(some 37), .move (.tmp (36 : Nat)), none⟩,
  ⟨(some 38), .move (.tmp (6 : Nat)), (some (37, false))⟩,
  ⟨(some 39), .binOp .gtr 3 (.tmp (38 : Nat)) (.const (.int .i64 65535)) 3, (some (37, false))⟩,
  ⟨(some 40), .pick (.tmp (37 : Nat)) (.const (.bool true)) (.tmp (39 : Nat)), none⟩]
def grid_Check_r10 : List SO := [⟨(some 2), .assign (.const (.int .i64 3)), none⟩]
def grid_Check_r11 : List SO := [⟨(some 41), .binOp .add 3 (.tmp (31 : Nat)) (.const (.int .i64 1)) 3, none⟩,
  ⟨(some 31), .move (.tmp (41 : Nat)), none⟩]
def grid_Check_r12 : List SO := [⟨(some 2), .assign (.const (.int .i64 0)), none⟩]
def grid_Check_c : SF := ⟨42, (.seq (.reg grid_Check_r0)
  (.seq (.reg grid_Check_r1)
  (.seq (.seq (.reg grid_Check_r2)
  (.cond (.tmp (18 : Nat)) (.seq (.reg grid_Check_r3)
  .ret) .skip))
  (.seq (.seq (.reg grid_Check_r4)
  (.cond (.tmp (27 : Nat)) (.seq (.reg grid_Check_r5)
  .ret) .skip))
  (.seq (.seq (.reg grid_Check_r6)
  (.block 0 (.loop (.seq (.reg grid_Check_r7)
  (.seq (.cond (.tmp (32 : Nat)) .skip (.exit 0))
  (.seq (.block 1 (.seq (.reg grid_Check_r8)
  (.seq (.reg grid_Check_r9)
  (.cond (.tmp (40 : Nat)) (.seq (.reg grid_Check_r10)
  .ret) .skip))))
  (.reg grid_Check_r11)))))))
  (.seq (.reg grid_Check_r12)
  .ret)))))), [.tmp 2]⟩
theorem grid_Check_s : slimF Try.prog 16 = some grid_Check_c := by kernel_rfl
abbrev grid_Check_f : Nat := 16
/-- printworks/grid.Bounds -/
def grid_Bounds_r0 : List SO := [⟨(some 3), .box 24 (.tmp (0 : Nat)), none⟩,
  ⟨(some 6), .assign (.const (.slice none 0 0)), none⟩,
  ⟨(some 7), .assign (.const (.slice none 0 0)), none⟩,
  ⟨(some 8), .assign (.const (.int .i64 0)), none⟩]
def grid_Bounds_r1 : List SO := [⟨(some 15), .load 24 (.tmp (3 : Nat)), none⟩,
  ⟨(some 16), .call ⟨(.value (.func (16 : Nat))), #[(.tmp (15 : Nat))], #[24]⟩, none⟩,
  ⟨(some 9), .assign (.tmp (16 : Nat)), none⟩]
def grid_Bounds_r2 : List SO := [⟨(some 17), .move (.tmp (9 : Nat)), none⟩,
  ⟨(some 18), .binOp .neq 26 (.tmp (17 : Nat)) (.const (.int .i64 0)) 26, none⟩]
def grid_Bounds_r3 : List SO := [⟨(some 19), .move (.tmp (9 : Nat)), none⟩,
  ⟨(some 6), .assign (.const (.slice none 0 0)), none⟩,
  ⟨(some 7), .assign (.const (.slice none 0 0)), none⟩,
  ⟨(some 8), .assign (.tmp (19 : Nat)), none⟩]
def grid_Bounds_r4 : List SO := [⟨(some 20), .move (.tmp (1 : Nat)), none⟩,
  ⟨(some 21), .call ⟨(.value (.func (52 : Nat))), #[(.tmp (3 : Nat)), (.tmp (20 : Nat))], #[99, 22]⟩, none⟩,
  ⟨(some 10), .assign (.tmp (21 : Nat)), none⟩]
def grid_Bounds_r5 : List SO := [⟨(some 22), .move (.tmp (10 : Nat)), none⟩,
  ⟨(some 23), .binOp .neq 26 (.tmp (22 : Nat)) (.const (.int .i64 0)) 26, none⟩]
def grid_Bounds_r6 : List SO := [⟨(some 24), .move (.tmp (10 : Nat)), none⟩,
  ⟨(some 6), .assign (.const (.slice none 0 0)), none⟩,
  ⟨(some 7), .assign (.const (.slice none 0 0)), none⟩,
  ⟨(some 8), .assign (.tmp (24 : Nat)), none⟩]
def grid_Bounds_r7 : List SO := [⟨(some 25), .move (.tmp (2 : Nat)), none⟩,
  ⟨(some 26), .call ⟨(.value (.func (52 : Nat))), #[(.tmp (3 : Nat)), (.tmp (25 : Nat))], #[99, 22]⟩, none⟩,
  ⟨(some 11), .assign (.tmp (26 : Nat)), none⟩]
def grid_Bounds_r8 : List SO := [⟨(some 27), .move (.tmp (11 : Nat)), none⟩,
  ⟨(some 28), .binOp .neq 26 (.tmp (27 : Nat)) (.const (.int .i64 0)) 26, none⟩]
def grid_Bounds_r9 : List SO := [⟨(some 29), .move (.tmp (11 : Nat)), none⟩,
  ⟨(some 6), .assign (.const (.slice none 0 0)), none⟩,
  ⟨(some 7), .assign (.const (.slice none 0 0)), none⟩,
  ⟨(some 8), .assign (.tmp (29 : Nat)), none⟩]
def grid_Bounds_r10 : List SO := [⟨(some 30), .move (.tmp (1 : Nat)), none⟩,
  ⟨(some 31), .call ⟨(.builtin .len), #[(.tmp (30 : Nat))], #[22]⟩, none⟩,
  ⟨(some 32), .move (.const (.int .i64 0)), none⟩]
def grid_Bounds_r11 : List SO := [⟨(some 33), .binOp .lss 3 (.tmp (32 : Nat)) (.tmp (31 : Nat)) 3, none⟩]
def grid_Bounds_r12 : List SO := [⟨(some 34), .move (.tmp (32 : Nat)), none⟩,
  ⟨(some 12), .assign (.tmp (34 : Nat)), none⟩]
def grid_Bounds_r13 : List SO := [⟨(some 35), .move (.tmp (1 : Nat)), none⟩,
  ⟨(some 36), .move (.tmp (12 : Nat)), none⟩,
  ⟨(some 37), .indexAddr 22 (.tmp (35 : Nat)) (.tmp (36 : Nat)), none⟩,
  ⟨(some 38), .load 3 (.tmp (37 : Nat)), none⟩,
  ⟨(some 39), .move (.tmp (2 : Nat)), none⟩,
  ⟨(some 40), .move (.tmp (12 : Nat)), none⟩,
  ⟨(some 41), .indexAddr 22 (.tmp (39 : Nat)) (.tmp (40 : Nat)), none⟩,
  ⟨(some 42), .load 3 (.tmp (41 : Nat)), none⟩,
  ⟨(some 43), .binOp .gtr 3 (.tmp (38 : Nat)) (.tmp (42 : Nat)) 3, none⟩]
def grid_Bounds_a13 : List (List Nat) := [[], [], [0, 1], [2], [], [], [4, 5], [6], [3, 7]]
def grid_Bounds_r14 : List SO := [⟨(some 6), .assign (.const (.slice none 0 0)), none⟩,
  ⟨(some 7), .assign (.const (.slice none 0 0)), none⟩,
  ⟨(some 8), .assign (.const (.int .i64 18)), none⟩]
def grid_Bounds_r15 : List SO := [⟨(some 44), .binOp .add 3 (.tmp (32 : Nat)) (.const (.int .i64 1)) 3, none⟩,
  ⟨(some 32), .move (.tmp (44 : Nat)), none⟩]
def grid_Bounds_r16 : List SO := [⟨(some 46), .move (.tmp (1 : Nat)), none⟩,
  ⟨(some 47), .move (.tmp (2 : Nat)), none⟩,
  ⟨(some 48), .call ⟨(.value (.func (53 : Nat))), #[(.tmp (3 : Nat)), (.tmp (46 : Nat)), (.tmp (47 : Nat))], #[99, 22, 22]⟩, none⟩,
  ⟨(some 45), .move (.tmp (48 : Nat)), none⟩,
  ⟨(some 49), .extract (.tmp (45 : Nat)) 0, none⟩,
  ⟨(some 50), .extract (.tmp (45 : Nat)) 1, none⟩,
  ⟨(some 13), .assign (.tmp (49 : Nat)), none⟩,
  ⟨(some 14), .assign (.tmp (50 : Nat)), none⟩]
def grid_Bounds_r17 : List SO := [⟨(some 51), .move (.tmp (13 : Nat)), none⟩,
  ⟨(some 52), .move (.tmp (14 : Nat)), none⟩,
  ⟨(some 6), .assign (.tmp (51 : Nat)), none⟩,
  ⟨(some 7), .assign (.tmp (52 : Nat)), none⟩,
  ⟨(some 8), .assign (.const (.int .i64 0)), none⟩]
def grid_Bounds_c : SF := ⟨53, (.seq (.reg grid_Bounds_r0)
  (.seq (.seq (.reg grid_Bounds_r1)
  (.seq (.reg grid_Bounds_r2)
  (.cond (.tmp (18 : Nat)) (.seq (.reg grid_Bounds_r3)
  .ret) .skip)))
  (.seq (.seq (.reg grid_Bounds_r4)
  (.seq (.reg grid_Bounds_r5)
  (.cond (.tmp (23 : Nat)) (.seq (.reg grid_Bounds_r6)
  .ret) .skip)))
  (.seq (.seq (.reg grid_Bounds_r7)
  (.seq (.reg grid_Bounds_r8)
  (.cond (.tmp (28 : Nat)) (.seq (.reg grid_Bounds_r9)
  .ret) .skip)))
  (.seq (.seq (.reg grid_Bounds_r10)
  (.block 0 (.loop (.seq (.reg grid_Bounds_r11)
  (.seq (.cond (.tmp (33 : Nat)) .skip (.exit 0))
  (.seq (.block 1 (.seq (.reg grid_Bounds_r12)
  (.seq (.regd grid_Bounds_r13 grid_Bounds_a13)
  (.cond (.tmp (43 : Nat)) (.seq (.reg grid_Bounds_r14)
  .ret) .skip))))
  (.reg grid_Bounds_r15)))))))
  (.seq (.reg grid_Bounds_r16)
  (.seq (.reg grid_Bounds_r17)
  .ret))))))), [.tmp 6, .tmp 7, .tmp 8]⟩
theorem grid_Bounds_s : slimF Try.prog 18 = some grid_Bounds_c := by kernel_rfl
abbrev grid_Bounds_f : Nat := 18
/-- printworks/grid.At -/
def grid_At_r0 : List SO := [⟨(some 2), .box 24 (.tmp (0 : Nat)), none⟩,
  ⟨(some 4), .assign (.const (.slice none 0 0)), none⟩,
  ⟨(some 5), .assign (.const (.int .i64 0)), none⟩]
def grid_At_r1 : List SO := [⟨(some 8), .load 24 (.tmp (2 : Nat)), none⟩,
  ⟨(some 9), .call ⟨(.value (.func (16 : Nat))), #[(.tmp (8 : Nat))], #[24]⟩, none⟩,
  ⟨(some 6), .assign (.tmp (9 : Nat)), none⟩]
def grid_At_r2 : List SO := [⟨(some 10), .move (.tmp (6 : Nat)), none⟩,
  ⟨(some 11), .binOp .neq 26 (.tmp (10 : Nat)) (.const (.int .i64 0)) 26, none⟩]
def grid_At_r3 : List SO := [⟨(some 12), .move (.tmp (6 : Nat)), none⟩,
  ⟨(some 4), .assign (.const (.slice none 0 0)), none⟩,
  ⟨(some 5), .assign (.tmp (12 : Nat)), none⟩]
def grid_At_r4 : List SO := [⟨(some 13), .move (.tmp (1 : Nat)), none⟩,
  ⟨(some 14), .call ⟨(.value (.func (52 : Nat))), #[(.tmp (2 : Nat)), (.tmp (13 : Nat))], #[99, 22]⟩, none⟩,
  ⟨(some 7), .assign (.tmp (14 : Nat)), none⟩]
def grid_At_r5 : List SO := [⟨(some 15), .move (.tmp (7 : Nat)), none⟩,
  ⟨(some 16), .binOp .neq 26 (.tmp (15 : Nat)) (.const (.int .i64 0)) 26, none⟩]
def grid_At_r6 : List SO := [⟨(some 17), .move (.tmp (7 : Nat)), none⟩,
  ⟨(some 4), .assign (.const (.slice none 0 0)), none⟩,
  ⟨(some 5), .assign (.tmp (17 : Nat)), none⟩]
def grid_At_r7 : List SO := [⟨(some 18), .move (.tmp (1 : Nat)), none⟩,
  ⟨(some 19), .call ⟨(.value (.func (54 : Nat))), #[(.tmp (2 : Nat)), (.tmp (18 : Nat))], #[99, 22]⟩, none⟩,
  ⟨(some 4), .assign (.tmp (19 : Nat)), none⟩,
  ⟨(some 5), .assign (.const (.int .i64 0)), none⟩]
def grid_At_c : SF := ⟨20, (.seq (.reg grid_At_r0)
  (.seq (.seq (.reg grid_At_r1)
  (.seq (.reg grid_At_r2)
  (.cond (.tmp (11 : Nat)) (.seq (.reg grid_At_r3)
  .ret) .skip)))
  (.seq (.seq (.reg grid_At_r4)
  (.seq (.reg grid_At_r5)
  (.cond (.tmp (16 : Nat)) (.seq (.reg grid_At_r6)
  .ret) .skip)))
  (.seq (.reg grid_At_r7)
  .ret)))), [.tmp 4, .tmp 5]⟩
theorem grid_At_s : slimF Try.prog 19 = some grid_At_c := by kernel_rfl
abbrev grid_At_f : Nat := 19
/-- printworks/grid.Scaled -/
def grid_Scaled_r0 : List SO := [⟨(some 2), .box 24 (.tmp (0 : Nat)), none⟩,
  ⟨(some 4), .assign (.const (.slice none 0 0)), none⟩,
  ⟨(some 5), .assign (.const (.int .i64 0)), none⟩]
def grid_Scaled_r1 : List SO := [⟨(some 8), .load 24 (.tmp (2 : Nat)), none⟩,
  ⟨(some 9), .call ⟨(.value (.func (16 : Nat))), #[(.tmp (8 : Nat))], #[24]⟩, none⟩,
  ⟨(some 6), .assign (.tmp (9 : Nat)), none⟩]
def grid_Scaled_r2 : List SO := [⟨(some 10), .move (.tmp (6 : Nat)), none⟩,
  ⟨(some 11), .binOp .neq 26 (.tmp (10 : Nat)) (.const (.int .i64 0)) 26, none⟩]
def grid_Scaled_r3 : List SO := [⟨(some 12), .move (.tmp (6 : Nat)), none⟩,
  ⟨(some 4), .assign (.const (.slice none 0 0)), none⟩,
  ⟨(some 5), .assign (.tmp (12 : Nat)), none⟩]
def grid_Scaled_r4 : List SO := [⟨(some 13), .move (.tmp (1 : Nat)), none⟩,
  ⟨(some 14), .call ⟨(.value (.func (52 : Nat))), #[(.tmp (2 : Nat)), (.tmp (13 : Nat))], #[99, 22]⟩, none⟩,
  ⟨(some 7), .assign (.tmp (14 : Nat)), none⟩]
def grid_Scaled_r5 : List SO := [⟨(some 15), .move (.tmp (7 : Nat)), none⟩,
  ⟨(some 16), .binOp .neq 26 (.tmp (15 : Nat)) (.const (.int .i64 0)) 26, none⟩]
def grid_Scaled_r6 : List SO := [⟨(some 17), .move (.tmp (7 : Nat)), none⟩,
  ⟨(some 4), .assign (.const (.slice none 0 0)), none⟩,
  ⟨(some 5), .assign (.tmp (17 : Nat)), none⟩]
def grid_Scaled_r7 : List SO := [⟨(some 18), .move (.tmp (1 : Nat)), none⟩,
  ⟨(some 19), .call ⟨(.value (.func (55 : Nat))), #[(.tmp (2 : Nat)), (.tmp (18 : Nat))], #[99, 22]⟩, none⟩,
  ⟨(some 4), .assign (.tmp (19 : Nat)), none⟩,
  ⟨(some 5), .assign (.const (.int .i64 0)), none⟩]
def grid_Scaled_c : SF := ⟨20, (.seq (.reg grid_Scaled_r0)
  (.seq (.seq (.reg grid_Scaled_r1)
  (.seq (.reg grid_Scaled_r2)
  (.cond (.tmp (11 : Nat)) (.seq (.reg grid_Scaled_r3)
  .ret) .skip)))
  (.seq (.seq (.reg grid_Scaled_r4)
  (.seq (.reg grid_Scaled_r5)
  (.cond (.tmp (16 : Nat)) (.seq (.reg grid_Scaled_r6)
  .ret) .skip)))
  (.seq (.reg grid_Scaled_r7)
  .ret)))), [.tmp 4, .tmp 5]⟩
theorem grid_Scaled_s : slimF Try.prog 22 = some grid_Scaled_c := by kernel_rfl
abbrev grid_Scaled_f : Nat := 22
/-- printworks/grid.Resample -/
def grid_Resample_r0 : List SO := [⟨(some 2), .box 24 (.tmp (0 : Nat)), none⟩,
  ⟨(some 4), .alloc 24, none⟩,
  ⟨(some 5), .assign (.const (.int .i64 0)), none⟩]
def grid_Resample_r1 : List SO := [⟨(some 10), .load 24 (.tmp (2 : Nat)), none⟩,
  ⟨(some 11), .call ⟨(.value (.func (16 : Nat))), #[(.tmp (10 : Nat))], #[24]⟩, none⟩,
  ⟨(some 6), .assign (.tmp (11 : Nat)), none⟩]
def grid_Resample_r2 : List SO := [⟨(some 12), .move (.tmp (6 : Nat)), none⟩,
  ⟨(some 13), .binOp .neq 26 (.tmp (12 : Nat)) (.const (.int .i64 0)) 26, none⟩]
def grid_Resample_r3 : List SO := [⟨(some 14), .build 24 #[], none⟩,
  ⟨(some 15), .move (.tmp (6 : Nat)), none⟩,
  ⟨none, .store 24 (.tmp (4 : Nat)) (.tmp (14 : Nat)), none⟩,
  ⟨(some 5), .assign (.tmp (15 : Nat)), none⟩]
def grid_Resample_r4 : List SO := [⟨(some 17), .fieldAddr 24 (.tmp (2 : Nat)) 0, none⟩,
  ⟨(some 18), .load 3 (.tmp (17 : Nat)), none⟩,
  ⟨(some 19), .fieldAddr 24 (.tmp (2 : Nat)) 1, none⟩,
  ⟨(some 20), .load 3 (.tmp (19 : Nat)), none⟩,
  ⟨(some 21), .move (.tmp (1 : Nat)), none⟩,
  ⟨(some 22), .call ⟨(.value (.func (50 : Nat))), #[(.tmp (18 : Nat)), (.tmp (20 : Nat)), (.tmp (21 : Nat))], #[3, 3, 3]⟩, none⟩,
  ⟨(some 16), .move (.tmp (22 : Nat)), none⟩,
  ⟨(some 23), .extract (.tmp (16 : Nat)) 0, none⟩,
  ⟨(some 24), .extract (.tmp (16 : Nat)) 1, none⟩,
  ⟨(some 7), .assign (.tmp (23 : Nat)), none⟩,
  ⟨(some 8), .assign (.tmp (24 : Nat)), none⟩]
def grid_Resample_r5 : List SO := [⟨(some 25), .move (.tmp (8 : Nat)), none⟩,
  ⟨(some 26), .binOp .neq 26 (.tmp (25 : Nat)) (.const (.int .i64 0)) 26, none⟩]
def grid_Resample_r6 : List SO := [⟨(some 27), .build 24 #[], none⟩,
  ⟨(some 28), .move (.tmp (8 : Nat)), none⟩,
  ⟨none, .store 24 (.tmp (4 : Nat)) (.tmp (27 : Nat)), none⟩,
  ⟨(some 5), .assign (.tmp (28 : Nat)), none⟩]
def grid_Resample_r7 : List SO := [⟨(some 29), .move (.tmp (1 : Nat)), none⟩,
  ⟨(some 30), .binOp .sub 3 (.tmp (29 : Nat)) (.const (.int .i64 1)) 3, none⟩,
  ⟨(some 31), .binOp .quo 3 (.const (.int .i64 65280)) (.tmp (30 : Nat)) 3, none⟩,
  ⟨(some 9), .alloc 3, none⟩,
  ⟨none, .store 3 (.tmp (9 : Nat)) (.tmp (31 : Nat)), none⟩]
def grid_Resample_r8 : List SO := [⟨(some 32), .fieldAddr 24 (.tmp (2 : Nat)) 0, none⟩,
  ⟨(some 33), .load 3 (.tmp (32 : Nat)), none⟩,
  ⟨(some 34), .fieldAddr 24 (.tmp (2 : Nat)) 1, none⟩,
  ⟨(some 35), .load 3 (.tmp (34 : Nat)), none⟩,
  ⟨(some 36), .move (.tmp (1 : Nat)), none⟩,
  ⟨(some 37), .makeFunc (.func (57 : Nat)) #[] #[(.tmp (9 : Nat)), (.tmp (2 : Nat))], none⟩,
  ⟨(some 38), .call ⟨(.value (.func (56 : Nat))), #[(.tmp (33 : Nat)), (.tmp (35 : Nat)), (.tmp (36 : Nat)), (.tmp (37 : Nat))], #[3, 3, 3, 104]⟩, none⟩,
  ⟨(some 39), .extract (.tmp (38 : Nat)) 0, none⟩,
  ⟨(some 40), .extract (.tmp (38 : Nat)) 1, none⟩,
  ⟨none, .store 24 (.tmp (4 : Nat)) (.tmp (39 : Nat)), none⟩,
  ⟨(some 5), .assign (.tmp (40 : Nat)), none⟩]
def grid_Resample_c : SF := ⟨41, (.seq (.reg grid_Resample_r0)
  (.seq (.seq (.reg grid_Resample_r1)
  (.seq (.reg grid_Resample_r2)
  (.cond (.tmp (13 : Nat)) (.seq (.reg grid_Resample_r3)
  .ret) .skip)))
  (.seq (.seq (.reg grid_Resample_r4)
  (.seq (.reg grid_Resample_r5)
  (.cond (.tmp (26 : Nat)) (.seq (.reg grid_Resample_r6)
  .ret) .skip)))
  (.seq (.reg grid_Resample_r7)
  (.seq (.reg grid_Resample_r8)
  .ret))))), [.cell 4 24, .tmp 5]⟩
theorem grid_Resample_s : slimF Try.prog 25 = some grid_Resample_c := by kernel_rfl
abbrev grid_Resample_f : Nat := 25
/-- printworks/grid.Node -/
def grid_Node_r0 : List SO := [⟨(some 2), .box 24 (.tmp (0 : Nat)), none⟩,
  ⟨(some 4), .assign (.const (.slice none 0 0)), none⟩,
  ⟨(some 5), .assign (.const (.int .i64 0)), none⟩]
def grid_Node_r1 : List SO := [⟨(some 10), .load 24 (.tmp (2 : Nat)), none⟩,
  ⟨(some 11), .call ⟨(.value (.func (16 : Nat))), #[(.tmp (10 : Nat))], #[24]⟩, none⟩,
  ⟨(some 6), .assign (.tmp (11 : Nat)), none⟩]
def grid_Node_r2 : List SO := [⟨(some 12), .move (.tmp (6 : Nat)), none⟩,
  ⟨(some 13), .binOp .neq 26 (.tmp (12 : Nat)) (.const (.int .i64 0)) 26, none⟩]
def grid_Node_r3 : List SO := [⟨(some 14), .move (.tmp (6 : Nat)), none⟩,
  ⟨(some 4), .assign (.const (.slice none 0 0)), none⟩,
  ⟨(some 5), .assign (.tmp (14 : Nat)), none⟩]
def grid_Node_r4 : List SO := [⟨(some 15), .move (.tmp (1 : Nat)), none⟩,
  ⟨(some 16), .call ⟨(.builtin .len), #[(.tmp (15 : Nat))], #[22]⟩, none⟩,
  ⟨(some 17), .fieldAddr 24 (.tmp (2 : Nat)) 0, none⟩,
  ⟨(some 18), .load 3 (.tmp (17 : Nat)), none⟩,
  ⟨(some 19), .binOp .neq 3 (.tmp (16 : Nat)) (.tmp (18 : Nat)) 3, none⟩]
def grid_Node_r5 : List SO := [⟨(some 4), .assign (.const (.slice none 0 0)), none⟩,
  ⟨(some 5), .assign (.const (.int .i64 4)), none⟩]
def grid_Node_r6 : List SO := [⟨(some 20), .move (.tmp (1 : Nat)), none⟩,
  ⟨(some 21), .call ⟨(.builtin .len), #[(.tmp (20 : Nat))], #[22]⟩, none⟩,
  ⟨(some 22), .move (.const (.int .i64 0)), none⟩]
def grid_Node_r7 : List SO := [⟨(some 23), .binOp .lss 3 (.tmp (22 : Nat)) (.tmp (21 : Nat)) 3, none⟩]
def grid_Node_r8 : List SO := [⟨(some 24), .indexAddr 22 (.tmp (20 : Nat)) (.tmp (22 : Nat)), none⟩,
  ⟨(some 25), .load 3 (.tmp (24 : Nat)), none⟩,
  ⟨(some 8), .assign (.tmp (25 : Nat)), none⟩]
def grid_Node_r9 : List SO := [⟨(some 26), .move (.tmp (8 : Nat)), none⟩,
  ⟨(some 27), .binOp .lss 3 (.tmp (26 : Nat)) (.const (.int .i64 0)) 3, none⟩,
  ⟨(some 28), .move (.tmp (27 : Nat)), none⟩,
  ⟨(some 29), .move (.tmp (8 : Nat)), (some (28, false))⟩,
  ⟨(some 30), .fieldAddr 24 (.tmp (2 : Nat)) 2, (some (28, false))⟩,
  ⟨(some 31), .load 3 (.tmp (30 : Nat)), (some (28, false))⟩,
  ⟨(some 32), .binOp .geq 3 (.tmp (29 : Nat)) (.tmp (31 : Nat)) 3, (some (28, false))⟩,
  ⟨(some 33), .pick (.tmp (28 : Nat)) (.const (.bool true)) (.tmp (32 : Nat)), none⟩]
def grid_Node_r10 : List SO := [⟨(some 4), .assign (.const (.slice none 0 0)), none⟩,
  ⟨(some 5), .assign (.const (.int .i64 3)), none⟩]
def grid_Node_r11 : List SO := [⟨(some 34), .binOp .add 3 (.tmp (22 : Nat)) (.const (.int .i64 1)) 3, none⟩,
  ⟨(some 22), .move (.tmp (34 : Nat)), none⟩]
def grid_Node_r12 : List SO := [⟨(some 35), .move (.tmp (1 : Nat)), none⟩,
  ⟨(some 36), .call ⟨(.value (.func (92 : Nat))), #[(.tmp (2 : Nat)), (.tmp (35 : Nat))], #[99, 22]⟩, none⟩,
  ⟨(some 9), .assign (.tmp (36 : Nat)), none⟩]
def grid_Node_r13 : List SO := [⟨(some 37), .fieldAddr 24 (.tmp (2 : Nat)) 3, none⟩,
  ⟨(some 38), .load 22 (.tmp (37 : Nat)), none⟩,
  ⟨(some 39), .move (.tmp (9 : Nat)), none⟩,
  ⟨(some 40), .move (.tmp (9 : Nat)), none⟩,
  ⟨(some 41), .fieldAddr 24 (.tmp (2 : Nat)) 1, none⟩,
  ⟨(some 42), .load 3 (.tmp (41 : Nat)), none⟩,
  ⟨(some 43), .binOp .add 3 (.tmp (40 : Nat)) (.tmp (42 : Nat)) 3, none⟩,
  ⟨(some 44), .slice 22 (.tmp (38 : Nat)) (some (.tmp (39 : Nat))) (some (.tmp (43 : Nat))) none, none⟩,
  ⟨(some 45), .call ⟨(.builtin .append), #[(.const (.slice none 0 0)), (.tmp (44 : Nat))], #[22, 22]⟩, none⟩,
  ⟨(some 4), .assign (.tmp (45 : Nat)), none⟩,
  ⟨(some 5), .assign (.const (.int .i64 0)), none⟩]
def grid_Node_c : SF := ⟨46, (.seq (.reg grid_Node_r0)
  (.seq (.seq (.reg grid_Node_r1)
  (.seq (.reg grid_Node_r2)
  (.cond (.tmp (13 : Nat)) (.seq (.reg grid_Node_r3)
  .ret) .skip)))
  (.seq (.seq (.reg grid_Node_r4)
  (.cond (.tmp (19 : Nat)) (.seq (.reg grid_Node_r5)
  .ret) .skip))
  (.seq (.seq (.reg grid_Node_r6)
  (.block 0 (.loop (.seq (.reg grid_Node_r7)
  (.seq (.cond (.tmp (23 : Nat)) .skip (.exit 0))
  (.seq (.block 1 (.seq (.reg grid_Node_r8)
  (.seq (.reg grid_Node_r9)
  (.cond (.tmp (33 : Nat)) (.seq (.reg grid_Node_r10)
  .ret) .skip))))
  (.reg grid_Node_r11)))))))
  (.seq (.reg grid_Node_r12)
  (.seq (.reg grid_Node_r13)
  .ret)))))), [.tmp 4, .tmp 5]⟩
theorem grid_Node_s : slimF Try.prog 49 = some grid_Node_c := by kernel_rfl
abbrev grid_Node_f : Nat := 49
/-- printworks/grid.nodes -/
def grid_nodes_r0 : List SO := [⟨(some 6), .assign (.const (.int .i64 0)), none⟩,
  ⟨(some 7), .assign (.const (.int .i64 0)), none⟩]
def grid_nodes_r1 : List SO := [⟨(some 9), .move (.tmp (0 : Nat)), none⟩,
  ⟨(some 10), .binOp .lss 3 (.tmp (9 : Nat)) (.const (.int .i64 1)) 3, none⟩,
  ⟨(some 11), .move (.tmp (10 : Nat)), none⟩,
  ⟨(some 12), .move (.tmp (0 : Nat)), (some (11, false))⟩,
  ⟨(some 13), .binOp .gtr 3 (.tmp (12 : Nat)) (.const (.int .i64 4)) 3, (some (11, false))⟩,
  ⟨(some 14), .pick (.tmp (11 : Nat)) (.const (.bool true)) (.tmp (13 : Nat)), none⟩,
  ⟨(some 15), .move (.tmp (14 : Nat)), none⟩,
  ⟨(some 16), .move (.tmp (1 : Nat)), (some (15, false))⟩,
  ⟨(some 17), .binOp .lss 3 (.tmp (16 : Nat)) (.const (.int .i64 1)) 3, (some (15, false))⟩,
  ⟨(some 18), .pick (.tmp (15 : Nat)) (.const (.bool true)) (.tmp (17 : Nat)), none⟩,
  ⟨(some 19), .move (.tmp (18 : Nat)), none⟩,
  ⟨(some 20), .move (.tmp (1 : Nat)), (some (19, false))⟩,
  ⟨(some 21), .binOp .gtr 3 (.tmp (20 : Nat)) (.const (.int .i64 8)) 3, (some (19, false))⟩,
  ⟨(some 22), .pick (.tmp (19 : Nat)) (.const (.bool true)) (.tmp (21 : Nat)), none⟩]
def grid_nodes_r2 : List SO := [⟨(some 6), .assign (.const (.int .i64 0)), none⟩,
  ⟨(some 7), .assign (.const (.int .i64 3)), none⟩]
def grid_nodes_r3 : List SO := [⟨(some 23), .move (.tmp (2 : Nat)), none⟩]
def grid_nodes_r4 : List SO := [⟨(some 25), .binOp .eql 3 (.tmp (23 : Nat)) (.const (.int .i64 2)) 3, none⟩,
  ⟨(some 24), .assign (.tmp (25 : Nat)), none⟩]
def grid_nodes_r5 : List SO := [⟨(some 26), .binOp .eql 3 (.tmp (23 : Nat)) (.const (.int .i64 3)) 3, none⟩,
  ⟨(some 24), .assign (.tmp (26 : Nat)), none⟩]
def grid_nodes_r6 : List SO := [⟨(some 27), .binOp .eql 3 (.tmp (23 : Nat)) (.const (.int .i64 4)) 3, none⟩,
  ⟨(some 24), .assign (.tmp (27 : Nat)), none⟩]
def grid_nodes_r7 : List SO := [⟨(some 28), .binOp .eql 3 (.tmp (23 : Nat)) (.const (.int .i64 5)) 3, none⟩,
  ⟨(some 24), .assign (.tmp (28 : Nat)), none⟩]
def grid_nodes_r8 : List SO := [⟨(some 29), .binOp .eql 3 (.tmp (23 : Nat)) (.const (.int .i64 6)) 3, none⟩,
  ⟨(some 24), .assign (.tmp (29 : Nat)), none⟩]
def grid_nodes_r9 : List SO := [⟨(some 30), .binOp .eql 3 (.tmp (23 : Nat)) (.const (.int .i64 7)) 3, none⟩,
  ⟨(some 24), .assign (.tmp (30 : Nat)), none⟩]
def grid_nodes_r10 : List SO := [⟨(some 31), .binOp .eql 3 (.tmp (23 : Nat)) (.const (.int .i64 9)) 3, none⟩,
  ⟨(some 24), .assign (.tmp (31 : Nat)), none⟩]
def grid_nodes_r11 : List SO := [⟨(some 6), .assign (.const (.int .i64 0)), none⟩,
  ⟨(some 7), .assign (.const (.int .i64 3)), none⟩]
def grid_nodes_r12 : List SO := [⟨(some 8), .assign (.const (.int .i64 1)), none⟩]
def grid_nodes_r13 : List SO := [⟨(some 32), .move (.tmp (0 : Nat)), none⟩,
  ⟨(some 33), .move (.const (.int .i64 0)), none⟩]
def grid_nodes_r14 : List SO := [⟨(some 34), .binOp .lss 3 (.tmp (33 : Nat)) (.tmp (32 : Nat)) 3, none⟩]
def grid_nodes_r15 : List SO := [⟨(some 35), .move (.tmp (8 : Nat)), none⟩,
  ⟨(some 36), .move (.tmp (2 : Nat)), none⟩,
  ⟨(some 37), .binOp .mul 3 (.tmp (35 : Nat)) (.tmp (36 : Nat)) 3, none⟩,
  ⟨(some 8), .assign (.tmp (37 : Nat)), none⟩]
def grid_nodes_r16 : List SO := [⟨(some 38), .binOp .add 3 (.tmp (33 : Nat)) (.const (.int .i64 1)) 3, none⟩,
  ⟨(some 33), .move (.tmp (38 : Nat)), none⟩]
def grid_nodes_r17 : List SO := [⟨(some 39), .move (.tmp (8 : Nat)), none⟩,
  ⟨(some 40), .move (.tmp (1 : Nat)), none⟩,
  ⟨(some 41), .binOp .mul 3 (.tmp (39 : Nat)) (.tmp (40 : Nat)) 3, none⟩,
  ⟨(some 42), .binOp .gtr 3 (.tmp (41 : Nat)) (.const (.int .i64 32768)) 3, none⟩]
def grid_nodes_r18 : List SO := [⟨(some 6), .assign (.const (.int .i64 0)), none⟩,
  ⟨(some 7), .assign (.const (.int .i64 2)), none⟩]
def grid_nodes_r19 : List SO := [⟨(some 43), .move (.tmp (8 : Nat)), none⟩,
  ⟨(some 6), .assign (.tmp (43 : Nat)), none⟩,
  ⟨(some 7), .assign (.const (.int .i64 0)), none⟩]
def grid_nodes_c : SF := ⟨44, (.seq (.reg grid_nodes_r0)
  (.seq (.seq (.reg grid_nodes_r1)
  (.cond (.tmp (22 : Nat)) (.seq (.reg grid_nodes_r2)
  .ret) .skip))
  (.seq (.seq (.reg grid_nodes_r3)
  (.block 0 (.seq (.seq (.reg grid_nodes_r4)
  (.cond (.tmp (24 : Nat)) .skip (.seq (.reg grid_nodes_r5)
  (.cond (.tmp (24 : Nat)) .skip (.seq (.reg grid_nodes_r6)
  (.cond (.tmp (24 : Nat)) .skip (.seq (.reg grid_nodes_r7)
  (.cond (.tmp (24 : Nat)) .skip (.seq (.reg grid_nodes_r8)
  (.cond (.tmp (24 : Nat)) .skip (.seq (.reg grid_nodes_r9)
  (.cond (.tmp (24 : Nat)) .skip (.reg grid_nodes_r10)))))))))))))
  (.cond (.tmp (24 : Nat)) .skip (.seq (.reg grid_nodes_r11)
  .ret)))))
  (.seq (.reg grid_nodes_r12)
  (.seq (.seq (.reg grid_nodes_r13)
  (.block 1 (.loop (.seq (.reg grid_nodes_r14)
  (.seq (.cond (.tmp (34 : Nat)) .skip (.exit 1))
  (.seq (.block 2 (.reg grid_nodes_r15))
  (.reg grid_nodes_r16)))))))
  (.seq (.seq (.reg grid_nodes_r17)
  (.cond (.tmp (42 : Nat)) (.seq (.reg grid_nodes_r18)
  .ret) .skip))
  (.seq (.reg grid_nodes_r19)
  .ret))))))), [.tmp 6, .tmp 7]⟩
theorem grid_nodes_s : slimF Try.prog 50 = some grid_nodes_c := by kernel_rfl
abbrev grid_nodes_f : Nat := 50
/-- printworks/grid.inputs -/
def grid_inputs_r0 : List SO := [⟨(some 4), .assign (.const (.int .i64 0)), none⟩]
def grid_inputs_r1 : List SO := [⟨(some 7), .move (.tmp (1 : Nat)), none⟩,
  ⟨(some 8), .call ⟨(.builtin .len), #[(.tmp (7 : Nat))], #[22]⟩, none⟩,
  ⟨(some 9), .move (.tmp (0 : Nat)), none⟩,
  ⟨(some 10), .nilCheck (.tmp (9 : Nat)), none⟩,
  ⟨(some 11), .fieldAddr 24 (.tmp (10 : Nat)) 0, none⟩,
  ⟨(some 12), .load 3 (.tmp (11 : Nat)), none⟩,
  ⟨(some 13), .binOp .neq 3 (.tmp (8 : Nat)) (.tmp (12 : Nat)) 3, none⟩]
def grid_inputs_r2 : List SO := [⟨(some 4), .assign (.const (.int .i64 4)), none⟩]
def grid_inputs_r3 : List SO := [⟨(some 14), .move (.tmp (1 : Nat)), none⟩,
  ⟨(some 15), .call ⟨(.builtin .len), #[(.tmp (14 : Nat))], #[22]⟩, none⟩,
  ⟨(some 16), .move (.const (.int .i64 0)), none⟩]
def grid_inputs_r4 : List SO := [⟨(some 17), .binOp .lss 3 (.tmp (16 : Nat)) (.tmp (15 : Nat)) 3, none⟩]
def grid_inputs_r5 : List SO := [⟨(some 18), .indexAddr 22 (.tmp (14 : Nat)) (.tmp (16 : Nat)), none⟩,
  ⟨(some 19), .load 3 (.tmp (18 : Nat)), none⟩,
  ⟨(some 6), .assign (.tmp (19 : Nat)), none⟩]
def grid_inputs_r6 : List SO := [⟨(some 20), .move (.tmp (6 : Nat)), none⟩,
  ⟨(some 21), .binOp .lss 3 (.tmp (20 : Nat)) (.const (.int .i64 0)) 3, none⟩,
  ⟨(some 22), .move (.tmp (21 : Nat)), none⟩,
  ⟨(some 23), .move (.tmp (6 : Nat)), (some (22, false))⟩,
  ⟨(some 24), .binOp .gtr 3 (.tmp (23 : Nat)) (.const (.int .i64 65280)) 3, (some (22, false))⟩,
  ⟨(some 25), .pick (.tmp (22 : Nat)) (.const (.bool true)) (.tmp (24 : Nat)), none⟩]
def grid_inputs_r7 : List SO := [⟨(some 4), .assign (.const (.int .i64 3)), none⟩]
def grid_inputs_r8 : List SO := [⟨(some 26), .binOp .add 3 (.tmp (16 : Nat)) (.const (.int .i64 1)) 3, none⟩,
  ⟨(some 16), .move (.tmp (26 : Nat)), none⟩]
def grid_inputs_r9 : List SO := [⟨(some 4), .assign (.const (.int .i64 0)), none⟩]
def grid_inputs_c : SF := ⟨27, (.seq (.reg grid_inputs_r0)
  (.seq (.seq (.reg grid_inputs_r1)
  (.cond (.tmp (13 : Nat)) (.seq (.reg grid_inputs_r2)
  .ret) .skip))
  (.seq (.seq (.reg grid_inputs_r3)
  (.block 0 (.loop (.seq (.reg grid_inputs_r4)
  (.seq (.cond (.tmp (17 : Nat)) .skip (.exit 0))
  (.seq (.block 1 (.seq (.reg grid_inputs_r5)
  (.seq (.reg grid_inputs_r6)
  (.cond (.tmp (25 : Nat)) (.seq (.reg grid_inputs_r7)
  .ret) .skip))))
  (.reg grid_inputs_r8)))))))
  (.seq (.reg grid_inputs_r9)
  .ret)))), [.tmp 4]⟩
theorem grid_inputs_s : slimF Try.prog 52 = some grid_inputs_c := by kernel_rfl
abbrev grid_inputs_f : Nat := 52
/-- printworks/grid.Hull -/
def grid_Hull_r0 : List SO := [⟨(some 6), .assign (.const (.slice none 0 0)), none⟩,
  ⟨(some 7), .assign (.const (.slice none 0 0)), none⟩]
def grid_Hull_r1 : List SO := [⟨(some 20), .move (.tmp (0 : Nat)), none⟩,
  ⟨(some 21), .nilCheck (.tmp (20 : Nat)), none⟩,
  ⟨(some 22), .fieldAddr 24 (.tmp (21 : Nat)) 2, none⟩,
  ⟨(some 23), .load 3 (.tmp (22 : Nat)), none⟩,
  ⟨(some 24), .binOp .sub 3 (.tmp (23 : Nat)) (.const (.int .i64 1)) 3, none⟩,
  ⟨(some 25), .binOp .quo 3 (.const (.int .i64 65280)) (.tmp (24 : Nat)) 3, none⟩,
  ⟨(some 8), .assign (.tmp (25 : Nat)), none⟩]
def grid_Hull_r2 : List SO := [⟨(some 9), .alloc 156, none⟩,
  ⟨(some 10), .alloc 156, none⟩,
  ⟨(some 11), .alloc 156, none⟩]
def grid_Hull_r3 : List SO := [⟨(some 26), .move (.tmp (1 : Nat)), none⟩,
  ⟨(some 27), .call ⟨(.builtin .len), #[(.tmp (26 : Nat))], #[22]⟩, none⟩,
  ⟨(some 28), .move (.const (.int .i64 0)), none⟩]
def grid_Hull_r4 : List SO := [⟨(some 29), .binOp .lss 3 (.tmp (28 : Nat)) (.tmp (27 : Nat)) 3, none⟩]
def grid_Hull_r5 : List SO := [⟨(some 30), .move (.tmp (28 : Nat)), none⟩,
  ⟨(some 12), .assign (.tmp (30 : Nat)), none⟩]
def grid_Hull_r6 : List SO := [⟨(some 31), .move (.tmp (12 : Nat)), none⟩,
  ⟨(some 32), .move (.tmp (12 : Nat)), none⟩,
  ⟨(some 33), .move (.tmp (1 : Nat)), none⟩,
  ⟨(some 34), .move (.tmp (12 : Nat)), none⟩,
  ⟨(some 35), .indexAddr 22 (.tmp (33 : Nat)) (.tmp (34 : Nat)), none⟩,
  ⟨(some 36), .load 3 (.tmp (35 : Nat)), none⟩,
  ⟨(some 37), .move (.tmp (8 : Nat)), none⟩,
  ⟨(some 38), .binOp .quo 3 (.tmp (36 : Nat)) (.tmp (37 : Nat)) 3, none⟩,
  ⟨(some 39), .move (.tmp (2 : Nat)), none⟩,
  ⟨(some 40), .move (.tmp (12 : Nat)), none⟩,
  ⟨(some 41), .indexAddr 22 (.tmp (39 : Nat)) (.tmp (40 : Nat)), none⟩,
  ⟨(some 42), .load 3 (.tmp (41 : Nat)), none⟩,
  ⟨(some 43), .move (.tmp (8 : Nat)), none⟩,
  ⟨(some 44), .binOp .add 3 (.tmp (42 : Nat)) (.tmp (43 : Nat)) 3, none⟩,
  ⟨(some 45), .binOp .sub 3 (.tmp (44 : Nat)) (.const (.int .i64 1)) 3, none⟩,
  ⟨(some 46), .move (.tmp (8 : Nat)), none⟩,
  ⟨(some 47), .binOp .quo 3 (.tmp (45 : Nat)) (.tmp (46 : Nat)) 3, none⟩,
  ⟨(some 48), .indexAddr 156 (.tmp (9 : Nat)) (.tmp (31 : Nat)), none⟩,
  ⟨none, .store 3 (.tmp (48 : Nat)) (.tmp (38 : Nat)), none⟩,
  ⟨(some 49), .indexAddr 156 (.tmp (10 : Nat)) (.tmp (32 : Nat)), none⟩,
  ⟨none, .store 3 (.tmp (49 : Nat)) (.tmp (47 : Nat)), none⟩]
def grid_Hull_a6 : List (List Nat) := [[], [], [], [], [2, 3], [4], [], [5, 6], [], [], [8, 9], [10], [], [11, 12], [13], [], [14, 15], [0, 0, 2, 3, 4, 5, 6, 7], [17, 7, 0, 2, 3, 4, 5, 6, 7], [1, 0, 1, 2, 3, 4, 5, 6, 7, 8, 9, 10, 11, 12, 13, 14, 15, 16, 17, 18], [19, 16, 18, 0, 1, 2, 3, 4, 5, 6, 7, 8, 9, 10, 11, 12, 13, 14, 15, 16, 17, 18]]
def grid_Hull_r7 : List SO := [⟨(some 50), .binOp .add 3 (.tmp (28 : Nat)) (.const (.int .i64 1)) 3, none⟩,
  ⟨(some 28), .move (.tmp (50 : Nat)), none⟩]
def grid_Hull_r8 : List SO := [⟨(some 51), .load 156 (.tmp (9 : Nat)), none⟩,
  ⟨none, .store 156 (.tmp (11 : Nat)) (.tmp (51 : Nat)), none⟩]
def grid_Hull_r9 : List SO := [⟨(some 52), .move (.tmp (0 : Nat)), none⟩,
  ⟨(some 53), .nilCheck (.tmp (52 : Nat)), none⟩,
  ⟨(some 54), .fieldAddr 24 (.tmp (53 : Nat)) 1, none⟩,
  ⟨(some 55), .load 3 (.tmp (54 : Nat)), none⟩,
  ⟨(some 56), .makeSlice 22 (.tmp (55 : Nat)) (.tmp (55 : Nat)), none⟩,
  ⟨(some 57), .move (.tmp (0 : Nat)), none⟩,
  ⟨(some 58), .nilCheck (.tmp (57 : Nat)), none⟩,
  ⟨(some 59), .fieldAddr 24 (.tmp (58 : Nat)) 1, none⟩,
  ⟨(some 60), .load 3 (.tmp (59 : Nat)), none⟩,
  ⟨(some 61), .makeSlice 22 (.tmp (60 : Nat)) (.tmp (60 : Nat)), none⟩,
  ⟨(some 13), .assign (.tmp (56 : Nat)), none⟩,
  ⟨(some 14), .assign (.tmp (61 : Nat)), none⟩]
def grid_Hull_a9 : List (List Nat) := [[], [0], [1], [2], [3, 3], [], [5], [6], [7], [8, 8], [4, 0, 1, 2, 3, 4], [9, 10, 0, 1, 2, 3, 4, 5, 6, 7, 8, 9, 10]]
def grid_Hull_r10 : List SO := [⟨(some 15), .assign (.const (.bool true)), none⟩]
def grid_Hull_r11 : List SO := [⟨(some 62), .move (.tmp (0 : Nat)), none⟩,
  ⟨(some 63), .move (.tmp (0 : Nat)), none⟩,
  ⟨(some 64), .nilCheck (.tmp (63 : Nat)), none⟩,
  ⟨(some 65), .fieldAddr 24 (.tmp (64 : Nat)) 0, none⟩,
  ⟨(some 66), .load 3 (.tmp (65 : Nat)), none⟩,
  ⟨(some 67), .slice 156 (.tmp (11 : Nat)) none (some (.tmp (66 : Nat))) none, none⟩,
  ⟨(some 68), .call ⟨(.value (.func (92 : Nat))), #[(.tmp (62 : Nat)), (.tmp (67 : Nat))], #[99, 22]⟩, none⟩,
  ⟨(some 16), .assign (.tmp (68 : Nat)), none⟩]
def grid_Hull_r12 : List SO := [⟨(some 69), .move (.tmp (0 : Nat)), none⟩,
  ⟨(some 70), .nilCheck (.tmp (69 : Nat)), none⟩,
  ⟨(some 71), .fieldAddr 24 (.tmp (70 : Nat)) 1, none⟩,
  ⟨(some 72), .load 3 (.tmp (71 : Nat)), none⟩,
  ⟨(some 73), .move (.const (.int .i64 0)), none⟩]
def grid_Hull_r13 : List SO := [⟨(some 74), .binOp .lss 3 (.tmp (73 : Nat)) (.tmp (72 : Nat)) 3, none⟩]
def grid_Hull_r14 : List SO := [⟨(some 75), .move (.tmp (73 : Nat)), none⟩,
  ⟨(some 17), .assign (.tmp (75 : Nat)), none⟩]
def grid_Hull_r15 : List SO := [⟨(some 76), .move (.tmp (0 : Nat)), none⟩,
  ⟨(some 77), .nilCheck (.tmp (76 : Nat)), none⟩,
  ⟨(some 78), .fieldAddr 24 (.tmp (77 : Nat)) 3, none⟩,
  ⟨(some 79), .load 22 (.tmp (78 : Nat)), none⟩,
  ⟨(some 80), .move (.tmp (16 : Nat)), none⟩,
  ⟨(some 81), .move (.tmp (17 : Nat)), none⟩,
  ⟨(some 82), .binOp .add 3 (.tmp (80 : Nat)) (.tmp (81 : Nat)) 3, none⟩,
  ⟨(some 83), .indexAddr 22 (.tmp (79 : Nat)) (.tmp (82 : Nat)), none⟩,
  ⟨(some 84), .load 3 (.tmp (83 : Nat)), none⟩,
  ⟨(some 18), .assign (.tmp (84 : Nat)), none⟩]
def grid_Hull_r16 : List SO := [⟨(some 85), .move (.tmp (15 : Nat)), none⟩,
  ⟨(some 86), .move (.tmp (85 : Nat)), none⟩,
  ⟨(some 87), .move (.tmp (18 : Nat)), (some (86, false))⟩,
  ⟨(some 88), .move (.tmp (13 : Nat)), (some (86, false))⟩,
  ⟨(some 89), .move (.tmp (17 : Nat)), (some (86, false))⟩,
  ⟨(some 90), .indexAddr 22 (.tmp (88 : Nat)) (.tmp (89 : Nat)), (some (86, false))⟩,
  ⟨(some 91), .load 3 (.tmp (90 : Nat)), (some (86, false))⟩,
  ⟨(some 92), .binOp .lss 3 (.tmp (87 : Nat)) (.tmp (91 : Nat)) 3, (some (86, false))⟩,
  ⟨(some 93), .pick (.tmp (86 : Nat)) (.const (.bool true)) (.tmp (92 : Nat)), none⟩]
def grid_Hull_r17 : List SO := [⟨(some 94), .move (.tmp (13 : Nat)), none⟩,
  ⟨(some 95), .move (.tmp (17 : Nat)), none⟩,
  ⟨(some 96), .move (.tmp (18 : Nat)), none⟩,
  ⟨(some 97), .indexAddr 22 (.tmp (94 : Nat)) (.tmp (95 : Nat)), none⟩,
  ⟨none, .store 3 (.tmp (97 : Nat)) (.tmp (96 : Nat)), none⟩]
def grid_Hull_r18 : List SO := [⟨(some 98), .move (.tmp (15 : Nat)), none⟩,
  ⟨(some 99), .move (.tmp (98 : Nat)), none⟩,
  ⟨(some 100), .move (.tmp (18 : Nat)), (some (99, false))⟩,
  ⟨(some 101), .move (.tmp (14 : Nat)), (some (99, false))⟩,
  ⟨(some 102), .move (.tmp (17 : Nat)), (some (99, false))⟩,
  ⟨(some 103), .indexAddr 22 (.tmp (101 : Nat)) (.tmp (102 : Nat)), (some (99, false))⟩,
  ⟨(some 104), .load 3 (.tmp (103 : Nat)), (some (99, false))⟩,
  ⟨(some 105), .binOp .gtr 3 (.tmp (100 : Nat)) (.tmp (104 : Nat)) 3, (some (99, false))⟩,
  ⟨(some 106), .pick (.tmp (99 : Nat)) (.const (.bool true)) (.tmp (105 : Nat)), none⟩]
def grid_Hull_r19 : List SO := [⟨(some 107), .move (.tmp (14 : Nat)), none⟩,
  ⟨(some 108), .move (.tmp (17 : Nat)), none⟩,
  ⟨(some 109), .move (.tmp (18 : Nat)), none⟩,
  ⟨(some 110), .indexAddr 22 (.tmp (107 : Nat)) (.tmp (108 : Nat)), none⟩,
  ⟨none, .store 3 (.tmp (110 : Nat)) (.tmp (109 : Nat)), none⟩]
def grid_Hull_r20 : List SO := [⟨(some 111), .binOp .add 3 (.tmp (73 : Nat)) (.const (.int .i64 1)) 3, none⟩,
  ⟨(some 73), .move (.tmp (111 : Nat)), none⟩]
def grid_Hull_r21 : List SO := [⟨(some 15), .assign (.const (.bool false)), none⟩]
def grid_Hull_r22 : List SO := [⟨(some 112), .move (.tmp (0 : Nat)), none⟩,
  ⟨(some 113), .nilCheck (.tmp (112 : Nat)), none⟩,
  ⟨(some 114), .fieldAddr 24 (.tmp (113 : Nat)) 0, none⟩,
  ⟨(some 115), .load 3 (.tmp (114 : Nat)), none⟩,
  ⟨(some 116), .binOp .sub 3 (.tmp (115 : Nat)) (.const (.int .i64 1)) 3, none⟩,
  ⟨(some 19), .assign (.tmp (116 : Nat)), none⟩]
def grid_Hull_r23 : List SO := [⟨(some 117), .move (.tmp (19 : Nat)), none⟩,
  ⟨(some 118), .binOp .geq 3 (.tmp (117 : Nat)) (.const (.int .i64 0)) 3, none⟩,
  ⟨(some 119), .move (.tmp (118 : Nat)), none⟩,
  ⟨(some 120), .move (.tmp (19 : Nat)), (some (119, true))⟩,
  ⟨(some 121), .indexAddr 156 (.tmp (11 : Nat)) (.tmp (120 : Nat)), (some (119, true))⟩,
  ⟨(some 122), .load 3 (.tmp (121 : Nat)), (some (119, true))⟩,
  ⟨(some 123), .move (.tmp (19 : Nat)), (some (119, true))⟩,
  ⟨(some 124), .indexAddr 156 (.tmp (10 : Nat)) (.tmp (123 : Nat)), (some (119, true))⟩,
  ⟨(some 125), .load 3 (.tmp (124 : Nat)), (some (119, true))⟩,
  ⟨(some 126), .binOp .eql 3 (.tmp (122 : Nat)) (.tmp (125 : Nat)) 3, (some (119, true))⟩,
  ⟨(some 127), .pick (.tmp (119 : Nat)) (.tmp (126 : Nat)) (.const (.bool false)), none⟩]
def grid_Hull_a23 : List (List Nat) := [[], [0], [1], [2], [3, 2], [4, 2], [2], [6, 2], [7, 2], [5, 8, 2], [2, 9]]
def grid_Hull_r24 : List SO := [⟨(some 128), .move (.tmp (19 : Nat)), none⟩,
  ⟨(some 129), .move (.tmp (19 : Nat)), none⟩,
  ⟨(some 130), .indexAddr 156 (.tmp (9 : Nat)) (.tmp (129 : Nat)), none⟩,
  ⟨(some 131), .load 3 (.tmp (130 : Nat)), none⟩,
  ⟨(some 132), .indexAddr 156 (.tmp (11 : Nat)) (.tmp (128 : Nat)), none⟩,
  ⟨none, .store 3 (.tmp (132 : Nat)) (.tmp (131 : Nat)), none⟩]
def grid_Hull_r25 : List SO := [⟨(some 133), .move (.tmp (19 : Nat)), none⟩,
  ⟨(some 134), .binOp .sub 3 (.tmp (133 : Nat)) (.const (.int .i64 1)) 3, none⟩,
  ⟨(some 19), .assign (.tmp (134 : Nat)), none⟩]
def grid_Hull_r26 : List SO := [⟨(some 135), .move (.tmp (19 : Nat)), none⟩,
  ⟨(some 136), .binOp .lss 3 (.tmp (135 : Nat)) (.const (.int .i64 0)) 3, none⟩]
def grid_Hull_r27 : List SO := [⟨(some 137), .move (.tmp (13 : Nat)), none⟩,
  ⟨(some 138), .move (.tmp (14 : Nat)), none⟩,
  ⟨(some 6), .assign (.tmp (137 : Nat)), none⟩,
  ⟨(some 7), .assign (.tmp (138 : Nat)), none⟩]
def grid_Hull_r28 : List SO := [⟨(some 139), .move (.tmp (19 : Nat)), none⟩,
  ⟨(some 140), .indexAddr 156 (.tmp (11 : Nat)) (.tmp (139 : Nat)), none⟩,
  ⟨(some 141), .load 3 (.tmp (140 : Nat)), none⟩,
  ⟨(some 142), .binOp .add 3 (.tmp (141 : Nat)) (.const (.int .i64 1)) 3, none⟩,
  ⟨(some 143), .indexAddr 156 (.tmp (11 : Nat)) (.tmp (139 : Nat)), none⟩,
  ⟨none, .store 3 (.tmp (143 : Nat)) (.tmp (142 : Nat)), none⟩]
def grid_Hull_c : SF := ⟨144, (.seq (.reg grid_Hull_r0)
  (.seq (.reg grid_Hull_r1)
  (.seq (.reg grid_Hull_r2)
  (.seq (.seq (.reg grid_Hull_r3)
  (.block 0 (.loop (.seq (.reg grid_Hull_r4)
  (.seq (.cond (.tmp (29 : Nat)) .skip (.exit 0))
  (.seq (.block 1 (.seq (.reg grid_Hull_r5)
  (.regd grid_Hull_r6 grid_Hull_a6)))
  (.reg grid_Hull_r7)))))))
  (.seq (.reg grid_Hull_r8)
  (.seq (.regd grid_Hull_r9 grid_Hull_a9)
  (.seq (.reg grid_Hull_r10)
  (.block 2 (.loop (.block 3 (.seq (.reg grid_Hull_r11)
  (.seq (.seq (.reg grid_Hull_r12)
  (.block 4 (.loop (.seq (.reg grid_Hull_r13)
  (.seq (.cond (.tmp (74 : Nat)) .skip (.exit 4))
  (.seq (.block 5 (.seq (.reg grid_Hull_r14)
  (.seq (.reg grid_Hull_r15)
  (.seq (.seq (.reg grid_Hull_r16)
  (.cond (.tmp (93 : Nat)) (.reg grid_Hull_r17) .skip))
  (.seq (.reg grid_Hull_r18)
  (.cond (.tmp (106 : Nat)) (.reg grid_Hull_r19) .skip))))))
  (.reg grid_Hull_r20)))))))
  (.seq (.reg grid_Hull_r21)
  (.seq (.reg grid_Hull_r22)
  (.seq (.block 6 (.loop (.seq (.seq (.regd grid_Hull_r23 grid_Hull_a23)
  (.cond (.tmp (127 : Nat)) .skip (.exit 6)))
  (.block 7 (.seq (.reg grid_Hull_r24)
  (.reg grid_Hull_r25))))))
  (.seq (.seq (.reg grid_Hull_r26)
  (.cond (.tmp (136 : Nat)) (.seq (.reg grid_Hull_r27)
  .ret) .skip))
  (.reg grid_Hull_r28))))))))))))))))), [.tmp 6, .tmp 7]⟩
theorem grid_Hull_s : slimF Try.prog 53 = some grid_Hull_c := by kernel_rfl
abbrev grid_Hull_f : Nat := 53
/-- printworks/grid.Quick -/
def grid_Quick_r0 : List SO := [⟨(some 4), .assign (.const (.slice none 0 0)), none⟩]
def grid_Quick_r1 : List SO := [⟨(some 9), .move (.tmp (0 : Nat)), none⟩,
  ⟨(some 10), .nilCheck (.tmp (9 : Nat)), none⟩,
  ⟨(some 11), .fieldAddr 24 (.tmp (10 : Nat)) 2, none⟩,
  ⟨(some 12), .load 3 (.tmp (11 : Nat)), none⟩,
  ⟨(some 13), .binOp .sub 3 (.tmp (12 : Nat)) (.const (.int .i64 1)) 3, none⟩,
  ⟨(some 14), .binOp .quo 3 (.const (.int .i64 65280)) (.tmp (13 : Nat)) 3, none⟩,
  ⟨(some 5), .assign (.tmp (14 : Nat)), none⟩]
def grid_Quick_r2 : List SO := [⟨(some 15), .move (.tmp (0 : Nat)), none⟩,
  ⟨(some 16), .move (.tmp (1 : Nat)), none⟩,
  ⟨(some 17), .call ⟨(.value (.func (55 : Nat))), #[(.tmp (15 : Nat)), (.tmp (16 : Nat))], #[99, 22]⟩, none⟩,
  ⟨(some 6), .assign (.tmp (17 : Nat)), none⟩]
def grid_Quick_r3 : List SO := [⟨(some 18), .move (.tmp (6 : Nat)), none⟩,
  ⟨(some 19), .call ⟨(.builtin .len), #[(.tmp (18 : Nat))], #[22]⟩, none⟩,
  ⟨(some 20), .move (.const (.int .i64 0)), none⟩]
def grid_Quick_r4 : List SO := [⟨(some 21), .binOp .lss 3 (.tmp (20 : Nat)) (.tmp (19 : Nat)) 3, none⟩]
def grid_Quick_r5 : List SO := [⟨(some 22), .move (.tmp (20 : Nat)), none⟩,
  ⟨(some 23), .indexAddr 22 (.tmp (18 : Nat)) (.tmp (20 : Nat)), none⟩,
  ⟨(some 24), .load 3 (.tmp (23 : Nat)), none⟩,
  ⟨(some 7), .assign (.tmp (22 : Nat)), none⟩,
  ⟨(some 8), .assign (.tmp (24 : Nat)), none⟩]
def grid_Quick_r6 : List SO := [⟨(some 25), .move (.tmp (6 : Nat)), none⟩,
  ⟨(some 26), .move (.tmp (7 : Nat)), none⟩,
  ⟨(some 27), .move (.tmp (8 : Nat)), none⟩,
  ⟨(some 28), .move (.tmp (5 : Nat)), none⟩,
  ⟨(some 29), .call ⟨(.value (.func (93 : Nat))), #[(.tmp (27 : Nat)), (.tmp (28 : Nat))], #[3, 3]⟩, none⟩,
  ⟨(some 30), .indexAddr 22 (.tmp (25 : Nat)) (.tmp (26 : Nat)), none⟩,
  ⟨none, .store 3 (.tmp (30 : Nat)) (.tmp (29 : Nat)), none⟩]
def grid_Quick_r7 : List SO := [⟨(some 31), .binOp .add 3 (.tmp (20 : Nat)) (.const (.int .i64 1)) 3, none⟩,
  ⟨(some 20), .move (.tmp (31 : Nat)), none⟩]
def grid_Quick_r8 : List SO := [⟨(some 32), .move (.tmp (6 : Nat)), none⟩,
  ⟨(some 4), .assign (.tmp (32 : Nat)), none⟩]
def grid_Quick_c : SF := ⟨33, (.seq (.reg grid_Quick_r0)
  (.seq (.reg grid_Quick_r1)
  (.seq (.reg grid_Quick_r2)
  (.seq (.seq (.reg grid_Quick_r3)
  (.block 0 (.loop (.seq (.reg grid_Quick_r4)
  (.seq (.cond (.tmp (21 : Nat)) .skip (.exit 0))
  (.seq (.block 1 (.seq (.reg grid_Quick_r5)
  (.reg grid_Quick_r6)))
  (.reg grid_Quick_r7)))))))
  (.seq (.reg grid_Quick_r8)
  .ret))))), [.tmp 4]⟩
theorem grid_Quick_s : slimF Try.prog 54 = some grid_Quick_c := by kernel_rfl
abbrev grid_Quick_f : Nat := 54
/-- printworks/grid.Raw -/
def grid_Raw_r0 : List SO := [⟨(some 4), .assign (.const (.slice none 0 0)), none⟩]
def grid_Raw_r1 : List SO := [⟨(some 20), .move (.tmp (0 : Nat)), none⟩,
  ⟨(some 21), .nilCheck (.tmp (20 : Nat)), none⟩,
  ⟨(some 22), .fieldAddr 24 (.tmp (21 : Nat)) 2, none⟩,
  ⟨(some 23), .load 3 (.tmp (22 : Nat)), none⟩,
  ⟨(some 24), .binOp .sub 3 (.tmp (23 : Nat)) (.const (.int .i64 1)) 3, none⟩,
  ⟨(some 25), .binOp .quo 3 (.const (.int .i64 65280)) (.tmp (24 : Nat)) 3, none⟩,
  ⟨(some 5), .assign (.tmp (25 : Nat)), none⟩]
def grid_Raw_r2 : List SO := [⟨(some 6), .alloc 156, none⟩,
  ⟨(some 7), .alloc 156, none⟩,
  ⟨(some 8), .alloc 156, none⟩]
def grid_Raw_r3 : List SO := [⟨(some 26), .move (.tmp (0 : Nat)), none⟩,
  ⟨(some 27), .nilCheck (.tmp (26 : Nat)), none⟩,
  ⟨(some 28), .fieldAddr 24 (.tmp (27 : Nat)) 0, none⟩,
  ⟨(some 29), .load 3 (.tmp (28 : Nat)), none⟩,
  ⟨(some 9), .assign (.tmp (29 : Nat)), none⟩]
def grid_Raw_r4 : List SO := [⟨(some 30), .move (.tmp (1 : Nat)), none⟩,
  ⟨(some 31), .call ⟨(.builtin .len), #[(.tmp (30 : Nat))], #[22]⟩, none⟩,
  ⟨(some 32), .move (.const (.int .i64 0)), none⟩]
def grid_Raw_r5 : List SO := [⟨(some 33), .binOp .lss 3 (.tmp (32 : Nat)) (.tmp (31 : Nat)) 3, none⟩]
def grid_Raw_r6 : List SO := [⟨(some 34), .move (.tmp (32 : Nat)), none⟩,
  ⟨(some 35), .indexAddr 22 (.tmp (30 : Nat)) (.tmp (32 : Nat)), none⟩,
  ⟨(some 36), .load 3 (.tmp (35 : Nat)), none⟩,
  ⟨(some 10), .assign (.tmp (34 : Nat)), none⟩,
  ⟨(some 11), .assign (.tmp (36 : Nat)), none⟩]
def grid_Raw_r7 : List SO := [⟨(some 37), .move (.tmp (10 : Nat)), none⟩,
  ⟨(some 38), .move (.tmp (10 : Nat)), none⟩,
  ⟨(some 39), .move (.tmp (11 : Nat)), none⟩,
  ⟨(some 40), .move (.tmp (5 : Nat)), none⟩,
  ⟨(some 41), .binOp .quo 3 (.tmp (39 : Nat)) (.tmp (40 : Nat)) 3, none⟩,
  ⟨(some 42), .move (.tmp (11 : Nat)), none⟩,
  ⟨(some 43), .move (.tmp (5 : Nat)), none⟩,
  ⟨(some 44), .binOp .rem 3 (.tmp (42 : Nat)) (.tmp (43 : Nat)) 3, none⟩,
  ⟨(some 45), .indexAddr 156 (.tmp (6 : Nat)) (.tmp (37 : Nat)), none⟩,
  ⟨none, .store 3 (.tmp (45 : Nat)) (.tmp (41 : Nat)), none⟩,
  ⟨(some 46), .indexAddr 156 (.tmp (7 : Nat)) (.tmp (38 : Nat)), none⟩,
  ⟨none, .store 3 (.tmp (46 : Nat)) (.tmp (44 : Nat)), none⟩]
def grid_Raw_a7 : List (List Nat) := [[], [], [], [], [2, 3], [], [], [5, 6], [0, 0, 2, 3, 4], [8, 4, 0, 2, 3, 4], [1, 0, 1, 2, 3, 4, 5, 6, 7, 8, 9], [10, 7, 9, 0, 1, 2, 3, 4, 5, 6, 7, 8, 9]]
def grid_Raw_r8 : List SO := [⟨(some 47), .move (.tmp (10 : Nat)), none⟩,
  ⟨(some 12), .assign (.tmp (47 : Nat)), none⟩]
def grid_Raw_r9 : List SO := [⟨(some 48), .move (.tmp (12 : Nat)), none⟩,
  ⟨(some 49), .binOp .gtr 3 (.tmp (48 : Nat)) (.const (.int .i64 0)) 3, none⟩,
  ⟨(some 50), .move (.tmp (49 : Nat)), none⟩,
  ⟨(some 51), .move (.tmp (12 : Nat)), (some (50, true))⟩,
  ⟨(some 52), .binOp .sub 3 (.tmp (51 : Nat)) (.const (.int .i64 1)) 3, (some (50, true))⟩,
  ⟨(some 53), .indexAddr 156 (.tmp (8 : Nat)) (.tmp (52 : Nat)), (some (50, true))⟩,
  ⟨(some 54), .load 3 (.tmp (53 : Nat)), (some (50, true))⟩,
  ⟨(some 55), .indexAddr 156 (.tmp (7 : Nat)) (.tmp (54 : Nat)), (some (50, true))⟩,
  ⟨(some 56), .load 3 (.tmp (55 : Nat)), (some (50, true))⟩,
  ⟨(some 57), .move (.tmp (10 : Nat)), (some (50, true))⟩,
  ⟨(some 58), .indexAddr 156 (.tmp (7 : Nat)) (.tmp (57 : Nat)), (some (50, true))⟩,
  ⟨(some 59), .load 3 (.tmp (58 : Nat)), (some (50, true))⟩,
  ⟨(some 60), .binOp .lss 3 (.tmp (56 : Nat)) (.tmp (59 : Nat)) 3, (some (50, true))⟩,
  ⟨(some 61), .pick (.tmp (50 : Nat)) (.tmp (60 : Nat)) (.const (.bool false)), none⟩]
def grid_Raw_a9 : List (List Nat) := [[], [0], [1], [2], [3, 2], [4, 2], [5, 2], [6, 2], [7, 2], [2], [9, 2], [10, 2], [8, 11, 2], [2, 12]]
def grid_Raw_r10 : List SO := [⟨(some 64), .move (.tmp (12 : Nat)), none⟩,
  ⟨(some 65), .move (.tmp (12 : Nat)), none⟩,
  ⟨(some 66), .binOp .sub 3 (.tmp (65 : Nat)) (.const (.int .i64 1)) 3, none⟩,
  ⟨(some 67), .indexAddr 156 (.tmp (8 : Nat)) (.tmp (66 : Nat)), none⟩,
  ⟨(some 68), .load 3 (.tmp (67 : Nat)), none⟩,
  ⟨(some 69), .indexAddr 156 (.tmp (8 : Nat)) (.tmp (64 : Nat)), none⟩,
  ⟨none, .store 3 (.tmp (69 : Nat)) (.tmp (68 : Nat)), none⟩]
def grid_Raw_r11 : List SO := [⟨(some 62), .move (.tmp (12 : Nat)), none⟩,
  ⟨(some 63), .binOp .sub 3 (.tmp (62 : Nat)) (.const (.int .i64 1)) 3, none⟩,
  ⟨(some 12), .assign (.tmp (63 : Nat)), none⟩]
def grid_Raw_r12 : List SO := [⟨(some 70), .move (.tmp (12 : Nat)), none⟩,
  ⟨(some 71), .move (.tmp (10 : Nat)), none⟩,
  ⟨(some 72), .indexAddr 156 (.tmp (8 : Nat)) (.tmp (70 : Nat)), none⟩,
  ⟨none, .store 3 (.tmp (72 : Nat)) (.tmp (71 : Nat)), none⟩]
def grid_Raw_r13 : List SO := [⟨(some 73), .binOp .add 3 (.tmp (32 : Nat)) (.const (.int .i64 1)) 3, none⟩,
  ⟨(some 32), .move (.tmp (73 : Nat)), none⟩]
def grid_Raw_r14 : List SO := [⟨(some 74), .move (.tmp (0 : Nat)), none⟩,
  ⟨(some 75), .nilCheck (.tmp (74 : Nat)), none⟩,
  ⟨(some 76), .fieldAddr 24 (.tmp (75 : Nat)) 1, none⟩,
  ⟨(some 77), .load 3 (.tmp (76 : Nat)), none⟩,
  ⟨(some 78), .makeSlice 22 (.tmp (77 : Nat)) (.tmp (77 : Nat)), none⟩,
  ⟨(some 13), .assign (.tmp (78 : Nat)), none⟩]
def grid_Raw_r15 : List SO := [⟨(some 79), .move (.tmp (5 : Nat)), none⟩,
  ⟨(some 14), .assign (.tmp (79 : Nat)), none⟩]
def grid_Raw_r16 : List SO := [⟨(some 15), .assign (.const (.int .i64 0)), none⟩]
def grid_Raw_r17 : List SO := [⟨(some 80), .move (.tmp (15 : Nat)), none⟩,
  ⟨(some 81), .move (.tmp (9 : Nat)), none⟩,
  ⟨(some 82), .binOp .leq 3 (.tmp (80 : Nat)) (.tmp (81 : Nat)) 3, none⟩]
def grid_Raw_r18 : List SO := [⟨(some 16), .assign (.const (.int .i64 0)), none⟩]
def grid_Raw_r19 : List SO := [⟨(some 85), .move (.tmp (15 : Nat)), none⟩,
  ⟨(some 86), .move (.tmp (9 : Nat)), none⟩,
  ⟨(some 87), .binOp .lss 3 (.tmp (85 : Nat)) (.tmp (86 : Nat)) 3, none⟩]
def grid_Raw_r20 : List SO := [⟨(some 88), .move (.tmp (15 : Nat)), none⟩,
  ⟨(some 89), .indexAddr 156 (.tmp (8 : Nat)) (.tmp (88 : Nat)), none⟩,
  ⟨(some 90), .load 3 (.tmp (89 : Nat)), none⟩,
  ⟨(some 91), .indexAddr 156 (.tmp (7 : Nat)) (.tmp (90 : Nat)), none⟩,
  ⟨(some 92), .load 3 (.tmp (91 : Nat)), none⟩,
  ⟨(some 16), .assign (.tmp (92 : Nat)), none⟩]
def grid_Raw_r21 : List SO := [⟨(some 93), .move (.tmp (14 : Nat)), none⟩,
  ⟨(some 94), .move (.tmp (16 : Nat)), none⟩,
  ⟨(some 95), .binOp .sub 3 (.tmp (93 : Nat)) (.tmp (94 : Nat)) 3, none⟩,
  ⟨(some 17), .assign (.tmp (95 : Nat)), none⟩]
def grid_Raw_r22 : List SO := [⟨(some 96), .move (.tmp (17 : Nat)), none⟩,
  ⟨(some 97), .binOp .gtr 3 (.tmp (96 : Nat)) (.const (.int .i64 0)) 3, none⟩]
def grid_Raw_r23 : List SO := [⟨(some 98), .move (.tmp (0 : Nat)), none⟩,
  ⟨(some 99), .move (.tmp (9 : Nat)), none⟩,
  ⟨(some 100), .slice 156 (.tmp (6 : Nat)) none (some (.tmp (99 : Nat))) none, none⟩,
  ⟨(some 101), .call ⟨(.value (.func (92 : Nat))), #[(.tmp (98 : Nat)), (.tmp (100 : Nat))], #[99, 22]⟩, none⟩,
  ⟨(some 18), .assign (.tmp (101 : Nat)), none⟩]
def grid_Raw_r24 : List SO := [⟨(some 102), .move (.tmp (13 : Nat)), none⟩,
  ⟨(some 103), .call ⟨(.builtin .len), #[(.tmp (102 : Nat))], #[22]⟩, none⟩,
  ⟨(some 104), .move (.const (.int .i64 0)), none⟩]
def grid_Raw_r25 : List SO := [⟨(some 105), .binOp .lss 3 (.tmp (104 : Nat)) (.tmp (103 : Nat)) 3, none⟩]
def grid_Raw_r26 : List SO := [⟨(some 106), .move (.tmp (104 : Nat)), none⟩,
  ⟨(some 19), .assign (.tmp (106 : Nat)), none⟩]
def grid_Raw_r27 : List SO := [⟨(some 107), .move (.tmp (13 : Nat)), none⟩,
  ⟨(some 108), .move (.tmp (19 : Nat)), none⟩,
  ⟨(some 109), .indexAddr 22 (.tmp (107 : Nat)) (.tmp (108 : Nat)), none⟩,
  ⟨(some 110), .load 3 (.tmp (109 : Nat)), none⟩,
  ⟨(some 111), .move (.tmp (17 : Nat)), none⟩,
  ⟨(some 112), .move (.tmp (0 : Nat)), none⟩,
  ⟨(some 113), .nilCheck (.tmp (112 : Nat)), none⟩,
  ⟨(some 114), .fieldAddr 24 (.tmp (113 : Nat)) 3, none⟩,
  ⟨(some 115), .load 22 (.tmp (114 : Nat)), none⟩,
  ⟨(some 116), .move (.tmp (18 : Nat)), none⟩,
  ⟨(some 117), .move (.tmp (19 : Nat)), none⟩,
  ⟨(some 118), .binOp .add 3 (.tmp (116 : Nat)) (.tmp (117 : Nat)) 3, none⟩,
  ⟨(some 119), .indexAddr 22 (.tmp (115 : Nat)) (.tmp (118 : Nat)), none⟩,
  ⟨(some 120), .load 3 (.tmp (119 : Nat)), none⟩,
  ⟨(some 121), .binOp .mul 3 (.tmp (111 : Nat)) (.tmp (120 : Nat)) 3, none⟩,
  ⟨(some 122), .binOp .add 3 (.tmp (110 : Nat)) (.tmp (121 : Nat)) 3, none⟩,
  ⟨(some 123), .indexAddr 22 (.tmp (107 : Nat)) (.tmp (108 : Nat)), none⟩,
  ⟨none, .store 3 (.tmp (123 : Nat)) (.tmp (122 : Nat)), none⟩]
def grid_Raw_a27 : List (List Nat) := [[], [], [0, 1], [2], [], [], [5], [6], [7], [], [], [9, 10], [8, 11], [12], [4, 13], [3, 14], [0, 1, 0, 1, 2, 3, 4, 5, 6, 7, 8, 9, 10, 11, 12, 13, 14, 15], [16, 15, 0, 1, 2, 3, 4, 5, 6, 7, 8, 9, 10, 11, 12, 13, 14, 15]]
def grid_Raw_r28 : List SO := [⟨(some 124), .binOp .add 3 (.tmp (104 : Nat)) (.const (.int .i64 1)) 3, none⟩,
  ⟨(some 104), .move (.tmp (124 : Nat)), none⟩]
def grid_Raw_r29 : List SO := [⟨(some 125), .move (.tmp (15 : Nat)), none⟩,
  ⟨(some 126), .move (.tmp (9 : Nat)), none⟩,
  ⟨(some 127), .binOp .lss 3 (.tmp (125 : Nat)) (.tmp (126 : Nat)) 3, none⟩]
def grid_Raw_r30 : List SO := [⟨(some 128), .move (.tmp (16 : Nat)), none⟩,
  ⟨(some 14), .assign (.tmp (128 : Nat)), none⟩]
def grid_Raw_r31 : List SO := [⟨(some 129), .move (.tmp (16 : Nat)), none⟩,
  ⟨(some 130), .binOp .eql 3 (.tmp (129 : Nat)) (.const (.int .i64 0)) 3, none⟩]
def grid_Raw_r32 : List SO := [⟨(some 131), .move (.tmp (15 : Nat)), none⟩,
  ⟨(some 132), .indexAddr 156 (.tmp (8 : Nat)) (.tmp (131 : Nat)), none⟩,
  ⟨(some 133), .load 3 (.tmp (132 : Nat)), none⟩,
  ⟨(some 134), .indexAddr 156 (.tmp (6 : Nat)) (.tmp (133 : Nat)), none⟩,
  ⟨(some 135), .load 3 (.tmp (134 : Nat)), none⟩,
  ⟨(some 136), .binOp .add 3 (.tmp (135 : Nat)) (.const (.int .i64 1)) 3, none⟩,
  ⟨(some 137), .indexAddr 156 (.tmp (6 : Nat)) (.tmp (133 : Nat)), none⟩,
  ⟨none, .store 3 (.tmp (137 : Nat)) (.tmp (136 : Nat)), none⟩]
def grid_Raw_r33 : List SO := [⟨(some 83), .move (.tmp (15 : Nat)), none⟩,
  ⟨(some 84), .binOp .add 3 (.tmp (83 : Nat)) (.const (.int .i64 1)) 3, none⟩,
  ⟨(some 15), .assign (.tmp (84 : Nat)), none⟩]
def grid_Raw_r34 : List SO := [⟨(some 138), .move (.tmp (13 : Nat)), none⟩,
  ⟨(some 4), .assign (.tmp (138 : Nat)), none⟩]
def grid_Raw_c : SF := ⟨139, (.seq (.reg grid_Raw_r0)
  (.seq (.reg grid_Raw_r1)
  (.seq (.reg grid_Raw_r2)
  (.seq (.reg grid_Raw_r3)
  (.seq (.seq (.reg grid_Raw_r4)
  (.block 0 (.loop (.seq (.reg grid_Raw_r5)
  (.seq (.cond (.tmp (33 : Nat)) .skip (.exit 0))
  (.seq (.block 1 (.seq (.reg grid_Raw_r6)
  (.seq (.regd grid_Raw_r7 grid_Raw_a7)
  (.seq (.reg grid_Raw_r8)
  (.seq (.block 2 (.loop (.seq (.seq (.regd grid_Raw_r9 grid_Raw_a9)
  (.cond (.tmp (61 : Nat)) .skip (.exit 2)))
  (.seq (.block 3 (.reg grid_Raw_r10))
  (.reg grid_Raw_r11)))))
  (.reg grid_Raw_r12))))))
  (.reg grid_Raw_r13)))))))
  (.seq (.reg grid_Raw_r14)
  (.seq (.reg grid_Raw_r15)
  (.seq (.seq (.reg grid_Raw_r16)
  (.block 4 (.loop (.seq (.seq (.reg grid_Raw_r17)
  (.cond (.tmp (82 : Nat)) .skip (.exit 4)))
  (.seq (.block 5 (.seq (.reg grid_Raw_r18)
  (.seq (.seq (.reg grid_Raw_r19)
  (.cond (.tmp (87 : Nat)) (.reg grid_Raw_r20) .skip))
  (.seq (.seq (.reg grid_Raw_r21)
  (.seq (.reg grid_Raw_r22)
  (.cond (.tmp (97 : Nat)) (.seq (.reg grid_Raw_r23)
  (.seq (.reg grid_Raw_r24)
  (.block 6 (.loop (.seq (.reg grid_Raw_r25)
  (.seq (.cond (.tmp (105 : Nat)) .skip (.exit 6))
  (.seq (.block 7 (.seq (.reg grid_Raw_r26)
  (.regd grid_Raw_r27 grid_Raw_a27)))
  (.reg grid_Raw_r28)))))))) .skip)))
  (.seq (.reg grid_Raw_r29)
  (.cond (.tmp (127 : Nat)) (.seq (.reg grid_Raw_r30)
  (.seq (.seq (.reg grid_Raw_r31)
  (.cond (.tmp (130 : Nat)) (.exit 4) .skip))
  (.reg grid_Raw_r32))) .skip))))))
  (.reg grid_Raw_r33))))))
  (.seq (.reg grid_Raw_r34)
  .ret))))))))), [.tmp 4]⟩
theorem grid_Raw_s : slimF Try.prog 55 = some grid_Raw_c := by kernel_rfl
abbrev grid_Raw_f : Nat := 55
/-- printworks/grid.Resample$1 -/
def grid_Resample_1_r0 : List SO := [⟨(some 4), .assign (.const (.slice none 0 0)), none⟩,
  ⟨(some 5), .assign (.const (.int .i64 0)), none⟩]
def grid_Resample_1_r1 : List SO := [⟨(some 7), .move (.tmp (0 : Nat)), none⟩,
  ⟨(some 8), .call ⟨(.builtin .len), #[(.tmp (7 : Nat))], #[22]⟩, none⟩,
  ⟨(some 9), .move (.const (.int .i64 0)), none⟩]
def grid_Resample_1_r2 : List SO := [⟨(some 10), .binOp .lss 3 (.tmp (9 : Nat)) (.tmp (8 : Nat)) 3, none⟩]
def grid_Resample_1_r3 : List SO := [⟨(some 11), .move (.tmp (9 : Nat)), none⟩,
  ⟨(some 6), .assign (.tmp (11 : Nat)), none⟩]
def grid_Resample_1_r4 : List SO := [⟨(some 12), .move (.tmp (0 : Nat)), none⟩,
  ⟨(some 13), .move (.tmp (6 : Nat)), none⟩,
  ⟨(some 14), .indexAddr 22 (.tmp (12 : Nat)) (.tmp (13 : Nat)), none⟩,
  ⟨(some 15), .load 3 (.tmp (14 : Nat)), none⟩,
  ⟨(some 16), .load 3 (.tmp (1 : Nat)), none⟩,
  ⟨(some 17), .binOp .mul 3 (.tmp (15 : Nat)) (.tmp (16 : Nat)) 3, none⟩,
  ⟨(some 18), .indexAddr 22 (.tmp (12 : Nat)) (.tmp (13 : Nat)), none⟩,
  ⟨none, .store 3 (.tmp (18 : Nat)) (.tmp (17 : Nat)), none⟩]
def grid_Resample_1_a4 : List (List Nat) := [[], [], [0, 1], [2], [], [3, 4], [0, 1, 0, 1, 2, 3, 4, 5], [6, 5, 0, 1, 2, 3, 4, 5]]
def grid_Resample_1_r5 : List SO := [⟨(some 19), .binOp .add 3 (.tmp (9 : Nat)) (.const (.int .i64 1)) 3, none⟩,
  ⟨(some 9), .move (.tmp (19 : Nat)), none⟩]
def grid_Resample_1_r6 : List SO := [⟨(some 20), .move (.tmp (0 : Nat)), none⟩,
  ⟨(some 21), .call ⟨(.value (.func (54 : Nat))), #[(.tmp (2 : Nat)), (.tmp (20 : Nat))], #[99, 22]⟩, none⟩,
  ⟨(some 4), .assign (.tmp (21 : Nat)), none⟩,
  ⟨(some 5), .assign (.const (.int .i64 0)), none⟩]
def grid_Resample_1_c : SF := ⟨22, (.seq (.reg grid_Resample_1_r0)
  (.seq (.seq (.reg grid_Resample_1_r1)
  (.block 0 (.loop (.seq (.reg grid_Resample_1_r2)
  (.seq (.cond (.tmp (10 : Nat)) .skip (.exit 0))
  (.seq (.block 1 (.seq (.reg grid_Resample_1_r3)
  (.regd grid_Resample_1_r4 grid_Resample_1_a4)))
  (.reg grid_Resample_1_r5)))))))
  (.seq (.reg grid_Resample_1_r6)
  .ret))), [.tmp 4, .tmp 5]⟩
theorem grid_Resample_1_s : slimF Try.prog 57 = some grid_Resample_1_c := by kernel_rfl
abbrev grid_Resample_1_f : Nat := 57
/-- printworks/grid.Make -/
def grid_Make_r0 : List SO := [⟨(some 8), .alloc 24, none⟩,
  ⟨(some 9), .assign (.const (.int .i64 0)), none⟩]
def grid_Make_r1 : List SO := [⟨(some 19), .move (.tmp (0 : Nat)), none⟩,
  ⟨(some 20), .move (.tmp (1 : Nat)), none⟩,
  ⟨(some 21), .move (.tmp (2 : Nat)), none⟩,
  ⟨(some 22), .call ⟨(.value (.func (50 : Nat))), #[(.tmp (19 : Nat)), (.tmp (20 : Nat)), (.tmp (21 : Nat))], #[3, 3, 3]⟩, none⟩,
  ⟨(some 18), .move (.tmp (22 : Nat)), none⟩,
  ⟨(some 23), .extract (.tmp (18 : Nat)) 0, none⟩,
  ⟨(some 24), .extract (.tmp (18 : Nat)) 1, none⟩,
  ⟨(some 10), .assign (.tmp (23 : Nat)), none⟩,
  ⟨(some 11), .assign (.tmp (24 : Nat)), none⟩]
def grid_Make_r2 : List SO := [⟨(some 25), .move (.tmp (11 : Nat)), none⟩,
  ⟨(some 26), .binOp .neq 26 (.tmp (25 : Nat)) (.const (.int .i64 0)) 26, none⟩]
def grid_Make_r3 : List SO := [⟨(some 27), .build 24 #[], none⟩,
  ⟨(some 28), .move (.tmp (11 : Nat)), none⟩,
  ⟨none, .store 24 (.tmp (8 : Nat)) (.tmp (27 : Nat)), none⟩,
  ⟨(some 9), .assign (.tmp (28 : Nat)), none⟩]
def grid_Make_r4 : List SO := [⟨(some 29), .move (.tmp (0 : Nat)), none⟩,
  ⟨(some 30), .move (.tmp (1 : Nat)), none⟩,
  ⟨(some 31), .move (.tmp (2 : Nat)), none⟩,
  ⟨(some 32), .move (.tmp (10 : Nat)), none⟩,
  ⟨(some 33), .move (.tmp (1 : Nat)), none⟩,
  ⟨(some 34), .binOp .mul 3 (.tmp (32 : Nat)) (.tmp (33 : Nat)) 3, none⟩,
  ⟨(some 35), .makeSlice 22 (.const (.int .i64 0)) (.tmp (34 : Nat)), none⟩,
  ⟨(some 36), .build 24 #[(0, (.tmp (29 : Nat))), (1, (.tmp (30 : Nat))), (2, (.tmp (31 : Nat))), (3, (.tmp (35 : Nat)))], none⟩,
  ⟨(some 12), .alloc 24, none⟩,
  ⟨none, .store 24 (.tmp (12 : Nat)) (.tmp (36 : Nat)), none⟩]
def grid_Make_r5 : List SO := [⟨(some 37), .move (.tmp (0 : Nat)), none⟩,
  ⟨(some 38), .makeSlice 22 (.tmp (37 : Nat)) (.tmp (37 : Nat)), none⟩,
  ⟨(some 13), .assign (.tmp (38 : Nat)), none⟩]
def grid_Make_r6 : List SO := [⟨(some 39), .move (.tmp (10 : Nat)), none⟩,
  ⟨(some 40), .move (.const (.int .i64 0)), none⟩]
def grid_Make_r7 : List SO := [⟨(some 41), .binOp .lss 3 (.tmp (40 : Nat)) (.tmp (39 : Nat)) 3, none⟩]
def grid_Make_r8 : List SO := [⟨(some 43), .move (.tmp (3 : Nat)), none⟩,
  ⟨(some 44), .move (.tmp (13 : Nat)), none⟩,
  ⟨(some 45), .call ⟨(.builtin .append), #[(.const (.slice none 0 0)), (.tmp (44 : Nat))], #[22, 22]⟩, none⟩,
  ⟨(some 46), .call ⟨(.value (.tmp (43 : Nat))), #[(.tmp (45 : Nat))], #[22]⟩, none⟩,
  ⟨(some 42), .move (.tmp (46 : Nat)), none⟩,
  ⟨(some 47), .extract (.tmp (42 : Nat)) 0, none⟩,
  ⟨(some 48), .extract (.tmp (42 : Nat)) 1, none⟩,
  ⟨(some 14), .assign (.tmp (47 : Nat)), none⟩,
  ⟨(some 15), .assign (.tmp (48 : Nat)), none⟩]
def grid_Make_r9 : List SO := [⟨(some 49), .move (.tmp (15 : Nat)), none⟩,
  ⟨(some 50), .binOp .neq 26 (.tmp (49 : Nat)) (.const (.int .i64 0)) 26, none⟩]
def grid_Make_r10 : List SO := [⟨(some 51), .build 24 #[], none⟩,
  ⟨(some 52), .move (.tmp (15 : Nat)), none⟩,
  ⟨none, .store 24 (.tmp (8 : Nat)) (.tmp (51 : Nat)), none⟩,
  ⟨(some 9), .assign (.tmp (52 : Nat)), none⟩]
def grid_Make_r11 : List SO := [⟨(some 53), .move (.tmp (14 : Nat)), none⟩,
  ⟨(some 54), .call ⟨(.builtin .len), #[(.tmp (53 : Nat))], #[22]⟩, none⟩,
  ⟨(some 55), .move (.tmp (1 : Nat)), none⟩,
  ⟨(some 56), .binOp .neq 3 (.tmp (54 : Nat)) (.tmp (55 : Nat)) 3, none⟩]
def grid_Make_r12 : List SO := [⟨(some 57), .build 24 #[], none⟩,
  ⟨none, .store 24 (.tmp (8 : Nat)) (.tmp (57 : Nat)), none⟩,
  ⟨(some 9), .assign (.const (.int .i64 4)), none⟩]
def grid_Make_r13 : List SO := [⟨(some 58), .fieldAddr 24 (.tmp (12 : Nat)) 3, none⟩,
  ⟨(some 59), .load 22 (.tmp (58 : Nat)), none⟩,
  ⟨(some 60), .move (.tmp (14 : Nat)), none⟩,
  ⟨(some 61), .call ⟨(.builtin .append), #[(.tmp (59 : Nat)), (.tmp (60 : Nat))], #[22, 22]⟩, none⟩,
  ⟨(some 62), .fieldAddr 24 (.tmp (12 : Nat)) 3, none⟩,
  ⟨none, .store 22 (.tmp (62 : Nat)) (.tmp (61 : Nat)), none⟩]
def grid_Make_r14 : List SO := [⟨(some 63), .move (.tmp (0 : Nat)), none⟩,
  ⟨(some 64), .binOp .sub 3 (.tmp (63 : Nat)) (.const (.int .i64 1)) 3, none⟩,
  ⟨(some 16), .assign (.tmp (64 : Nat)), none⟩]
def grid_Make_r15 : List SO := [⟨(some 65), .move (.tmp (16 : Nat)), none⟩,
  ⟨(some 66), .binOp .geq 3 (.tmp (65 : Nat)) (.const (.int .i64 0)) 3, none⟩]
def grid_Make_r16 : List SO := [⟨(some 69), .move (.tmp (13 : Nat)), none⟩,
  ⟨(some 70), .move (.tmp (16 : Nat)), none⟩,
  ⟨(some 71), .indexAddr 22 (.tmp (69 : Nat)) (.tmp (70 : Nat)), none⟩,
  ⟨(some 72), .load 3 (.tmp (71 : Nat)), none⟩,
  ⟨(some 73), .binOp .add 3 (.tmp (72 : Nat)) (.const (.int .i64 1)) 3, none⟩,
  ⟨(some 74), .indexAddr 22 (.tmp (69 : Nat)) (.tmp (70 : Nat)), none⟩,
  ⟨none, .store 3 (.tmp (74 : Nat)) (.tmp (73 : Nat)), none⟩]
def grid_Make_r17 : List SO := [⟨(some 75), .move (.tmp (13 : Nat)), none⟩,
  ⟨(some 76), .move (.tmp (16 : Nat)), none⟩,
  ⟨(some 77), .indexAddr 22 (.tmp (75 : Nat)) (.tmp (76 : Nat)), none⟩,
  ⟨(some 78), .load 3 (.tmp (77 : Nat)), none⟩,
  ⟨(some 79), .move (.tmp (2 : Nat)), none⟩,
  ⟨(some 80), .binOp .lss 3 (.tmp (78 : Nat)) (.tmp (79 : Nat)) 3, none⟩]
def grid_Make_r18 : List SO := [⟨(some 81), .move (.tmp (13 : Nat)), none⟩,
  ⟨(some 82), .move (.tmp (16 : Nat)), none⟩,
  ⟨(some 83), .indexAddr 22 (.tmp (81 : Nat)) (.tmp (82 : Nat)), none⟩,
  ⟨none, .store 3 (.tmp (83 : Nat)) (.const (.int .i64 0)), none⟩]
def grid_Make_r19 : List SO := [⟨(some 67), .move (.tmp (16 : Nat)), none⟩,
  ⟨(some 68), .binOp .sub 3 (.tmp (67 : Nat)) (.const (.int .i64 1)) 3, none⟩,
  ⟨(some 16), .assign (.tmp (68 : Nat)), none⟩]
def grid_Make_r20 : List SO := [⟨(some 84), .binOp .add 3 (.tmp (40 : Nat)) (.const (.int .i64 1)) 3, none⟩,
  ⟨(some 40), .move (.tmp (84 : Nat)), none⟩]
def grid_Make_r21 : List SO := [⟨(some 85), .load 24 (.tmp (12 : Nat)), none⟩,
  ⟨(some 86), .call ⟨(.value (.func (16 : Nat))), #[(.tmp (85 : Nat))], #[24]⟩, none⟩,
  ⟨(some 17), .assign (.tmp (86 : Nat)), none⟩]
def grid_Make_r22 : List SO := [⟨(some 87), .move (.tmp (17 : Nat)), none⟩,
  ⟨(some 88), .binOp .neq 26 (.tmp (87 : Nat)) (.const (.int .i64 0)) 26, none⟩]
def grid_Make_r23 : List SO := [⟨(some 89), .build 24 #[], none⟩,
  ⟨(some 90), .move (.tmp (17 : Nat)), none⟩,
  ⟨none, .store 24 (.tmp (8 : Nat)) (.tmp (89 : Nat)), none⟩,
  ⟨(some 9), .assign (.tmp (90 : Nat)), none⟩]
def grid_Make_r24 : List SO := [⟨(some 91), .load 24 (.tmp (12 : Nat)), none⟩,
  ⟨none, .store 24 (.tmp (8 : Nat)) (.tmp (91 : Nat)), none⟩,
  ⟨(some 9), .assign (.const (.int .i64 0)), none⟩]
def grid_Make_c : SF := ⟨92, (.seq (.reg grid_Make_r0)
  (.seq (.reg grid_Make_r1)
  (.seq (.seq (.reg grid_Make_r2)
  (.cond (.tmp (26 : Nat)) (.seq (.reg grid_Make_r3)
  .ret) .skip))
  (.seq (.reg grid_Make_r4)
  (.seq (.reg grid_Make_r5)
  (.seq (.seq (.reg grid_Make_r6)
  (.block 0 (.loop (.seq (.reg grid_Make_r7)
  (.seq (.cond (.tmp (41 : Nat)) .skip (.exit 0))
  (.seq (.block 1 (.seq (.reg grid_Make_r8)
  (.seq (.seq (.reg grid_Make_r9)
  (.cond (.tmp (50 : Nat)) (.seq (.reg grid_Make_r10)
  .ret) .skip))
  (.seq (.seq (.reg grid_Make_r11)
  (.cond (.tmp (56 : Nat)) (.seq (.reg grid_Make_r12)
  .ret) .skip))
  (.seq (.reg grid_Make_r13)
  (.seq (.reg grid_Make_r14)
  (.block 2 (.loop (.seq (.seq (.reg grid_Make_r15)
  (.cond (.tmp (66 : Nat)) .skip (.exit 2)))
  (.seq (.block 3 (.seq (.seq (.reg grid_Make_r16)
  (.seq (.reg grid_Make_r17)
  (.cond (.tmp (80 : Nat)) (.exit 2) .skip)))
  (.reg grid_Make_r18)))
  (.reg grid_Make_r19)))))))))))
  (.reg grid_Make_r20)))))))
  (.seq (.seq (.reg grid_Make_r21)
  (.seq (.reg grid_Make_r22)
  (.cond (.tmp (88 : Nat)) (.seq (.reg grid_Make_r23)
  .ret) .skip)))
  (.seq (.reg grid_Make_r24)
  .ret)))))))), [.cell 8 24, .tmp 9]⟩
theorem grid_Make_s : slimF Try.prog 56 = some grid_Make_c := by kernel_rfl
abbrev grid_Make_f : Nat := 56
/-- printworks/grid.at -/
def grid_at_r0 : List SO := [⟨(some 4), .assign (.const (.int .i64 0)), none⟩]
def grid_at_r1 : List SO := [⟨(some 5), .assign (.const (.int .i64 0)), none⟩]
def grid_at_r2 : List SO := [⟨(some 8), .move (.tmp (1 : Nat)), none⟩,
  ⟨(some 9), .call ⟨(.builtin .len), #[(.tmp (8 : Nat))], #[22]⟩, none⟩,
  ⟨(some 10), .move (.const (.int .i64 0)), none⟩]
def grid_at_r3 : List SO := [⟨(some 11), .binOp .lss 3 (.tmp (10 : Nat)) (.tmp (9 : Nat)) 3, none⟩]
def grid_at_r4 : List SO := [⟨(some 12), .indexAddr 22 (.tmp (8 : Nat)) (.tmp (10 : Nat)), none⟩,
  ⟨(some 13), .load 3 (.tmp (12 : Nat)), none⟩,
  ⟨(some 7), .assign (.tmp (13 : Nat)), none⟩]
def grid_at_r5 : List SO := [⟨(some 14), .move (.tmp (5 : Nat)), none⟩,
  ⟨(some 15), .move (.tmp (0 : Nat)), none⟩,
  ⟨(some 16), .nilCheck (.tmp (15 : Nat)), none⟩,
  ⟨(some 17), .fieldAddr 24 (.tmp (16 : Nat)) 2, none⟩,
  ⟨(some 18), .load 3 (.tmp (17 : Nat)), none⟩,
  ⟨(some 19), .binOp .mul 3 (.tmp (14 : Nat)) (.tmp (18 : Nat)) 3, none⟩,
  ⟨(some 20), .move (.tmp (7 : Nat)), none⟩,
  ⟨(some 21), .binOp .add 3 (.tmp (19 : Nat)) (.tmp (20 : Nat)) 3, none⟩,
  ⟨(some 5), .assign (.tmp (21 : Nat)), none⟩]
def grid_at_r6 : List SO := [⟨(some 22), .binOp .add 3 (.tmp (10 : Nat)) (.const (.int .i64 1)) 3, none⟩,
  ⟨(some 10), .move (.tmp (22 : Nat)), none⟩]
def grid_at_r7 : List SO := [⟨(some 23), .move (.tmp (5 : Nat)), none⟩,
  ⟨(some 24), .move (.tmp (0 : Nat)), none⟩,
  ⟨(some 25), .nilCheck (.tmp (24 : Nat)), none⟩,
  ⟨(some 26), .fieldAddr 24 (.tmp (25 : Nat)) 1, none⟩,
  ⟨(some 27), .load 3 (.tmp (26 : Nat)), none⟩,
  ⟨(some 28), .binOp .mul 3 (.tmp (23 : Nat)) (.tmp (27 : Nat)) 3, none⟩,
  ⟨(some 4), .assign (.tmp (28 : Nat)), none⟩]
def grid_at_c : SF := ⟨29, (.seq (.reg grid_at_r0)
  (.seq (.reg grid_at_r1)
  (.seq (.seq (.reg grid_at_r2)
  (.block 0 (.loop (.seq (.reg grid_at_r3)
  (.seq (.cond (.tmp (11 : Nat)) .skip (.exit 0))
  (.seq (.block 1 (.seq (.reg grid_at_r4)
  (.reg grid_at_r5)))
  (.reg grid_at_r6)))))))
  (.seq (.reg grid_at_r7)
  .ret)))), [.tmp 4]⟩
theorem grid_at_s : slimF Try.prog 92 = some grid_at_c := by kernel_rfl
abbrev grid_at_f : Nat := 92

def tbl_grid : List (Nat × SF) := [(16, grid_Check_c), (18, grid_Bounds_c), (19, grid_At_c), (22, grid_Scaled_c), (25, grid_Resample_c), (49, grid_Node_c), (50, grid_nodes_c), (52, grid_inputs_c), (53, grid_Hull_c), (54, grid_Quick_c), (55, grid_Raw_c), (57, grid_Resample_1_c), (56, grid_Make_c), (92, grid_at_c)]
theorem tbl_grid_ok : okT Try.prog tbl_grid := ⟨grid_Check_s, grid_Bounds_s, grid_At_s, grid_Scaled_s, grid_Resample_s, grid_Node_s, grid_nodes_s, grid_inputs_s, grid_Hull_s, grid_Quick_s, grid_Raw_s, grid_Resample_1_s, grid_Make_s, grid_at_s, trivial⟩

end Go.Proofs.Ythnfbdihihhoiaa
namespace Go.Proofs.Ythnfbdihihhoiaa
open Go Go.Lite
set_option linter.unusedVariables false

/-- printworks/printworksref2.Mod -/
def R2_Mod_r0 : List SO := [⟨(some 4), .assign (.const (.int .i64 0)), none⟩]
def R2_Mod_r1 : List SO := [⟨(some 5), .move (.tmp (0 : Nat)), none⟩,
  ⟨(some 6), .move (.tmp (1 : Nat)), none⟩,
  ⟨(some 7), .move (.tmp (0 : Nat)), none⟩,
  ⟨(some 8), .move (.tmp (1 : Nat)), none⟩,
  ⟨(some 9), .call ⟨(.value (.func (51 : Nat))), #[(.tmp (7 : Nat)), (.tmp (8 : Nat))], #[3, 3]⟩, none⟩,
  ⟨(some 10), .binOp .mul 3 (.tmp (6 : Nat)) (.tmp (9 : Nat)) 3, none⟩,
  ⟨(some 11), .binOp .sub 3 (.tmp (5 : Nat)) (.tmp (10 : Nat)) 3, none⟩,
  ⟨(some 4), .assign (.tmp (11 : Nat)), none⟩]
def R2_Mod_c : SF := ⟨12, (.seq (.reg R2_Mod_r0)
  (.seq (.reg R2_Mod_r1)
  .ret)), [.tmp 4]⟩
theorem R2_Mod_s : slimF Try.prog 17 = some R2_Mod_c := by kernel_rfl
abbrev R2_Mod_f : Nat := 17
/-- printworks/printworksref2.Power -/
def R2_Power_r0 : List SO := [⟨(some 4), .assign (.const (.int .i64 0)), none⟩]
def R2_Power_r1 : List SO := [⟨(some 5), .assign (.const (.int .i64 1)), none⟩]
def R2_Power_r2 : List SO := [⟨(some 6), .move (.tmp (1 : Nat)), none⟩,
  ⟨(some 7), .move (.const (.int .i64 0)), none⟩]
def R2_Power_r3 : List SO := [⟨(some 8), .binOp .lss 3 (.tmp (7 : Nat)) (.tmp (6 : Nat)) 3, none⟩]
def R2_Power_r4 : List SO := [⟨(some 9), .move (.tmp (5 : Nat)), none⟩,
  ⟨(some 10), .move (.tmp (0 : Nat)), none⟩,
  ⟨(some 11), .binOp .mul 3 (.tmp (9 : Nat)) (.tmp (10 : Nat)) 3, none⟩,
  ⟨(some 5), .assign (.tmp (11 : Nat)), none⟩]
def R2_Power_r5 : List SO := [⟨(some 12), .binOp .add 3 (.tmp (7 : Nat)) (.const (.int .i64 1)) 3, none⟩,
  ⟨(some 7), .move (.tmp (12 : Nat)), none⟩]
def R2_Power_r6 : List SO := [⟨(some 13), .move (.tmp (5 : Nat)), none⟩,
  ⟨(some 4), .assign (.tmp (13 : Nat)), none⟩]
def R2_Power_c : SF := ⟨14, (.seq (.reg R2_Power_r0)
  (.seq (.reg R2_Power_r1)
  (.seq (.seq (.reg R2_Power_r2)
  (.block 0 (.loop (.seq (.reg R2_Power_r3)
  (.seq (.cond (.tmp (8 : Nat)) .skip (.exit 0))
  (.seq (.block 1 (.reg R2_Power_r4))
  (.reg R2_Power_r5)))))))
  (.seq (.reg R2_Power_r6)
  .ret)))), [.tmp 4]⟩
theorem R2_Power_s : slimF Try.prog 20 = some R2_Power_c := by kernel_rfl
abbrev R2_Power_f : Nat := 20
/-- printworks/printworksref2.Index -/
def R2_Index_r0 : List SO := [⟨(some 2), .box 24 (.tmp (0 : Nat)), none⟩,
  ⟨(some 4), .assign (.const (.slice none 0 0)), none⟩]
def R2_Index_r1 : List SO := [⟨(some 7), .fieldAddr 24 (.tmp (2 : Nat)) 0, none⟩,
  ⟨(some 8), .load 3 (.tmp (7 : Nat)), none⟩,
  ⟨(some 9), .makeSlice 22 (.tmp (8 : Nat)) (.tmp (8 : Nat)), none⟩,
  ⟨(some 5), .assign (.tmp (9 : Nat)), none⟩]
def R2_Index_r2 : List SO := [⟨(some 10), .fieldAddr 24 (.tmp (2 : Nat)) 0, none⟩,
  ⟨(some 11), .load 3 (.tmp (10 : Nat)), none⟩,
  ⟨(some 12), .binOp .sub 3 (.tmp (11 : Nat)) (.const (.int .i64 1)) 3, none⟩,
  ⟨(some 6), .assign (.tmp (12 : Nat)), none⟩]
def R2_Index_r3 : List SO := [⟨(some 13), .move (.tmp (6 : Nat)), none⟩,
  ⟨(some 14), .binOp .geq 3 (.tmp (13 : Nat)) (.const (.int .i64 0)) 3, none⟩]
def R2_Index_r4 : List SO := [⟨(some 17), .move (.tmp (5 : Nat)), none⟩,
  ⟨(some 18), .move (.tmp (6 : Nat)), none⟩,
  ⟨(some 19), .move (.tmp (1 : Nat)), none⟩,
  ⟨(some 20), .fieldAddr 24 (.tmp (2 : Nat)) 2, none⟩,
  ⟨(some 21), .load 3 (.tmp (20 : Nat)), none⟩,
  ⟨(some 22), .binOp .rem 3 (.tmp (19 : Nat)) (.tmp (21 : Nat)) 3, none⟩,
  ⟨(some 23), .indexAddr 22 (.tmp (17 : Nat)) (.tmp (18 : Nat)), none⟩,
  ⟨none, .store 3 (.tmp (23 : Nat)) (.tmp (22 : Nat)), none⟩]
def R2_Index_r5 : List SO := [⟨(some 24), .move (.tmp (1 : Nat)), none⟩,
  ⟨(some 25), .fieldAddr 24 (.tmp (2 : Nat)) 2, none⟩,
  ⟨(some 26), .load 3 (.tmp (25 : Nat)), none⟩,
  ⟨(some 27), .binOp .quo 3 (.tmp (24 : Nat)) (.tmp (26 : Nat)) 3, none⟩,
  ⟨(some 1), .assign (.tmp (27 : Nat)), none⟩]
def R2_Index_r6 : List SO := [⟨(some 15), .move (.tmp (6 : Nat)), none⟩,
  ⟨(some 16), .binOp .sub 3 (.tmp (15 : Nat)) (.const (.int .i64 1)) 3, none⟩,
  ⟨(some 6), .assign (.tmp (16 : Nat)), none⟩]
def R2_Index_r7 : List SO := [⟨(some 28), .move (.tmp (5 : Nat)), none⟩,
  ⟨(some 4), .assign (.tmp (28 : Nat)), none⟩]
def R2_Index_c : SF := ⟨29, (.seq (.reg R2_Index_r0)
  (.seq (.reg R2_Index_r1)
  (.seq (.seq (.reg R2_Index_r2)
  (.block 0 (.loop (.seq (.seq (.reg R2_Index_r3)
  (.cond (.tmp (14 : Nat)) .skip (.exit 0)))
  (.seq (.block 1 (.seq (.reg R2_Index_r4)
  (.reg R2_Index_r5)))
  (.reg R2_Index_r6))))))
  (.seq (.reg R2_Index_r7)
  .ret)))), [.tmp 4]⟩
theorem R2_Index_s : slimF Try.prog 21 = some R2_Index_c := by kernel_rfl
abbrev R2_Index_f : Nat := 21
/-- printworks/printworksref2.SameInts -/
def R2_SameInts_r0 : List SO := [⟨(some 4), .assign (.const (.bool false)), none⟩]
def R2_SameInts_r1 : List SO := [⟨(some 6), .move (.tmp (0 : Nat)), none⟩,
  ⟨(some 7), .call ⟨(.builtin .len), #[(.tmp (6 : Nat))], #[22]⟩, none⟩,
  ⟨(some 8), .move (.tmp (1 : Nat)), none⟩,
  ⟨(some 9), .call ⟨(.builtin .len), #[(.tmp (8 : Nat))], #[22]⟩, none⟩,
  ⟨(some 10), .binOp .neq 3 (.tmp (7 : Nat)) (.tmp (9 : Nat)) 3, none⟩]
def R2_SameInts_r2 : List SO := [⟨(some 4), .assign (.const (.bool false)), none⟩]
def R2_SameInts_r3 : List SO := [⟨(some 11), .move (.tmp (0 : Nat)), none⟩,
  ⟨(some 12), .call ⟨(.builtin .len), #[(.tmp (11 : Nat))], #[22]⟩, none⟩,
  ⟨(some 13), .move (.const (.int .i64 0)), none⟩]
def R2_SameInts_r4 : List SO := [⟨(some 14), .binOp .lss 3 (.tmp (13 : Nat)) (.tmp (12 : Nat)) 3, none⟩]
def R2_SameInts_r5 : List SO := [⟨(some 15), .move (.tmp (13 : Nat)), none⟩,
  ⟨(some 5), .assign (.tmp (15 : Nat)), none⟩]
def R2_SameInts_r6 : List SO := [⟨(some 16), .move (.tmp (0 : Nat)), none⟩,
  ⟨(some 17), .move (.tmp (5 : Nat)), none⟩,
  ⟨(some 18), .indexAddr 22 (.tmp (16 : Nat)) (.tmp (17 : Nat)), none⟩,
  ⟨(some 19), .load 3 (.tmp (18 : Nat)), none⟩,
  ⟨(some 20), .move (.tmp (1 : Nat)), none⟩,
  ⟨(some 21), .move (.tmp (5 : Nat)), none⟩,
  ⟨(some 22), .indexAddr 22 (.tmp (20 : Nat)) (.tmp (21 : Nat)), none⟩,
  ⟨(some 23), .load 3 (.tmp (22 : Nat)), none⟩,
  ⟨(some 24), .binOp .neq 3 (.tmp (19 : Nat)) (.tmp (23 : Nat)) 3, none⟩]
def R2_SameInts_a6 : List (List Nat) := [[], [], [0, 1], [2], [], [], [4, 5], [6], [3, 7]]
def R2_SameInts_r7 : List SO := [⟨(some 4), .assign (.const (.bool false)), none⟩]
def R2_SameInts_r8 : List SO := [⟨(some 25), .binOp .add 3 (.tmp (13 : Nat)) (.const (.int .i64 1)) 3, none⟩,
  ⟨(some 13), .move (.tmp (25 : Nat)), none⟩]
def R2_SameInts_r9 : List SO := [⟨(some 4), .assign (.const (.bool true)), none⟩]
def R2_SameInts_c : SF := ⟨26, (.seq (.reg R2_SameInts_r0)
  (.seq (.seq (.reg R2_SameInts_r1)
  (.cond (.tmp (10 : Nat)) (.seq (.reg R2_SameInts_r2)
  .ret) .skip))
  (.seq (.seq (.reg R2_SameInts_r3)
  (.block 0 (.loop (.seq (.reg R2_SameInts_r4)
  (.seq (.cond (.tmp (14 : Nat)) .skip (.exit 0))
  (.seq (.block 1 (.seq (.reg R2_SameInts_r5)
  (.seq (.regd R2_SameInts_r6 R2_SameInts_a6)
  (.cond (.tmp (24 : Nat)) (.seq (.reg R2_SameInts_r7)
  .ret) .skip))))
  (.reg R2_SameInts_r8)))))))
  (.seq (.reg R2_SameInts_r9)
  .ret)))), [.tmp 4]⟩
theorem R2_SameInts_s : slimF Try.prog 23 = some R2_SameInts_c := by kernel_rfl
abbrev R2_SameInts_f : Nat := 23
/-- printworks/printworksref2.Round -/
def R2_Round_r0 : List SO := [⟨(some 4), .assign (.const (.int .i64 0)), none⟩]
def R2_Round_r1 : List SO := [⟨(some 6), .move (.tmp (0 : Nat)), none⟩,
  ⟨(some 7), .move (.tmp (1 : Nat)), none⟩,
  ⟨(some 8), .call ⟨(.value (.func (51 : Nat))), #[(.tmp (6 : Nat)), (.tmp (7 : Nat))], #[3, 3]⟩, none⟩,
  ⟨(some 5), .assign (.tmp (8 : Nat)), none⟩]
def R2_Round_r2 : List SO := [⟨(some 9), .move (.tmp (0 : Nat)), none⟩,
  ⟨(some 10), .move (.tmp (5 : Nat)), none⟩,
  ⟨(some 11), .move (.tmp (1 : Nat)), none⟩,
  ⟨(some 12), .binOp .mul 3 (.tmp (10 : Nat)) (.tmp (11 : Nat)) 3, none⟩,
  ⟨(some 13), .binOp .sub 3 (.tmp (9 : Nat)) (.tmp (12 : Nat)) 3, none⟩,
  ⟨(some 14), .binOp .mul 3 (.const (.int .i64 2)) (.tmp (13 : Nat)) 3, none⟩,
  ⟨(some 15), .move (.tmp (1 : Nat)), none⟩,
  ⟨(some 16), .binOp .geq 3 (.tmp (14 : Nat)) (.tmp (15 : Nat)) 3, none⟩]
def R2_Round_r3 : List SO := [⟨(some 17), .move (.tmp (5 : Nat)), none⟩,
  ⟨(some 18), .binOp .add 3 (.tmp (17 : Nat)) (.const (.int .i64 1)) 3, none⟩,
  ⟨(some 5), .assign (.tmp (18 : Nat)), none⟩]
def R2_Round_r4 : List SO := [⟨(some 19), .move (.tmp (5 : Nat)), none⟩,
  ⟨(some 4), .assign (.tmp (19 : Nat)), none⟩]
def R2_Round_c : SF := ⟨20, (.seq (.reg R2_Round_r0)
  (.seq (.reg R2_Round_r1)
  (.seq (.seq (.reg R2_Round_r2)
  (.cond (.tmp (16 : Nat)) (.reg R2_Round_r3) .skip))
  (.seq (.reg R2_Round_r4)
  .ret)))), [.tmp 4]⟩
theorem R2_Round_s : slimF Try.prog 24 = some R2_Round_c := by kernel_rfl
abbrev R2_Round_f : Nat := 24
/-- printworks/printworksref2.SameBytes -/
def R2_SameBytes_r0 : List SO := [⟨(some 4), .assign (.const (.bool false)), none⟩]
def R2_SameBytes_r1 : List SO := [⟨(some 5), .move (.tmp (0 : Nat)), none⟩,
  ⟨(some 6), .convert 57 9 (.tmp (5 : Nat)), none⟩,
  ⟨(some 7), .move (.tmp (1 : Nat)), none⟩,
  ⟨(some 8), .convert 57 9 (.tmp (7 : Nat)), none⟩,
  ⟨(some 9), .binOp .eql 9 (.tmp (6 : Nat)) (.tmp (8 : Nat)) 9, none⟩,
  ⟨(some 4), .assign (.tmp (9 : Nat)), none⟩]
def R2_SameBytes_c : SF := ⟨10, (.seq (.reg R2_SameBytes_r0)
  (.seq (.reg R2_SameBytes_r1)
  .ret)), [.tmp 4]⟩
theorem R2_SameBytes_s : slimF Try.prog 36 = some R2_SameBytes_c := by kernel_rfl
abbrev R2_SameBytes_f : Nat := 36
/-- printworks/printworksref2.Gcd -/
def R2_Gcd_r0 : List SO := [⟨(some 4), .assign (.const (.int .i64 0)), none⟩]
def R2_Gcd_r1 : List SO := [⟨(some 6), .move (.tmp (0 : Nat)), none⟩,
  ⟨(some 7), .binOp .lss 3 (.tmp (6 : Nat)) (.const (.int .i64 0)) 3, none⟩]
def R2_Gcd_r2 : List SO := [⟨(some 8), .move (.tmp (0 : Nat)), none⟩,
  ⟨(some 9), .unOp .neg 3 (.tmp (8 : Nat)), none⟩,
  ⟨(some 0), .assign (.tmp (9 : Nat)), none⟩]
def R2_Gcd_r3 : List SO := [⟨(some 10), .move (.tmp (1 : Nat)), none⟩,
  ⟨(some 11), .binOp .lss 3 (.tmp (10 : Nat)) (.const (.int .i64 0)) 3, none⟩]
def R2_Gcd_r4 : List SO := [⟨(some 12), .move (.tmp (1 : Nat)), none⟩,
  ⟨(some 13), .unOp .neg 3 (.tmp (12 : Nat)), none⟩,
  ⟨(some 1), .assign (.tmp (13 : Nat)), none⟩]
def R2_Gcd_r5 : List SO := [⟨(some 14), .move (.tmp (0 : Nat)), none⟩,
  ⟨(some 15), .move (.tmp (1 : Nat)), none⟩,
  ⟨(some 16), .call ⟨(.builtin .max), #[(.tmp (14 : Nat)), (.tmp (15 : Nat))], #[3, 3]⟩, none⟩,
  ⟨(some 5), .assign (.tmp (16 : Nat)), none⟩]
def R2_Gcd_r6 : List SO := [⟨(some 19), .move (.tmp (0 : Nat)), none⟩,
  ⟨(some 20), .move (.tmp (5 : Nat)), none⟩,
  ⟨(some 21), .binOp .rem 3 (.tmp (19 : Nat)) (.tmp (20 : Nat)) 3, none⟩,
  ⟨(some 22), .binOp .eql 3 (.tmp (21 : Nat)) (.const (.int .i64 0)) 3, none⟩,
  ⟨(some 23), .move (.tmp (22 : Nat)), none⟩,
  ⟨(some 24), .move (.tmp (1 : Nat)), (some (23, true))⟩,
  ⟨(some 25), .move (.tmp (5 : Nat)), (some (23, true))⟩,
  ⟨(some 26), .binOp .rem 3 (.tmp (24 : Nat)) (.tmp (25 : Nat)) 3, (some (23, true))⟩,
  ⟨(some 27), .binOp .eql 3 (.tmp (26 : Nat)) (.const (.int .i64 0)) 3, (some (23, true))⟩,
  ⟨(some 28), .pick (.tmp (23 : Nat)) (.tmp (27 : Nat)) (.const (.bool false)), none⟩]
def R2_Gcd_r7 : List SO := [⟨(some 29), .move (.tmp (5 : Nat)), none⟩,
  ⟨(some 4), .assign (.tmp (29 : Nat)), none⟩]
def R2_Gcd_r8 : List SO := [⟨(some 17), .move (.tmp (5 : Nat)), none⟩,
  ⟨(some 18), .binOp .sub 3 (.tmp (17 : Nat)) (.const (.int .i64 1)) 3, none⟩,
  ⟨(some 5), .assign (.tmp (18 : Nat)), none⟩]
def R2_Gcd_c : SF := ⟨30, (.seq (.reg R2_Gcd_r0)
  (.seq (.seq (.reg R2_Gcd_r1)
  (.cond (.tmp (7 : Nat)) (.reg R2_Gcd_r2) .skip))
  (.seq (.seq (.reg R2_Gcd_r3)
  (.cond (.tmp (11 : Nat)) (.reg R2_Gcd_r4) .skip))
  (.seq (.reg R2_Gcd_r5)
  (.block 0 (.loop (.seq (.block 1 (.seq (.reg R2_Gcd_r6)
  (.cond (.tmp (28 : Nat)) (.seq (.reg R2_Gcd_r7)
  .ret) .skip)))
  (.reg R2_Gcd_r8)))))))), [.tmp 4]⟩
theorem R2_Gcd_s : slimF Try.prog 47 = some R2_Gcd_c := by kernel_rfl
abbrev R2_Gcd_f : Nat := 47
/-- printworks/printworksref2.Floor -/
def R2_Floor_r0 : List SO := [⟨(some 4), .assign (.const (.int .i64 0)), none⟩]
def R2_Floor_r1 : List SO := [⟨(some 6), .move (.tmp (0 : Nat)), none⟩,
  ⟨(some 7), .move (.tmp (1 : Nat)), none⟩,
  ⟨(some 8), .binOp .quo 3 (.tmp (6 : Nat)) (.tmp (7 : Nat)) 3, none⟩,
  ⟨(some 5), .assign (.tmp (8 : Nat)), none⟩]
def R2_Floor_r2 : List SO := [⟨(some 9), .move (.tmp (5 : Nat)), none⟩,
  ⟨(some 10), .move (.tmp (1 : Nat)), none⟩,
  ⟨(some 11), .binOp .mul 3 (.tmp (9 : Nat)) (.tmp (10 : Nat)) 3, none⟩,
  ⟨(some 12), .move (.tmp (0 : Nat)), none⟩,
  ⟨(some 13), .binOp .gtr 3 (.tmp (11 : Nat)) (.tmp (12 : Nat)) 3, none⟩]
def R2_Floor_r3 : List SO := [⟨(some 14), .move (.tmp (5 : Nat)), none⟩,
  ⟨(some 15), .binOp .sub 3 (.tmp (14 : Nat)) (.const (.int .i64 1)) 3, none⟩,
  ⟨(some 5), .assign (.tmp (15 : Nat)), none⟩]
def R2_Floor_r4 : List SO := [⟨(some 16), .move (.tmp (5 : Nat)), none⟩,
  ⟨(some 4), .assign (.tmp (16 : Nat)), none⟩]
def R2_Floor_c : SF := ⟨17, (.seq (.reg R2_Floor_r0)
  (.seq (.reg R2_Floor_r1)
  (.seq (.seq (.reg R2_Floor_r2)
  (.cond (.tmp (13 : Nat)) (.reg R2_Floor_r3) .skip))
  (.seq (.reg R2_Floor_r4)
  .ret)))), [.tmp 4]⟩
theorem R2_Floor_s : slimF Try.prog 51 = some R2_Floor_c := by kernel_rfl
abbrev R2_Floor_f : Nat := 51
/-- printworks/printworksref2.SameTexts -/
def R2_SameTexts_r0 : List SO := [⟨(some 4), .assign (.const (.bool false)), none⟩]
def R2_SameTexts_r1 : List SO := [⟨(some 6), .move (.tmp (0 : Nat)), none⟩,
  ⟨(some 7), .call ⟨(.builtin .len), #[(.tmp (6 : Nat))], #[42]⟩, none⟩,
  ⟨(some 8), .move (.tmp (1 : Nat)), none⟩,
  ⟨(some 9), .call ⟨(.builtin .len), #[(.tmp (8 : Nat))], #[42]⟩, none⟩,
  ⟨(some 10), .binOp .neq 3 (.tmp (7 : Nat)) (.tmp (9 : Nat)) 3, none⟩]
def R2_SameTexts_r2 : List SO := [⟨(some 4), .assign (.const (.bool false)), none⟩]
def R2_SameTexts_r3 : List SO := [⟨(some 11), .move (.tmp (0 : Nat)), none⟩,
  ⟨(some 12), .call ⟨(.builtin .len), #[(.tmp (11 : Nat))], #[42]⟩, none⟩,
  ⟨(some 13), .move (.const (.int .i64 0)), none⟩]
def R2_SameTexts_r4 : List SO := [⟨(some 14), .binOp .lss 3 (.tmp (13 : Nat)) (.tmp (12 : Nat)) 3, none⟩]
def R2_SameTexts_r5 : List SO := [⟨(some 15), .move (.tmp (13 : Nat)), none⟩,
  ⟨(some 5), .assign (.tmp (15 : Nat)), none⟩]
def R2_SameTexts_r6 : List SO := [⟨(some 16), .move (.tmp (0 : Nat)), none⟩,
  ⟨(some 17), .move (.tmp (5 : Nat)), none⟩,
  ⟨(some 18), .indexAddr 42 (.tmp (16 : Nat)) (.tmp (17 : Nat)), none⟩,
  ⟨(some 19), .load 9 (.tmp (18 : Nat)), none⟩,
  ⟨(some 20), .move (.tmp (1 : Nat)), none⟩,
  ⟨(some 21), .move (.tmp (5 : Nat)), none⟩,
  ⟨(some 22), .indexAddr 42 (.tmp (20 : Nat)) (.tmp (21 : Nat)), none⟩,
  ⟨(some 23), .load 9 (.tmp (22 : Nat)), none⟩,
  ⟨(some 24), .binOp .neq 9 (.tmp (19 : Nat)) (.tmp (23 : Nat)) 9, none⟩]
def R2_SameTexts_a6 : List (List Nat) := [[], [], [0, 1], [2], [], [], [4, 5], [6], [3, 7]]
def R2_SameTexts_r7 : List SO := [⟨(some 4), .assign (.const (.bool false)), none⟩]
def R2_SameTexts_r8 : List SO := [⟨(some 25), .binOp .add 3 (.tmp (13 : Nat)) (.const (.int .i64 1)) 3, none⟩,
  ⟨(some 13), .move (.tmp (25 : Nat)), none⟩]
def R2_SameTexts_r9 : List SO := [⟨(some 4), .assign (.const (.bool true)), none⟩]
def R2_SameTexts_c : SF := ⟨26, (.seq (.reg R2_SameTexts_r0)
  (.seq (.seq (.reg R2_SameTexts_r1)
  (.cond (.tmp (10 : Nat)) (.seq (.reg R2_SameTexts_r2)
  .ret) .skip))
  (.seq (.seq (.reg R2_SameTexts_r3)
  (.block 0 (.loop (.seq (.reg R2_SameTexts_r4)
  (.seq (.cond (.tmp (14 : Nat)) .skip (.exit 0))
  (.seq (.block 1 (.seq (.reg R2_SameTexts_r5)
  (.seq (.regd R2_SameTexts_r6 R2_SameTexts_a6)
  (.cond (.tmp (24 : Nat)) (.seq (.reg R2_SameTexts_r7)
  .ret) .skip))))
  (.reg R2_SameTexts_r8)))))))
  (.seq (.reg R2_SameTexts_r9)
  .ret)))), [.tmp 4]⟩
theorem R2_SameTexts_s : slimF Try.prog 61 = some R2_SameTexts_c := by kernel_rfl
abbrev R2_SameTexts_f : Nat := 61

def tbl_R2 : List (Nat × SF) := [(17, R2_Mod_c), (20, R2_Power_c), (21, R2_Index_c), (23, R2_SameInts_c), (24, R2_Round_c), (36, R2_SameBytes_c), (47, R2_Gcd_c), (51, R2_Floor_c), (61, R2_SameTexts_c)]
theorem tbl_R2_ok : okT Try.prog tbl_R2 := ⟨R2_Mod_s, R2_Power_s, R2_Index_s, R2_SameInts_s, R2_Round_s, R2_SameBytes_s, R2_Gcd_s, R2_Floor_s, R2_SameTexts_s, trivial⟩

end Go.Proofs.Ythnfbdihihhoiaa
namespace Go.Proofs.Ythnfbdihihhoiaa
open Go Go.Lite
set_option linter.unusedVariables false

/-- printworks/printworkskeep2.gridWorks -/
def K2_gridWorks_r0 : List SO := [⟨(some 0), .assign (.const (.bool false)), none⟩]
def K2_gridWorks_r1 : List SO := [⟨(some 9), .call ⟨(.value (.func (48 : Nat))), #[], #[]⟩, none⟩,
  ⟨(some 10), .buildSlice 22 2 #[(0, (.const (.int .i64 48960))), (1, (.const (.int .i64 16320)))], none⟩,
  ⟨(some 11), .call ⟨(.value (.func (19 : Nat))), #[(.tmp (9 : Nat)), (.tmp (10 : Nat))], #[24, 22]⟩, none⟩,
  ⟨(some 8), .move (.tmp (11 : Nat)), none⟩,
  ⟨(some 12), .extract (.tmp (8 : Nat)) 0, none⟩,
  ⟨(some 13), .extract (.tmp (8 : Nat)) 1, none⟩,
  ⟨(some 1), .assign (.tmp (12 : Nat)), none⟩,
  ⟨(some 2), .assign (.tmp (13 : Nat)), none⟩]
def K2_gridWorks_r2 : List SO := [⟨(some 15), .call ⟨(.value (.func (48 : Nat))), #[], #[]⟩, none⟩,
  ⟨(some 16), .buildSlice 22 2 #[(0, (.const (.int .i64 1))), (1, (.const (.int .i64 0)))], none⟩,
  ⟨(some 17), .call ⟨(.value (.func (49 : Nat))), #[(.tmp (15 : Nat)), (.tmp (16 : Nat))], #[24, 22]⟩, none⟩,
  ⟨(some 14), .move (.tmp (17 : Nat)), none⟩,
  ⟨(some 18), .extract (.tmp (14 : Nat)) 0, none⟩,
  ⟨(some 19), .extract (.tmp (14 : Nat)) 1, none⟩,
  ⟨(some 3), .assign (.tmp (18 : Nat)), none⟩,
  ⟨(some 4), .assign (.tmp (19 : Nat)), none⟩]
def K2_gridWorks_r3 : List SO := [⟨(some 21), .call ⟨(.value (.func (48 : Nat))), #[], #[]⟩, none⟩,
  ⟨(some 22), .buildSlice 22 2 #[(0, (.const (.int .i64 0))), (1, (.const (.int .i64 0)))], none⟩,
  ⟨(some 23), .buildSlice 22 2 #[(0, (.const (.int .i64 0))), (1, (.const (.int .i64 65280)))], none⟩,
  ⟨(some 24), .call ⟨(.value (.func (18 : Nat))), #[(.tmp (21 : Nat)), (.tmp (22 : Nat)), (.tmp (23 : Nat))], #[24, 22, 22]⟩, none⟩,
  ⟨(some 20), .move (.tmp (24 : Nat)), none⟩,
  ⟨(some 25), .extract (.tmp (20 : Nat)) 0, none⟩,
  ⟨(some 26), .extract (.tmp (20 : Nat)) 1, none⟩,
  ⟨(some 27), .extract (.tmp (20 : Nat)) 2, none⟩,
  ⟨(some 5), .assign (.tmp (25 : Nat)), none⟩,
  ⟨(some 6), .assign (.tmp (26 : Nat)), none⟩,
  ⟨(some 7), .assign (.tmp (27 : Nat)), none⟩]
def K2_gridWorks_r4 : List SO := [⟨(some 28), .move (.tmp (2 : Nat)), none⟩,
  ⟨(some 29), .binOp .eql 26 (.tmp (28 : Nat)) (.const (.int .i64 0)) 26, none⟩,
  ⟨(some 30), .move (.tmp (29 : Nat)), none⟩,
  ⟨(some 31), .move (.tmp (1 : Nat)), (some (30, true))⟩,
  ⟨(some 32), .buildSlice 22 1 #[(0, (.const (.int .i64 25)))], (some (30, true))⟩,
  ⟨(some 33), .call ⟨(.value (.func (23 : Nat))), #[(.tmp (31 : Nat)), (.tmp (32 : Nat))], #[22, 22]⟩, (some (30, true))⟩,
  ⟨(some 34), .pick (.tmp (30 : Nat)) (.tmp (33 : Nat)) (.const (.bool false)), none⟩,
  ⟨(some 35), .move (.tmp (34 : Nat)), none⟩,
  ⟨(some 36), .move (.tmp (4 : Nat)), (some (35, true))⟩,
  ⟨(some 37), .binOp .eql 26 (.tmp (36 : Nat)) (.const (.int .i64 0)) 26, (some (35, true))⟩,
  ⟨(some 38), .pick (.tmp (35 : Nat)) (.tmp (37 : Nat)) (.const (.bool false)), none⟩,
  ⟨(some 39), .move (.tmp (38 : Nat)), none⟩,
  ⟨(some 40), .move (.tmp (3 : Nat)), (some (39, true))⟩,
  ⟨(some 41), .buildSlice 22 1 #[(0, (.const (.int .i64 20)))], (some (39, true))⟩,
  ⟨(some 42), .call ⟨(.value (.func (23 : Nat))), #[(.tmp (40 : Nat)), (.tmp (41 : Nat))], #[22, 22]⟩, (some (39, true))⟩,
  ⟨(some 43), .pick (.tmp (39 : Nat)) (.tmp (42 : Nat)) (.const (.bool false)), none⟩,
  ⟨(some 44), .move (.tmp (43 : Nat)), none⟩,
  ⟨(some 45), .move (.tmp (7 : Nat)), (some (44, true))⟩,
  ⟨(some 46), .binOp .eql 26 (.tmp (45 : Nat)) (.const (.int .i64 0)) 26, (some (44, true))⟩,
  ⟨(some 47), .pick (.tmp (44 : Nat)) (.tmp (46 : Nat)) (.const (.bool false)), none⟩,
  ⟨(some 48), .move (.tmp (47 : Nat)), none⟩,
  ⟨(some 49), .move (.tmp (5 : Nat)), (some (48, true))⟩,
  ⟨(some 50), .buildSlice 22 1 #[(0, (.const (.int .i64 0)))], (some (48, true))⟩,
  ⟨(some 51), .call ⟨(.value (.func (23 : Nat))), #[(.tmp (49 : Nat)), (.tmp (50 : Nat))], #[22, 22]⟩, (some (48, true))⟩,
  ⟨(some 52), .pick (.tmp (48 : Nat)) (.tmp (51 : Nat)) (.const (.bool false)), none⟩,
  ⟨(some 53), .move (.tmp (52 : Nat)), none⟩,
  ⟨(some 54), .move (.tmp (6 : Nat)), (some (53, true))⟩,
  ⟨(some 55), .buildSlice 22 1 #[(0, (.const (.int .i64 10)))], (some (53, true))⟩,
  ⟨(some 56), .call ⟨(.value (.func (23 : Nat))), #[(.tmp (54 : Nat)), (.tmp (55 : Nat))], #[22, 22]⟩, (some (53, true))⟩,
  ⟨(some 57), .pick (.tmp (53 : Nat)) (.tmp (56 : Nat)) (.const (.bool false)), none⟩,
  ⟨(some 0), .assign (.tmp (57 : Nat)), none⟩]
def K2_gridWorks_c : SF := ⟨58, (.seq (.reg K2_gridWorks_r0)
  (.seq (.reg K2_gridWorks_r1)
  (.seq (.reg K2_gridWorks_r2)
  (.seq (.reg K2_gridWorks_r3)
  (.seq (.reg K2_gridWorks_r4)
  .ret))))), [.tmp 0]⟩
theorem K2_gridWorks_s : slimF Try.prog 15 = some K2_gridWorks_c := by kernel_rfl
abbrev K2_gridWorks_f : Nat := 15
/-- printworks/printworkskeep2.profileWorks -/
def K2_profileWorks_r0 : List SO := [⟨(some 0), .assign (.const (.bool false)), none⟩]
def K2_profileWorks_r1 : List SO := [⟨(some 8), .call ⟨(.value (.func (58 : Nat))), #[], #[]⟩, none⟩,
  ⟨(some 9), .buildSlice 22 1 #[(0, (.const (.int .i64 128)))], none⟩,
  ⟨(some 10), .call ⟨(.value (.func (29 : Nat))), #[(.tmp (8 : Nat)), (.tmp (9 : Nat))], #[45, 22]⟩, none⟩,
  ⟨(some 7), .move (.tmp (10 : Nat)), none⟩,
  ⟨(some 11), .extract (.tmp (7 : Nat)) 0, none⟩,
  ⟨(some 12), .extract (.tmp (7 : Nat)) 1, none⟩,
  ⟨(some 1), .alloc 53, none⟩,
  ⟨none, .store 53 (.tmp (1 : Nat)) (.tmp (11 : Nat)), none⟩,
  ⟨(some 2), .assign (.tmp (12 : Nat)), none⟩]
def K2_profileWorks_r2 : List SO := [⟨(some 14), .call ⟨(.value (.func (58 : Nat))), #[], #[]⟩, none⟩,
  ⟨(some 15), .call ⟨(.value (.func (59 : Nat))), #[(.tmp (14 : Nat))], #[45]⟩, none⟩,
  ⟨(some 13), .move (.tmp (15 : Nat)), none⟩,
  ⟨(some 16), .extract (.tmp (13 : Nat)) 0, none⟩,
  ⟨(some 17), .extract (.tmp (13 : Nat)) 1, none⟩,
  ⟨(some 3), .assign (.tmp (16 : Nat)), none⟩,
  ⟨(some 4), .assign (.tmp (17 : Nat)), none⟩]
def K2_profileWorks_r3 : List SO := [⟨(some 19), .move (.tmp (3 : Nat)), none⟩,
  ⟨(some 20), .call ⟨(.value (.func (60 : Nat))), #[(.tmp (19 : Nat))], #[57]⟩, none⟩,
  ⟨(some 18), .move (.tmp (20 : Nat)), none⟩,
  ⟨(some 21), .extract (.tmp (18 : Nat)) 0, none⟩,
  ⟨(some 22), .extract (.tmp (18 : Nat)) 1, none⟩,
  ⟨(some 5), .assign (.tmp (21 : Nat)), none⟩,
  ⟨(some 6), .assign (.tmp (22 : Nat)), none⟩]
def K2_profileWorks_r4 : List SO := [⟨(some 23), .move (.tmp (2 : Nat)), none⟩,
  ⟨(some 24), .binOp .eql 26 (.tmp (23 : Nat)) (.const (.int .i64 0)) 26, none⟩,
  ⟨(some 25), .move (.tmp (24 : Nat)), none⟩,
  ⟨(some 26), .load 53 (.tmp (1 : Nat)), (some (25, true))⟩,
  ⟨(some 27), .build 53 #[(0, (.const (.int .i64 5984))), (1, (.const (.int .i64 50))), (2, (.const (.int .i64 (-50))))], (some (25, true))⟩,
  ⟨(some 28), .binOp .eql 53 (.tmp (26 : Nat)) (.tmp (27 : Nat)) 53, (some (25, true))⟩,
  ⟨(some 29), .pick (.tmp (25 : Nat)) (.tmp (28 : Nat)) (.const (.bool false)), none⟩,
  ⟨(some 30), .move (.tmp (29 : Nat)), none⟩,
  ⟨(some 31), .move (.tmp (4 : Nat)), (some (30, true))⟩,
  ⟨(some 32), .binOp .eql 26 (.tmp (31 : Nat)) (.const (.int .i64 0)) 26, (some (30, true))⟩,
  ⟨(some 33), .pick (.tmp (30 : Nat)) (.tmp (32 : Nat)) (.const (.bool false)), none⟩,
  ⟨(some 34), .move (.tmp (33 : Nat)), none⟩,
  ⟨(some 35), .move (.tmp (3 : Nat)), (some (34, true))⟩,
  ⟨(some 36), .call ⟨(.builtin .len), #[(.tmp (35 : Nat))], #[57]⟩, (some (34, true))⟩,
  ⟨(some 37), .binOp .eql 3 (.tmp (36 : Nat)) (.const (.int .i64 104)) 3, (some (34, true))⟩,
  ⟨(some 38), .pick (.tmp (34 : Nat)) (.tmp (37 : Nat)) (.const (.bool false)), none⟩,
  ⟨(some 39), .move (.tmp (38 : Nat)), none⟩,
  ⟨(some 40), .move (.tmp (6 : Nat)), (some (39, true))⟩,
  ⟨(some 41), .binOp .eql 26 (.tmp (40 : Nat)) (.const (.int .i64 0)) 26, (some (39, true))⟩,
  ⟨(some 42), .pick (.tmp (39 : Nat)) (.tmp (41 : Nat)) (.const (.bool false)), none⟩,
  ⟨(some 43), .move (.tmp (42 : Nat)), none⟩,
  ⟨(some 44), .move (.tmp (5 : Nat)), (some (43, true))⟩,
  ⟨(some 45), .buildSlice 42 4 #[(0, (.const (.string ⟨([110, 97, 109, 101] : List UInt8).toArray⟩))), (1, (.const (.string ⟨([105, 110, 107, 115] : List UInt8).toArray⟩))), (2, (.const (.string ⟨([99, 117, 114, 118] : List UInt8).toArray⟩))), (3, (.const (.string ⟨([103, 114, 105, 100] : List UInt8).toArray⟩)))], (some (43, true))⟩,
  ⟨(some 46), .call ⟨(.value (.func (61 : Nat))), #[(.tmp (44 : Nat)), (.tmp (45 : Nat))], #[42, 42]⟩, (some (43, true))⟩,
  ⟨(some 47), .pick (.tmp (43 : Nat)) (.tmp (46 : Nat)) (.const (.bool false)), none⟩,
  ⟨(some 48), .move (.tmp (47 : Nat)), none⟩,
  ⟨(some 49), .buildSlice 57 9 #[(0, (.const (.int .u8 49))), (1, (.const (.int .u8 50))), (2, (.const (.int .u8 51))), (3, (.const (.int .u8 52))), (4, (.const (.int .u8 53))), (5, (.const (.int .u8 54))), (6, (.const (.int .u8 55))), (7, (.const (.int .u8 56))), (8, (.const (.int .u8 57)))], (some (48, true))⟩,
  ⟨(some 50), .convert 57 57 (.tmp (49 : Nat)), (some (48, true))⟩,
  ⟨(some 51), .call ⟨(.value (.func (62 : Nat))), #[(.tmp (50 : Nat))], #[57]⟩, (some (48, true))⟩,
  ⟨(some 52), .binOp .eql 3 (.tmp (51 : Nat)) (.const (.int .i64 3421780262)) 3, (some (48, true))⟩,
  ⟨(some 53), .pick (.tmp (48 : Nat)) (.tmp (52 : Nat)) (.const (.bool false)), none⟩,
  ⟨(some 0), .assign (.tmp (53 : Nat)), none⟩]
def K2_profileWorks_c : SF := ⟨54, (.seq (.reg K2_profileWorks_r0)
  (.seq (.reg K2_profileWorks_r1)
  (.seq (.reg K2_profileWorks_r2)
  (.seq (.reg K2_profileWorks_r3)
  (.seq (.reg K2_profileWorks_r4)
  .ret))))), [.tmp 0]⟩
theorem K2_profileWorks_s : slimF Try.prog 26 = some K2_profileWorks_c := by kernel_rfl
abbrev K2_profileWorks_f : Nat := 26
/-- printworks/printworkskeep2.rangecoderWorks -/
def K2_rangecoderWorks_r0 : List SO := [⟨(some 0), .assign (.const (.bool false)), none⟩]
def K2_rangecoderWorks_r1 : List SO := [⟨(some 8), .buildSlice 22 1 #[(0, (.const (.int .i64 0)))], none⟩,
  ⟨(some 9), .buildSlice 22 1 #[(0, (.const (.int .i64 1)))], none⟩,
  ⟨(some 10), .call ⟨(.value (.func (31 : Nat))), #[(.const (.int .i64 1)), (.tmp (8 : Nat)), (.tmp (9 : Nat))], #[3, 22, 22]⟩, none⟩,
  ⟨(some 7), .move (.tmp (10 : Nat)), none⟩,
  ⟨(some 11), .extract (.tmp (7 : Nat)) 0, none⟩,
  ⟨(some 12), .extract (.tmp (7 : Nat)) 1, none⟩,
  ⟨(some 1), .assign (.tmp (11 : Nat)), none⟩,
  ⟨(some 2), .assign (.tmp (12 : Nat)), none⟩]
def K2_rangecoderWorks_r2 : List SO := [⟨(some 14), .buildSlice 22 1 #[(0, (.const (.int .i64 0)))], none⟩,
  ⟨(some 15), .buildSlice 22 1 #[(0, (.const (.int .i64 0)))], none⟩,
  ⟨(some 16), .call ⟨(.value (.func (31 : Nat))), #[(.const (.int .i64 1)), (.tmp (14 : Nat)), (.tmp (15 : Nat))], #[3, 22, 22]⟩, none⟩,
  ⟨(some 13), .move (.tmp (16 : Nat)), none⟩,
  ⟨(some 17), .extract (.tmp (13 : Nat)) 0, none⟩,
  ⟨(some 18), .extract (.tmp (13 : Nat)) 1, none⟩,
  ⟨(some 3), .assign (.tmp (17 : Nat)), none⟩,
  ⟨(some 4), .assign (.tmp (18 : Nat)), none⟩]
def K2_rangecoderWorks_r3 : List SO := [⟨(some 20), .buildSlice 57 4 #[(0, (.const (.int .u8 127))), (1, (.const (.int .u8 255))), (2, (.const (.int .u8 255))), (3, (.const (.int .u8 255)))], none⟩,
  ⟨(some 21), .buildSlice 22 1 #[(0, (.const (.int .i64 0)))], none⟩,
  ⟨(some 22), .call ⟨(.value (.func (32 : Nat))), #[(.const (.int .i64 1)), (.tmp (20 : Nat)), (.tmp (21 : Nat))], #[3, 57, 22]⟩, none⟩,
  ⟨(some 19), .move (.tmp (22 : Nat)), none⟩,
  ⟨(some 23), .extract (.tmp (19 : Nat)) 0, none⟩,
  ⟨(some 24), .extract (.tmp (19 : Nat)) 1, none⟩,
  ⟨(some 5), .assign (.tmp (23 : Nat)), none⟩,
  ⟨(some 6), .assign (.tmp (24 : Nat)), none⟩]
def K2_rangecoderWorks_r4 : List SO := [⟨(some 25), .move (.tmp (2 : Nat)), none⟩,
  ⟨(some 26), .binOp .eql 26 (.tmp (25 : Nat)) (.const (.int .i64 0)) 26, none⟩,
  ⟨(some 27), .move (.tmp (26 : Nat)), none⟩,
  ⟨(some 28), .move (.tmp (1 : Nat)), (some (27, true))⟩,
  ⟨(some 29), .buildSlice 57 4 #[(0, (.const (.int .u8 127))), (1, (.const (.int .u8 255))), (2, (.const (.int .u8 255))), (3, (.const (.int .u8 255)))], (some (27, true))⟩,
  ⟨(some 30), .call ⟨(.value (.func (36 : Nat))), #[(.tmp (28 : Nat)), (.tmp (29 : Nat))], #[57, 57]⟩, (some (27, true))⟩,
  ⟨(some 31), .pick (.tmp (27 : Nat)) (.tmp (30 : Nat)) (.const (.bool false)), none⟩,
  ⟨(some 32), .move (.tmp (31 : Nat)), none⟩,
  ⟨(some 33), .move (.tmp (4 : Nat)), (some (32, true))⟩,
  ⟨(some 34), .binOp .eql 26 (.tmp (33 : Nat)) (.const (.int .i64 0)) 26, (some (32, true))⟩,
  ⟨(some 35), .pick (.tmp (32 : Nat)) (.tmp (34 : Nat)) (.const (.bool false)), none⟩,
  ⟨(some 36), .move (.tmp (35 : Nat)), none⟩,
  ⟨(some 37), .move (.tmp (3 : Nat)), (some (36, true))⟩,
  ⟨(some 38), .call ⟨(.builtin .len), #[(.tmp (37 : Nat))], #[57]⟩, (some (36, true))⟩,
  ⟨(some 39), .binOp .eql 3 (.tmp (38 : Nat)) (.const (.int .i64 0)) 3, (some (36, true))⟩,
  ⟨(some 40), .pick (.tmp (36 : Nat)) (.tmp (39 : Nat)) (.const (.bool false)), none⟩,
  ⟨(some 41), .move (.tmp (40 : Nat)), none⟩,
  ⟨(some 42), .move (.tmp (6 : Nat)), (some (41, true))⟩,
  ⟨(some 43), .binOp .eql 26 (.tmp (42 : Nat)) (.const (.int .i64 0)) 26, (some (41, true))⟩,
  ⟨(some 44), .pick (.tmp (41 : Nat)) (.tmp (43 : Nat)) (.const (.bool false)), none⟩,
  ⟨(some 45), .move (.tmp (44 : Nat)), none⟩,
  ⟨(some 46), .move (.tmp (5 : Nat)), (some (45, true))⟩,
  ⟨(some 47), .buildSlice 22 1 #[(0, (.const (.int .i64 1)))], (some (45, true))⟩,
  ⟨(some 48), .call ⟨(.value (.func (23 : Nat))), #[(.tmp (46 : Nat)), (.tmp (47 : Nat))], #[22, 22]⟩, (some (45, true))⟩,
  ⟨(some 49), .pick (.tmp (45 : Nat)) (.tmp (48 : Nat)) (.const (.bool false)), none⟩,
  ⟨(some 0), .assign (.tmp (49 : Nat)), none⟩]
def K2_rangecoderWorks_c : SF := ⟨50, (.seq (.reg K2_rangecoderWorks_r0)
  (.seq (.reg K2_rangecoderWorks_r1)
  (.seq (.reg K2_rangecoderWorks_r2)
  (.seq (.reg K2_rangecoderWorks_r3)
  (.seq (.reg K2_rangecoderWorks_r4)
  .ret))))), [.tmp 0]⟩
theorem K2_rangecoderWorks_s : slimF Try.prog 30 = some K2_rangecoderWorks_c := by kernel_rfl
abbrev K2_rangecoderWorks_f : Nat := 30
/-- printworks/printworkskeep2.reedsolomonWorks -/
def K2_reedsolomonWorks_r0 : List SO := [⟨(some 0), .assign (.const (.bool false)), none⟩]
def K2_reedsolomonWorks_r1 : List SO := [⟨(some 9), .buildSlice 57 1 #[(0, (.const (.int .u8 1)))], none⟩,
  ⟨(some 10), .call ⟨(.value (.func (40 : Nat))), #[(.tmp (9 : Nat)), (.const (.int .i64 2))], #[57, 3]⟩, none⟩,
  ⟨(some 8), .move (.tmp (10 : Nat)), none⟩,
  ⟨(some 11), .extract (.tmp (8 : Nat)) 0, none⟩,
  ⟨(some 12), .extract (.tmp (8 : Nat)) 1, none⟩,
  ⟨(some 1), .assign (.tmp (11 : Nat)), none⟩,
  ⟨(some 2), .assign (.tmp (12 : Nat)), none⟩]
def K2_reedsolomonWorks_r2 : List SO := [⟨(some 14), .buildSlice 57 3 #[(0, (.const (.int .u8 0))), (1, (.const (.int .u8 3))), (2, (.const (.int .u8 2)))], none⟩,
  ⟨(some 15), .call ⟨(.value (.func (42 : Nat))), #[(.tmp (14 : Nat)), (.const (.int .i64 2)), (.const (.slice none 0 0))], #[57, 3, 22]⟩, none⟩,
  ⟨(some 13), .move (.tmp (15 : Nat)), none⟩,
  ⟨(some 16), .extract (.tmp (13 : Nat)) 0, none⟩,
  ⟨(some 17), .extract (.tmp (13 : Nat)) 1, none⟩,
  ⟨(some 18), .extract (.tmp (13 : Nat)) 2, none⟩,
  ⟨(some 3), .assign (.tmp (16 : Nat)), none⟩,
  ⟨(some 4), .assign (.tmp (17 : Nat)), none⟩,
  ⟨(some 5), .assign (.tmp (18 : Nat)), none⟩]
def K2_reedsolomonWorks_r3 : List SO := [⟨(some 20), .call ⟨(.value (.func (75 : Nat))), #[(.const (.int .u8 2))], #[5]⟩, none⟩,
  ⟨(some 19), .move (.tmp (20 : Nat)), none⟩,
  ⟨(some 21), .extract (.tmp (19 : Nat)) 0, none⟩,
  ⟨(some 22), .extract (.tmp (19 : Nat)) 1, none⟩,
  ⟨(some 6), .assign (.tmp (21 : Nat)), none⟩,
  ⟨(some 7), .assign (.tmp (22 : Nat)), none⟩]
def K2_reedsolomonWorks_r4 : List SO := [⟨(some 23), .move (.tmp (2 : Nat)), none⟩,
  ⟨(some 24), .binOp .eql 26 (.tmp (23 : Nat)) (.const (.int .i64 0)) 26, none⟩,
  ⟨(some 25), .move (.tmp (24 : Nat)), none⟩,
  ⟨(some 26), .move (.tmp (1 : Nat)), (some (25, true))⟩,
  ⟨(some 27), .buildSlice 57 3 #[(0, (.const (.int .u8 1))), (1, (.const (.int .u8 3))), (2, (.const (.int .u8 2)))], (some (25, true))⟩,
  ⟨(some 28), .call ⟨(.value (.func (36 : Nat))), #[(.tmp (26 : Nat)), (.tmp (27 : Nat))], #[57, 57]⟩, (some (25, true))⟩,
  ⟨(some 29), .pick (.tmp (25 : Nat)) (.tmp (28 : Nat)) (.const (.bool false)), none⟩,
  ⟨(some 30), .move (.tmp (29 : Nat)), none⟩,
  ⟨(some 31), .move (.tmp (5 : Nat)), (some (30, true))⟩,
  ⟨(some 32), .binOp .eql 26 (.tmp (31 : Nat)) (.const (.int .i64 0)) 26, (some (30, true))⟩,
  ⟨(some 33), .pick (.tmp (30 : Nat)) (.tmp (32 : Nat)) (.const (.bool false)), none⟩,
  ⟨(some 34), .move (.tmp (33 : Nat)), none⟩,
  ⟨(some 35), .move (.tmp (4 : Nat)), (some (34, true))⟩,
  ⟨(some 36), .binOp .eql 3 (.tmp (35 : Nat)) (.const (.int .i64 1)) 3, (some (34, true))⟩,
  ⟨(some 37), .pick (.tmp (34 : Nat)) (.tmp (36 : Nat)) (.const (.bool false)), none⟩,
  ⟨(some 38), .move (.tmp (37 : Nat)), none⟩,
  ⟨(some 39), .move (.tmp (3 : Nat)), (some (38, true))⟩,
  ⟨(some 40), .move (.tmp (1 : Nat)), (some (38, true))⟩,
  ⟨(some 41), .call ⟨(.value (.func (36 : Nat))), #[(.tmp (39 : Nat)), (.tmp (40 : Nat))], #[57, 57]⟩, (some (38, true))⟩,
  ⟨(some 42), .pick (.tmp (38 : Nat)) (.tmp (41 : Nat)) (.const (.bool false)), none⟩,
  ⟨(some 43), .move (.tmp (42 : Nat)), none⟩,
  ⟨(some 44), .move (.tmp (7 : Nat)), (some (43, true))⟩,
  ⟨(some 45), .binOp .eql 26 (.tmp (44 : Nat)) (.const (.int .i64 0)) 26, (some (43, true))⟩,
  ⟨(some 46), .pick (.tmp (43 : Nat)) (.tmp (45 : Nat)) (.const (.bool false)), none⟩,
  ⟨(some 47), .move (.tmp (46 : Nat)), none⟩,
  ⟨(some 48), .move (.tmp (6 : Nat)), (some (47, true))⟩,
  ⟨(some 49), .binOp .eql 5 (.tmp (48 : Nat)) (.const (.int .u8 142)) 5, (some (47, true))⟩,
  ⟨(some 50), .pick (.tmp (47 : Nat)) (.tmp (49 : Nat)) (.const (.bool false)), none⟩,
  ⟨(some 51), .move (.tmp (50 : Nat)), none⟩,
  ⟨(some 52), .call ⟨(.value (.func (76 : Nat))), #[(.const (.int .u8 2)), (.const (.int .u8 128))], #[5, 5]⟩, (some (51, true))⟩,
  ⟨(some 53), .binOp .eql 5 (.tmp (52 : Nat)) (.const (.int .u8 29)) 5, (some (51, true))⟩,
  ⟨(some 54), .pick (.tmp (51 : Nat)) (.tmp (53 : Nat)) (.const (.bool false)), none⟩,
  ⟨(some 0), .assign (.tmp (54 : Nat)), none⟩]
def K2_reedsolomonWorks_c : SF := ⟨55, (.seq (.reg K2_reedsolomonWorks_r0)
  (.seq (.reg K2_reedsolomonWorks_r1)
  (.seq (.reg K2_reedsolomonWorks_r2)
  (.seq (.reg K2_reedsolomonWorks_r3)
  (.seq (.reg K2_reedsolomonWorks_r4)
  .ret))))), [.tmp 0]⟩
theorem K2_reedsolomonWorks_s : slimF Try.prog 39 = some K2_reedsolomonWorks_c := by kernel_rfl
abbrev K2_reedsolomonWorks_f : Nat := 39
/-- printworks/printworkskeep2.screenWorks -/
def K2_screenWorks_r0 : List SO := [⟨(some 0), .assign (.const (.bool false)), none⟩]
def K2_screenWorks_r1 : List SO := [⟨(some 13), .build 84 #[(0, (.const (.int .i64 2))), (1, (.const (.int .i64 1)))], none⟩,
  ⟨(some 1), .alloc 84, none⟩,
  ⟨none, .store 84 (.tmp (1 : Nat)) (.tmp (13 : Nat)), none⟩]
def K2_screenWorks_r2 : List SO := [⟨(some 15), .load 84 (.tmp (1 : Nat)), none⟩,
  ⟨(some 16), .call ⟨(.value (.func (45 : Nat))), #[(.tmp (15 : Nat)), (.const (.int .i64 1)), (.const (.int .i64 1))], #[84, 3, 3]⟩, none⟩,
  ⟨(some 14), .move (.tmp (16 : Nat)), none⟩,
  ⟨(some 17), .extract (.tmp (14 : Nat)) 0, none⟩,
  ⟨(some 18), .extract (.tmp (14 : Nat)) 1, none⟩,
  ⟨(some 2), .assign (.tmp (17 : Nat)), none⟩,
  ⟨(some 3), .assign (.tmp (18 : Nat)), none⟩]
def K2_screenWorks_r3 : List SO := [⟨(some 20), .load 84 (.tmp (1 : Nat)), none⟩,
  ⟨(some 21), .call ⟨(.value (.func (83 : Nat))), #[(.tmp (20 : Nat))], #[84]⟩, none⟩,
  ⟨(some 19), .move (.tmp (21 : Nat)), none⟩,
  ⟨(some 22), .extract (.tmp (19 : Nat)) 0, none⟩,
  ⟨(some 23), .extract (.tmp (19 : Nat)) 1, none⟩,
  ⟨(some 4), .assign (.tmp (22 : Nat)), none⟩,
  ⟨(some 5), .assign (.tmp (23 : Nat)), none⟩]
def K2_screenWorks_r4 : List SO := [⟨(some 25), .load 84 (.tmp (1 : Nat)), none⟩,
  ⟨(some 26), .call ⟨(.value (.func (84 : Nat))), #[(.tmp (25 : Nat)), (.const (.int .i64 128))], #[84, 3]⟩, none⟩,
  ⟨(some 24), .move (.tmp (26 : Nat)), none⟩,
  ⟨(some 27), .extract (.tmp (24 : Nat)) 0, none⟩,
  ⟨(some 28), .extract (.tmp (24 : Nat)) 1, none⟩,
  ⟨(some 6), .assign (.tmp (27 : Nat)), none⟩,
  ⟨(some 7), .assign (.tmp (28 : Nat)), none⟩]
def K2_screenWorks_r5 : List SO := [⟨(some 30), .load 84 (.tmp (1 : Nat)), none⟩,
  ⟨(some 31), .build 84 #[(0, (.const (.int .i64 1))), (1, (.const (.int .i64 1)))], none⟩,
  ⟨(some 32), .call ⟨(.value (.func (46 : Nat))), #[(.tmp (30 : Nat)), (.tmp (31 : Nat))], #[84, 84]⟩, none⟩,
  ⟨(some 29), .move (.tmp (32 : Nat)), none⟩,
  ⟨(some 33), .extract (.tmp (29 : Nat)) 0, none⟩,
  ⟨(some 34), .extract (.tmp (29 : Nat)) 1, none⟩,
  ⟨(some 8), .alloc 91, none⟩,
  ⟨none, .store 91 (.tmp (8 : Nat)) (.tmp (33 : Nat)), none⟩,
  ⟨(some 9), .assign (.tmp (34 : Nat)), none⟩]
def K2_screenWorks_r6 : List SO := [⟨(some 36), .load 84 (.tmp (1 : Nat)), none⟩,
  ⟨(some 37), .build 84 #[(0, (.const (.int .i64 1))), (1, (.const (.int .i64 1)))], none⟩,
  ⟨(some 38), .call ⟨(.value (.func (85 : Nat))), #[(.tmp (36 : Nat)), (.tmp (37 : Nat))], #[84, 84]⟩, none⟩,
  ⟨(some 35), .move (.tmp (38 : Nat)), none⟩,
  ⟨(some 39), .extract (.tmp (35 : Nat)) 0, none⟩,
  ⟨(some 40), .extract (.tmp (35 : Nat)) 1, none⟩,
  ⟨(some 41), .extract (.tmp (35 : Nat)) 2, none⟩,
  ⟨(some 10), .assign (.tmp (39 : Nat)), none⟩,
  ⟨(some 11), .assign (.tmp (40 : Nat)), none⟩,
  ⟨(some 12), .assign (.tmp (41 : Nat)), none⟩]
def K2_screenWorks_r7 : List SO := [⟨(some 42), .move (.tmp (3 : Nat)), none⟩,
  ⟨(some 43), .binOp .eql 26 (.tmp (42 : Nat)) (.const (.int .i64 0)) 26, none⟩,
  ⟨(some 44), .move (.tmp (43 : Nat)), none⟩,
  ⟨(some 45), .move (.tmp (2 : Nat)), (some (44, true))⟩,
  ⟨(some 46), .binOp .eql 3 (.tmp (45 : Nat)) (.const (.int .i64 4)) 3, (some (44, true))⟩,
  ⟨(some 47), .pick (.tmp (44 : Nat)) (.tmp (46 : Nat)) (.const (.bool false)), none⟩,
  ⟨(some 48), .move (.tmp (47 : Nat)), none⟩,
  ⟨(some 49), .move (.tmp (5 : Nat)), (some (48, true))⟩,
  ⟨(some 50), .binOp .eql 26 (.tmp (49 : Nat)) (.const (.int .i64 0)) 26, (some (48, true))⟩,
  ⟨(some 51), .pick (.tmp (48 : Nat)) (.tmp (50 : Nat)) (.const (.bool false)), none⟩,
  ⟨(some 52), .move (.tmp (51 : Nat)), none⟩,
  ⟨(some 53), .move (.tmp (4 : Nat)), (some (52, true))⟩,
  ⟨(some 54), .buildSlice 22 5 #[(0, (.const (.int .i64 0))), (1, (.const (.int .i64 1))), (2, (.const (.int .i64 2))), (3, (.const (.int .i64 3))), (4, (.const (.int .i64 4)))], (some (52, true))⟩,
  ⟨(some 55), .call ⟨(.value (.func (23 : Nat))), #[(.tmp (53 : Nat)), (.tmp (54 : Nat))], #[22, 22]⟩, (some (52, true))⟩,
  ⟨(some 56), .pick (.tmp (52 : Nat)) (.tmp (55 : Nat)) (.const (.bool false)), none⟩,
  ⟨(some 57), .move (.tmp (56 : Nat)), none⟩,
  ⟨(some 58), .move (.tmp (7 : Nat)), (some (57, true))⟩,
  ⟨(some 59), .binOp .eql 26 (.tmp (58 : Nat)) (.const (.int .i64 0)) 26, (some (57, true))⟩,
  ⟨(some 60), .pick (.tmp (57 : Nat)) (.tmp (59 : Nat)) (.const (.bool false)), none⟩,
  ⟨(some 61), .move (.tmp (60 : Nat)), none⟩,
  ⟨(some 62), .move (.tmp (6 : Nat)), (some (61, true))⟩,
  ⟨(some 63), .binOp .eql 3 (.tmp (62 : Nat)) (.const (.int .i64 3)) 3, (some (61, true))⟩,
  ⟨(some 64), .pick (.tmp (61 : Nat)) (.tmp (63 : Nat)) (.const (.bool false)), none⟩,
  ⟨(some 65), .move (.tmp (64 : Nat)), none⟩,
  ⟨(some 66), .move (.tmp (9 : Nat)), (some (65, true))⟩,
  ⟨(some 67), .binOp .eql 26 (.tmp (66 : Nat)) (.const (.int .i64 0)) 26, (some (65, true))⟩,
  ⟨(some 68), .pick (.tmp (65 : Nat)) (.tmp (67 : Nat)) (.const (.bool false)), none⟩,
  ⟨(some 69), .move (.tmp (68 : Nat)), none⟩,
  ⟨(some 70), .load 91 (.tmp (8 : Nat)), (some (69, true))⟩,
  ⟨(some 71), .build 91 #[(0, (.const (.int .i64 10))), (1, (.const (.int .i64 7))), (2, (.const (.int .i64 1)))], (some (69, true))⟩,
  ⟨(some 72), .binOp .eql 91 (.tmp (70 : Nat)) (.tmp (71 : Nat)) 91, (some (69, true))⟩,
  ⟨(some 73), .pick (.tmp (69 : Nat)) (.tmp (72 : Nat)) (.const (.bool false)), none⟩,
  ⟨(some 74), .move (.tmp (73 : Nat)), none⟩,
  ⟨(some 75), .move (.tmp (12 : Nat)), (some (74, true))⟩,
  ⟨(some 76), .binOp .eql 26 (.tmp (75 : Nat)) (.const (.int .i64 0)) 26, (some (74, true))⟩,
  ⟨(some 77), .pick (.tmp (74 : Nat)) (.tmp (76 : Nat)) (.const (.bool false)), none⟩,
  ⟨(some 78), .move (.tmp (77 : Nat)), none⟩,
  ⟨(some 79), .move (.tmp (10 : Nat)), (some (78, true))⟩,
  ⟨(some 80), .binOp .eql 3 (.tmp (79 : Nat)) (.const (.int .i64 1)) 3, (some (78, true))⟩,
  ⟨(some 81), .pick (.tmp (78 : Nat)) (.tmp (80 : Nat)) (.const (.bool false)), none⟩,
  ⟨(some 82), .move (.tmp (81 : Nat)), none⟩,
  ⟨(some 83), .move (.tmp (11 : Nat)), (some (82, true))⟩,
  ⟨(some 84), .binOp .eql 3 (.tmp (83 : Nat)) (.const (.int .i64 10)) 3, (some (82, true))⟩,
  ⟨(some 85), .pick (.tmp (82 : Nat)) (.tmp (84 : Nat)) (.const (.bool false)), none⟩,
  ⟨(some 0), .assign (.tmp (85 : Nat)), none⟩]
def K2_screenWorks_c : SF := ⟨86, (.seq (.reg K2_screenWorks_r0)
  (.seq (.reg K2_screenWorks_r1)
  (.seq (.reg K2_screenWorks_r2)
  (.seq (.reg K2_screenWorks_r3)
  (.seq (.reg K2_screenWorks_r4)
  (.seq (.reg K2_screenWorks_r5)
  (.seq (.reg K2_screenWorks_r6)
  (.seq (.reg K2_screenWorks_r7)
  .ret)))))))), [.tmp 0]⟩
theorem K2_screenWorks_s : slimF Try.prog 43 = some K2_screenWorks_c := by kernel_rfl
abbrev K2_screenWorks_f : Nat := 43
/-- printworks/printworkskeep2.square -/
def K2_square_r0 : List SO := [⟨(some 0), .alloc 24, none⟩]
def K2_square_r1 : List SO := [⟨(some 1), .buildSlice 22 4 #[(0, (.const (.int .i64 0))), (1, (.const (.int .i64 10))), (2, (.const (.int .i64 20))), (3, (.const (.int .i64 60)))], none⟩,
  ⟨(some 2), .build 24 #[(0, (.const (.int .i64 2))), (1, (.const (.int .i64 1))), (2, (.const (.int .i64 2))), (3, (.tmp (1 : Nat)))], none⟩,
  ⟨none, .store 24 (.tmp (0 : Nat)) (.tmp (2 : Nat)), none⟩]
def K2_square_c : SF := ⟨3, (.seq (.reg K2_square_r0)
  (.seq (.reg K2_square_r1)
  .ret)), [.cell 0 24]⟩
theorem K2_square_s : slimF Try.prog 48 = some K2_square_c := by kernel_rfl
abbrev K2_square_f : Nat := 48
/-- printworks/printworkskeep2.one -/
def K2_one_r0 : List SO := [⟨(some 0), .alloc 45, none⟩]
def K2_one_r1 : List SO := [⟨(some 1), .buildSlice 42 1 #[(0, (.const (.string ⟨([98, 108, 97, 99, 107] : List UInt8).toArray⟩)))], none⟩,
  ⟨(some 2), .call ⟨(.value (.func (94 : Nat))), #[], #[]⟩, none⟩,
  ⟨(some 3), .buildSlice 43 1 #[(0, (.tmp (2 : Nat)))], none⟩,
  ⟨(some 4), .buildSlice 22 6 #[(0, (.const (.int .i64 10000))), (1, (.const (.int .i64 0))), (2, (.const (.int .i64 0))), (3, (.const (.int .i64 2000))), (4, (.const (.int .i64 100))), (5, (.const (.int .i64 (-100))))], none⟩,
  ⟨(some 5), .build 24 #[(0, (.const (.int .i64 1))), (1, (.const (.int .i64 3))), (2, (.const (.int .i64 2))), (3, (.tmp (4 : Nat)))], none⟩,
  ⟨(some 6), .build 45 #[(0, (.const (.string ⟨([112, 49] : List UInt8).toArray⟩))), (1, (.tmp (1 : Nat))), (2, (.tmp (3 : Nat))), (3, (.tmp (5 : Nat)))], none⟩,
  ⟨none, .store 45 (.tmp (0 : Nat)) (.tmp (6 : Nat)), none⟩]
def K2_one_c : SF := ⟨7, (.seq (.reg K2_one_r0)
  (.seq (.reg K2_one_r1)
  .ret)), [.cell 0 45]⟩
theorem K2_one_s : slimF Try.prog 58 = some K2_one_c := by kernel_rfl
abbrev K2_one_f : Nat := 58
/-- printworks/printworkskeep2.line -/
def K2_line_r0 : List SO := [⟨(some 0), .alloc 51, none⟩]
def K2_line_r1 : List SO := [⟨(some 1), .build 160 #[], none⟩,
  ⟨(some 2), .build 160 #[(0, (.const (.int .i64 65280))), (1, (.const (.int .i64 65280)))], none⟩,
  ⟨(some 3), .buildSlice 49 2 #[(0, (.tmp (1 : Nat))), (1, (.tmp (2 : Nat)))], none⟩,
  ⟨(some 4), .build 51 #[(0, (.tmp (3 : Nat)))], none⟩,
  ⟨none, .store 51 (.tmp (0 : Nat)) (.tmp (4 : Nat)), none⟩]
def K2_line_c : SF := ⟨5, (.seq (.reg K2_line_r0)
  (.seq (.reg K2_line_r1)
  .ret)), [.cell 0 51]⟩
theorem K2_line_s : slimF Try.prog 94 = some K2_line_c := by kernel_rfl
abbrev K2_line_f : Nat := 94

def tbl_K2 : List (Nat × SF) := [(15, K2_gridWorks_c), (26, K2_profileWorks_c), (30, K2_rangecoderWorks_c), (39, K2_reedsolomonWorks_c), (43, K2_screenWorks_c), (48, K2_square_c), (58, K2_one_c), (94, K2_line_c)]
theorem tbl_K2_ok : okT Try.prog tbl_K2 := ⟨K2_gridWorks_s, K2_profileWorks_s, K2_rangecoderWorks_s, K2_reedsolomonWorks_s, K2_screenWorks_s, K2_square_s, K2_one_s, K2_line_s, trivial⟩

end Go.Proofs.Ythnfbdihihhoiaa
namespace Go.Proofs.Ythnfbdihihhoiaa
open Go Go.Lite
set_option linter.unusedVariables false

/-- printworks/printworkskeep2.GridRefined -/
def K2_GridRefined_r0 : List SO := [⟨(some 3), .box 24 (.tmp (0 : Nat)), none⟩,
  ⟨(some 6), .assign (.const (.bool false)), none⟩]
def K2_GridRefined_r1 : List SO := [⟨(some 17), .call ⟨(.value (.func (15 : Nat))), #[], #[]⟩, none⟩,
  ⟨(some 18), .unOp .not 4 (.tmp (17 : Nat)), none⟩]
def K2_GridRefined_r2 : List SO := [⟨(some 6), .assign (.const (.bool false)), none⟩]
def K2_GridRefined_r3 : List SO := [⟨(some 19), .fieldAddr 24 (.tmp (3 : Nat)) 2, none⟩,
  ⟨(some 20), .load 3 (.tmp (19 : Nat)), none⟩,
  ⟨(some 21), .binOp .mul 3 (.const (.int .i64 2)) (.tmp (20 : Nat)) 3, none⟩,
  ⟨(some 22), .binOp .sub 3 (.tmp (21 : Nat)) (.const (.int .i64 1)) 3, none⟩,
  ⟨(some 7), .assign (.tmp (22 : Nat)), none⟩]
def K2_GridRefined_r4 : List SO := [⟨(some 23), .move (.tmp (1 : Nat)), none⟩]
def K2_GridRefined_r5 : List SO := [⟨(some 24), .fieldAddr 24 (.tmp (3 : Nat)) 2, none⟩,
  ⟨(some 25), .load 3 (.tmp (24 : Nat)), none⟩,
  ⟨(some 26), .binOp .mul 3 (.const (.int .i64 3)) (.tmp (25 : Nat)) 3, none⟩,
  ⟨(some 27), .binOp .sub 3 (.tmp (26 : Nat)) (.const (.int .i64 2)) 3, none⟩,
  ⟨(some 7), .assign (.tmp (27 : Nat)), none⟩]
def K2_GridRefined_r6 : List SO := [⟨(some 29), .load 24 (.tmp (3 : Nat)), none⟩,
  ⟨(some 30), .move (.tmp (7 : Nat)), none⟩,
  ⟨(some 31), .call ⟨(.value (.func (25 : Nat))), #[(.tmp (29 : Nat)), (.tmp (30 : Nat))], #[24, 3]⟩, none⟩,
  ⟨(some 28), .move (.tmp (31 : Nat)), none⟩,
  ⟨(some 32), .extract (.tmp (28 : Nat)) 0, none⟩,
  ⟨(some 33), .extract (.tmp (28 : Nat)) 1, none⟩,
  ⟨(some 8), .alloc 24, none⟩,
  ⟨none, .store 24 (.tmp (8 : Nat)) (.tmp (32 : Nat)), none⟩,
  ⟨(some 9), .assign (.tmp (33 : Nat)), none⟩]
def K2_GridRefined_r7 : List SO := [⟨(some 34), .move (.tmp (9 : Nat)), none⟩,
  ⟨(some 35), .binOp .neq 26 (.tmp (34 : Nat)) (.const (.int .i64 0)) 26, none⟩,
  ⟨(some 36), .move (.tmp (35 : Nat)), none⟩,
  ⟨(some 37), .move (.tmp (2 : Nat)), (some (36, false))⟩,
  ⟨(some 38), .call ⟨(.builtin .len), #[(.tmp (37 : Nat))], #[22]⟩, (some (36, false))⟩,
  ⟨(some 39), .fieldAddr 24 (.tmp (3 : Nat)) 0, (some (36, false))⟩,
  ⟨(some 40), .load 3 (.tmp (39 : Nat)), (some (36, false))⟩,
  ⟨(some 41), .binOp .lss 3 (.tmp (38 : Nat)) (.tmp (40 : Nat)) 3, (some (36, false))⟩,
  ⟨(some 42), .pick (.tmp (36 : Nat)) (.const (.bool true)) (.tmp (41 : Nat)), none⟩]
def K2_GridRefined_r8 : List SO := [⟨(some 43), .fieldAddr 24 (.tmp (8 : Nat)) 3, none⟩,
  ⟨(some 44), .load 22 (.tmp (43 : Nat)), none⟩,
  ⟨(some 45), .call ⟨(.builtin .len), #[(.tmp (44 : Nat))], #[22]⟩, none⟩,
  ⟨(some 46), .binOp .eql 3 (.tmp (45 : Nat)) (.const (.int .i64 0)) 3, none⟩,
  ⟨(some 47), .move (.tmp (46 : Nat)), none⟩,
  ⟨(some 48), .move (.tmp (9 : Nat)), (some (47, false))⟩,
  ⟨(some 49), .binOp .eql 26 (.tmp (48 : Nat)) (.const (.int .i64 0)) 26, (some (47, false))⟩,
  ⟨(some 50), .pick (.tmp (47 : Nat)) (.const (.bool true)) (.tmp (49 : Nat)), none⟩,
  ⟨(some 6), .assign (.tmp (50 : Nat)), none⟩]
def K2_GridRefined_r9 : List SO := [⟨(some 51), .fieldAddr 24 (.tmp (3 : Nat)) 0, none⟩,
  ⟨(some 52), .load 3 (.tmp (51 : Nat)), none⟩,
  ⟨(some 53), .makeSlice 22 (.tmp (52 : Nat)) (.tmp (52 : Nat)), none⟩,
  ⟨(some 10), .assign (.tmp (53 : Nat)), none⟩]
def K2_GridRefined_r10 : List SO := [⟨(some 54), .move (.tmp (10 : Nat)), none⟩,
  ⟨(some 55), .call ⟨(.builtin .len), #[(.tmp (54 : Nat))], #[22]⟩, none⟩,
  ⟨(some 56), .move (.const (.int .i64 0)), none⟩]
def K2_GridRefined_r11 : List SO := [⟨(some 57), .binOp .lss 3 (.tmp (56 : Nat)) (.tmp (55 : Nat)) 3, none⟩]
def K2_GridRefined_r12 : List SO := [⟨(some 58), .move (.tmp (56 : Nat)), none⟩,
  ⟨(some 11), .assign (.tmp (58 : Nat)), none⟩]
def K2_GridRefined_r13 : List SO := [⟨(some 59), .move (.tmp (10 : Nat)), none⟩,
  ⟨(some 60), .move (.tmp (11 : Nat)), none⟩,
  ⟨(some 61), .move (.tmp (2 : Nat)), none⟩,
  ⟨(some 62), .move (.tmp (11 : Nat)), none⟩,
  ⟨(some 63), .indexAddr 22 (.tmp (61 : Nat)) (.tmp (62 : Nat)), none⟩,
  ⟨(some 64), .load 3 (.tmp (63 : Nat)), none⟩,
  ⟨(some 65), .call ⟨(.value (.func (17 : Nat))), #[(.tmp (64 : Nat)), (.const (.int .i64 65281))], #[3, 3]⟩, none⟩,
  ⟨(some 66), .indexAddr 22 (.tmp (59 : Nat)) (.tmp (60 : Nat)), none⟩,
  ⟨none, .store 3 (.tmp (66 : Nat)) (.tmp (65 : Nat)), none⟩]
def K2_GridRefined_r14 : List SO := [⟨(some 67), .binOp .add 3 (.tmp (56 : Nat)) (.const (.int .i64 1)) 3, none⟩,
  ⟨(some 56), .move (.tmp (67 : Nat)), none⟩]
def K2_GridRefined_r15 : List SO := [⟨(some 69), .load 24 (.tmp (3 : Nat)), none⟩,
  ⟨(some 70), .move (.tmp (10 : Nat)), none⟩,
  ⟨(some 71), .call ⟨(.value (.func (19 : Nat))), #[(.tmp (69 : Nat)), (.tmp (70 : Nat))], #[24, 22]⟩, none⟩,
  ⟨(some 68), .move (.tmp (71 : Nat)), none⟩,
  ⟨(some 72), .extract (.tmp (68 : Nat)) 0, none⟩,
  ⟨(some 73), .extract (.tmp (68 : Nat)) 1, none⟩,
  ⟨(some 12), .assign (.tmp (72 : Nat)), none⟩,
  ⟨(some 13), .assign (.tmp (73 : Nat)), none⟩]
def K2_GridRefined_r16 : List SO := [⟨(some 75), .load 24 (.tmp (8 : Nat)), none⟩,
  ⟨(some 76), .move (.tmp (10 : Nat)), none⟩,
  ⟨(some 77), .call ⟨(.value (.func (19 : Nat))), #[(.tmp (75 : Nat)), (.tmp (76 : Nat))], #[24, 22]⟩, none⟩,
  ⟨(some 74), .move (.tmp (77 : Nat)), none⟩,
  ⟨(some 78), .extract (.tmp (74 : Nat)) 0, none⟩,
  ⟨(some 79), .extract (.tmp (74 : Nat)) 1, none⟩,
  ⟨(some 14), .assign (.tmp (78 : Nat)), none⟩,
  ⟨(some 15), .assign (.tmp (79 : Nat)), none⟩]
def K2_GridRefined_r17 : List SO := [⟨(some 80), .move (.tmp (13 : Nat)), none⟩,
  ⟨(some 81), .binOp .neq 26 (.tmp (80 : Nat)) (.const (.int .i64 0)) 26, none⟩,
  ⟨(some 82), .move (.tmp (81 : Nat)), none⟩,
  ⟨(some 83), .move (.tmp (15 : Nat)), (some (82, false))⟩,
  ⟨(some 84), .binOp .neq 26 (.tmp (83 : Nat)) (.const (.int .i64 0)) 26, (some (82, false))⟩,
  ⟨(some 85), .pick (.tmp (82 : Nat)) (.const (.bool true)) (.tmp (84 : Nat)), none⟩,
  ⟨(some 86), .move (.tmp (85 : Nat)), none⟩,
  ⟨(some 87), .move (.tmp (12 : Nat)), (some (86, false))⟩,
  ⟨(some 88), .call ⟨(.builtin .len), #[(.tmp (87 : Nat))], #[22]⟩, (some (86, false))⟩,
  ⟨(some 89), .move (.tmp (14 : Nat)), (some (86, false))⟩,
  ⟨(some 90), .call ⟨(.builtin .len), #[(.tmp (89 : Nat))], #[22]⟩, (some (86, false))⟩,
  ⟨(some 91), .binOp .neq 3 (.tmp (88 : Nat)) (.tmp (90 : Nat)) 3, (some (86, false))⟩,
  ⟨(some 92), .pick (.tmp (86 : Nat)) (.const (.bool true)) (.tmp (91 : Nat)), none⟩]
def K2_GridRefined_r18 : List SO := [⟨(some 6), .assign (.const (.bool false)), none⟩]
def K2_GridRefined_r19 : List SO := [⟨(some 93), .move (.tmp (12 : Nat)), none⟩,
  ⟨(some 94), .call ⟨(.builtin .len), #[(.tmp (93 : Nat))], #[22]⟩, none⟩,
  ⟨(some 95), .move (.const (.int .i64 0)), none⟩]
def K2_GridRefined_r20 : List SO := [⟨(some 96), .binOp .lss 3 (.tmp (95 : Nat)) (.tmp (94 : Nat)) 3, none⟩]
def K2_GridRefined_r21 : List SO := [⟨(some 97), .move (.tmp (95 : Nat)), none⟩,
  ⟨(some 16), .assign (.tmp (97 : Nat)), none⟩]
def K2_GridRefined_r22 : List SO := [⟨(some 98), .move (.tmp (12 : Nat)), none⟩,
  ⟨(some 99), .move (.tmp (16 : Nat)), none⟩,
  ⟨(some 100), .indexAddr 22 (.tmp (98 : Nat)) (.tmp (99 : Nat)), none⟩,
  ⟨(some 101), .load 3 (.tmp (100 : Nat)), none⟩,
  ⟨(some 102), .move (.tmp (14 : Nat)), none⟩,
  ⟨(some 103), .move (.tmp (16 : Nat)), none⟩,
  ⟨(some 104), .indexAddr 22 (.tmp (102 : Nat)) (.tmp (103 : Nat)), none⟩,
  ⟨(some 105), .load 3 (.tmp (104 : Nat)), none⟩,
  ⟨(some 106), .binOp .sub 3 (.tmp (101 : Nat)) (.tmp (105 : Nat)) 3, none⟩,
  ⟨(some 107), .binOp .gtr 3 (.tmp (106 : Nat)) (.const (.int .i64 1)) 3, none⟩,
  ⟨(some 108), .move (.tmp (107 : Nat)), none⟩,
  ⟨(some 109), .move (.tmp (14 : Nat)), (some (108, false))⟩,
  ⟨(some 110), .move (.tmp (16 : Nat)), (some (108, false))⟩,
  ⟨(some 111), .indexAddr 22 (.tmp (109 : Nat)) (.tmp (110 : Nat)), (some (108, false))⟩,
  ⟨(some 112), .load 3 (.tmp (111 : Nat)), (some (108, false))⟩,
  ⟨(some 113), .move (.tmp (12 : Nat)), (some (108, false))⟩,
  ⟨(some 114), .move (.tmp (16 : Nat)), (some (108, false))⟩,
  ⟨(some 115), .indexAddr 22 (.tmp (113 : Nat)) (.tmp (114 : Nat)), (some (108, false))⟩,
  ⟨(some 116), .load 3 (.tmp (115 : Nat)), (some (108, false))⟩,
  ⟨(some 117), .binOp .sub 3 (.tmp (112 : Nat)) (.tmp (116 : Nat)) 3, (some (108, false))⟩,
  ⟨(some 118), .binOp .gtr 3 (.tmp (117 : Nat)) (.const (.int .i64 1)) 3, (some (108, false))⟩,
  ⟨(some 119), .pick (.tmp (108 : Nat)) (.const (.bool true)) (.tmp (118 : Nat)), none⟩]
def K2_GridRefined_a22 : List (List Nat) := [[], [], [0, 1], [2], [], [], [4, 5], [6], [3, 7], [8], [9], [10], [10], [11, 12, 10], [13, 10], [10], [10], [15, 16, 10], [17, 10], [14, 18, 10], [19, 10], [10, 20]]
def K2_GridRefined_r23 : List SO := [⟨(some 6), .assign (.const (.bool false)), none⟩]
def K2_GridRefined_r24 : List SO := [⟨(some 120), .binOp .add 3 (.tmp (95 : Nat)) (.const (.int .i64 1)) 3, none⟩,
  ⟨(some 95), .move (.tmp (120 : Nat)), none⟩]
def K2_GridRefined_r25 : List SO := [⟨(some 6), .assign (.const (.bool true)), none⟩]
def K2_GridRefined_c : SF := ⟨121, (.seq (.reg K2_GridRefined_r0)
  (.seq (.seq (.reg K2_GridRefined_r1)
  (.cond (.tmp (18 : Nat)) (.seq (.reg K2_GridRefined_r2)
  .ret) .skip))
  (.seq (.reg K2_GridRefined_r3)
  (.seq (.seq (.reg K2_GridRefined_r4)
  (.cond (.tmp (23 : Nat)) (.reg K2_GridRefined_r5) .skip))
  (.seq (.reg K2_GridRefined_r6)
  (.seq (.seq (.reg K2_GridRefined_r7)
  (.cond (.tmp (42 : Nat)) (.seq (.reg K2_GridRefined_r8)
  .ret) .skip))
  (.seq (.reg K2_GridRefined_r9)
  (.seq (.seq (.reg K2_GridRefined_r10)
  (.block 0 (.loop (.seq (.reg K2_GridRefined_r11)
  (.seq (.cond (.tmp (57 : Nat)) .skip (.exit 0))
  (.seq (.block 1 (.seq (.reg K2_GridRefined_r12)
  (.reg K2_GridRefined_r13)))
  (.reg K2_GridRefined_r14)))))))
  (.seq (.reg K2_GridRefined_r15)
  (.seq (.reg K2_GridRefined_r16)
  (.seq (.seq (.reg K2_GridRefined_r17)
  (.cond (.tmp (92 : Nat)) (.seq (.reg K2_GridRefined_r18)
  .ret) .skip))
  (.seq (.seq (.reg K2_GridRefined_r19)
  (.block 2 (.loop (.seq (.reg K2_GridRefined_r20)
  (.seq (.cond (.tmp (96 : Nat)) .skip (.exit 2))
  (.seq (.block 3 (.seq (.reg K2_GridRefined_r21)
  (.seq (.regd K2_GridRefined_r22 K2_GridRefined_a22)
  (.cond (.tmp (119 : Nat)) (.seq (.reg K2_GridRefined_r23)
  .ret) .skip))))
  (.reg K2_GridRefined_r24)))))))
  (.seq (.reg K2_GridRefined_r25)
  .ret))))))))))))), [.tmp 6]⟩
theorem K2_GridRefined_s : slimF Try.prog 6 = some K2_GridRefined_c := by kernel_rfl
abbrev K2_GridRefined_f : Nat := 6

def tbl_GridRefined : List (Nat × SF) := [(6, K2_GridRefined_c)]
theorem tbl_GridRefined_ok : okT Try.prog tbl_GridRefined := ⟨K2_GridRefined_s, trivial⟩

end Go.Proofs.Ythnfbdihihhoiaa
