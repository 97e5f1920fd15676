/- Printed by program: the functions' code in few words; the kernel checks it against the translation. -/
import Derived.Test.YthnfbdihihhoiaaRows
import Derived.Test.YthnfbdihihhoiaaLiteTP
namespace Go.Proofs.Ythnfbdihihhoiaa
open Go Go.Lite
set_option linter.unusedVariables false

/-- Int -/
abbrev Ei : Nat := 0
/-- Int × Int -/
abbrev E2i : Nat := 1
/-- List (Int × Int) -/
abbrev EL2iJ : Nat := 2
/-- Int -/
abbrev Ey : Nat := 3
/-- Bool -/
abbrev Eo : Nat := 4
/-- ByteArray -/
abbrev Es : Nat := 5
/-- ByteArray × List (Int) -/
abbrev EsLyJ : Nat := 6
/-- Int × Int -/
abbrev E2w : Nat := 7
@[reducible] def A (e : Nat) : Type := match e with
  | 0 => Int
  | 1 => Int × Int
  | 2 => List (Int × Int)
  | 3 => Int
  | 4 => Bool
  | 5 => ByteArray
  | 6 => ByteArray × List (Int)
  | 7 => Int × Int
  | _ => Unit
def eSz (e : Nat) : Nat := match e with
  | 0 => 1
  | 1 => 2
  | 2 => 1
  | 3 => 1
  | 4 => 1
  | 5 => 1
  | 6 => 2
  | 7 => 2
  | _ => 1
def eD (e : Nat) : A e := match e with
  | 0 => (0 : Int)
  | 1 => ((0 : Int), (0 : Int))
  | 2 => ([] : List (Int × Int))
  | 3 => (0 : Int)
  | 4 => false
  | 5 => (⟨#[]⟩ : ByteArray)
  | 6 => ((⟨#[]⟩ : ByteArray), ([] : List (Int)))
  | 7 => ((0 : Int), (0 : Int))
  | _ + 8 => ()
def encL0 (x : Int) : List LV := [.int .i64 (x)]
def enc0 (x : Int) : List (TV A) := [.int .i64 (x)]
def dec0 (cs : List (TV A)) : Option (Int) := match cs with
  | [.int .i64 x0] => some x0
  | _ => none
def encL1 (x : Int × Int) : List LV := [.int .i64 (x.1), .int .i64 (x.2)]
def enc1 (x : Int × Int) : List (TV A) := [.int .i64 (x.1), .int .i64 (x.2)]
def dec1 (cs : List (TV A)) : Option (Int × Int) := match cs with
  | [.int .i64 x0, .int .i64 x1] => some (x0, x1)
  | _ => none
def encL2 (x : List (Int × Int)) : List LV := [.ps 2 (List.length (x)) (List.flatMap encL1 (x))]
def enc2 (x : List (Int × Int)) : List (TV A) := [.lst 1 (x)]
def dec2 (cs : List (TV A)) : Option (List (Int × Int)) := match cs with
  | [.lst 1 x0] => some x0
  | _ => none
def encL3 (x : Int) : List LV := [.int .u8 (x)]
def enc3 (x : Int) : List (TV A) := [.int .u8 (x)]
def dec3 (cs : List (TV A)) : Option (Int) := match cs with
  | [.int .u8 x0] => some x0
  | _ => none
def encL4 (x : Bool) : List LV := [.bool (x)]
def enc4 (x : Bool) : List (TV A) := [.bool (x)]
def dec4 (cs : List (TV A)) : Option (Bool) := match cs with
  | [.bool x0] => some x0
  | _ => none
def encL5 (x : ByteArray) : List LV := [.str (x)]
def enc5 (x : ByteArray) : List (TV A) := [.str (x)]
def dec5 (cs : List (TV A)) : Option (ByteArray) := match cs with
  | [.str x0] => some x0
  | _ => none
def encL6 (x : ByteArray × List (Int)) : List LV := [.str (x.1), .ps 1 (List.length (x.2)) (List.flatMap encL3 (x.2))]
def enc6 (x : ByteArray × List (Int)) : List (TV A) := [.str (x.1), .lst 3 (x.2)]
def dec6 (cs : List (TV A)) : Option (ByteArray × List (Int)) := match cs with
  | [.str x0, .lst 3 x1] => some (x0, x1)
  | _ => none
def encL7 (x : Int × Int) : List LV := [.int .u32 (x.1), .int .u32 (x.2)]
def enc7 (x : Int × Int) : List (TV A) := [.int .u32 (x.1), .int .u32 (x.2)]
def dec7 (cs : List (TV A)) : Option (Int × Int) := match cs with
  | [.int .u32 x0, .int .u32 x1] => some (x0, x1)
  | _ => none
def eEncL (e : Nat) (a : A e) : List LV := match e, a with
  | 0, a => encL0 a
  | 1, a => encL1 a
  | 2, a => encL2 a
  | 3, a => encL3 a
  | 4, a => encL4 a
  | 5, a => encL5 a
  | 6, a => encL6 a
  | 7, a => encL7 a
  | _ + 8, _ => [.nilp]
def eEnc (e : Nat) (a : A e) : List (TV A) := match e, a with
  | 0, a => enc0 a
  | 1, a => enc1 a
  | 2, a => enc2 a
  | 3, a => enc3 a
  | 4, a => enc4 a
  | 5, a => enc5 a
  | 6, a => enc6 a
  | 7, a => enc7 a
  | _ + 8, _ => [.nilp]
def eDec (e : Nat) (cs : List (TV A)) : Option (A e) := match e with
  | 0 => dec0 cs
  | 1 => dec1 cs
  | 2 => dec2 cs
  | 3 => dec3 cs
  | 4 => dec4 cs
  | 5 => dec5 cs
  | 6 => dec6 cs
  | 7 => dec7 cs
  | _ + 8 => none
def eEl (t : Nat) : Option Nat := match t with
  | 22 => some 0
  | 43 => some 2
  | 57 => some 3
  | 79 => some 4
  | 42 => some 5
  | 136 => some 3
  | 49 => some 1
  | 164 => some 6
  | 118 => some 7
  | _ => none
def fl (e : Nat) : Bool := match e with
  | 0 => true
  | 1 => true
  | 2 => false
  | 3 => true
  | 4 => true
  | 5 => true
  | 6 => false
  | 7 => true
  | _ => false
def eByt (e : Nat) : Option (List (A e) → List Int) := match e with
  | 3 => some fun xs => xs
  | _ => none
theorem flat1 : ∀ xs : List Int, xs.flatMap (fun x => [LV.int .u8 x]) = xs.map (LV.int .u8)
  | [] => rfl
  | x :: r => congrArg (LV.int .u8 x :: ·) (flat1 r)
def R : Reg A := ⟨eSz, eD, eEncL, eEnc, eDec, eEl, eByt⟩
theorem R_ok : R.Ok where
  pos e := by show 0 < eSz e; unfold eSz; split <;> decide
  len e a := match e, a with
    | 0, a => rfl
    | 1, a => rfl
    | 2, a => rfl
    | 3, a => rfl
    | 4, a => rfl
    | 5, a => rfl
    | 6, a => rfl
    | 7, a => rfl
    | e + 8, a => rfl
  ok e a := match e, a with
    | 0, a => rfl
    | 1, a => rfl
    | 2, a => rfl
    | 3, a => rfl
    | 4, a => rfl
    | 5, a => rfl
    | 6, a => rfl
    | 7, a => rfl
    | e + 8, a => rfl
  dec e cs a h := match e, a, h with
    | 0, a, h => by
      replace h : dec0 cs = some a := h
      unfold dec0 at h
      split at h
      · cases h; rfl
      · cases h
    | 1, a, h => by
      replace h : dec1 cs = some a := h
      unfold dec1 at h
      split at h
      · cases h; rfl
      · cases h
    | 2, a, h => by
      replace h : dec2 cs = some a := h
      unfold dec2 at h
      split at h
      · cases h; rfl
      · cases h
    | 3, a, h => by
      replace h : dec3 cs = some a := h
      unfold dec3 at h
      split at h
      · cases h; rfl
      · cases h
    | 4, a, h => by
      replace h : dec4 cs = some a := h
      unfold dec4 at h
      split at h
      · cases h; rfl
      · cases h
    | 5, a, h => by
      replace h : dec5 cs = some a := h
      unfold dec5 at h
      split at h
      · cases h; rfl
      · cases h
    | 6, a, h => by
      replace h : dec6 cs = some a := h
      unfold dec6 at h
      split at h
      · cases h; rfl
      · cases h
    | 7, a, h => by
      replace h : dec7 cs = some a := h
      unfold dec7 at h
      split at h
      · cases h; rfl
      · cases h
    | e + 8, a, h => by cases h
  free e a := match e, a with
    | 0, a => rfl
    | 1, a => rfl
    | 2, a => rfl
    | 3, a => rfl
    | 4, a => rfl
    | 5, a => rfl
    | 6, a => rfl
    | 7, a => rfl
    | e + 8, a => rfl
  sol e a := match e, a with
    | 0, a => rfl
    | 1, a => rfl
    | 2, a => rfl
    | 3, a => rfl
    | 4, a => rfl
    | 5, a => rfl
    | 6, a => rfl
    | 7, a => rfl
    | e + 8, a => rfl
  byt e f h xs := match e, f, h with
    | 0, f, h => by cases h
    | 1, f, h => by cases h
    | 2, f, h => by cases h
    | 3, f, h => by cases h; exact flat1 xs
    | 4, f, h => by cases h
    | 5, f, h => by cases h
    | 6, f, h => by cases h
    | 7, f, h => by cases h
    | e + 8, f, h => by cases h
theorem fl_ok : ∀ e, fl e = true → ∀ a, psfreeL (R.encL e a) = true := fun e h a => match e, h, a with
  | 0, h, a => rfl
  | 1, h, a => rfl
  | 2, h, a => by cases h
  | 3, h, a => rfl
  | 4, h, a => rfl
  | 5, h, a => rfl
  | 6, h, a => by cases h
  | 7, h, a => rfl
  | e + 8, h, a => rfl

def tyL : List (Nat × TI) := [(0, ⟨.other, 1, false, [.dead]⟩),
  (24, ⟨.struct [(0, 1, false), (1, 1, false), (2, 1, false), (3, 1, false)], 4, true, [.int .i64 0, .int .i64 0, .int .i64 0, .nils]⟩),
  (26, ⟨.int .i64, 1, false, [.int .i64 0]⟩),
  (22, ⟨.slice 1 8 [.int .i64 0], 1, false, [.nils]⟩),
  (3, ⟨.int .i64, 1, false, [.int .i64 0]⟩),
  (34, ⟨.arr 3 1 false, 3, true, [.int .i64 0, .int .i64 0, .int .i64 0]⟩),
  (4, ⟨.bool, 1, false, [.bool false]⟩),
  (45, ⟨.struct [(0, 1, false), (1, 1, false), (2, 1, false), (3, 4, true)], 7, true, [.str ⟨([] : List UInt8).toArray⟩, .nils, .nils, .int .i64 0, .int .i64 0, .int .i64 0, .nils]⟩),
  (43, ⟨.slice 1 24 [.nils], 1, false, [.nils]⟩),
  (51, ⟨.struct [(0, 1, false)], 1, true, [.nils]⟩),
  (53, ⟨.struct [(0, 1, false), (1, 1, false), (2, 1, false)], 3, true, [.int .i64 0, .int .i64 0, .int .i64 0]⟩),
  (57, ⟨.slice 1 1 [.int .u8 0], 1, false, [.nils]⟩),
  (61, ⟨.other, 1, false, [.nilp]⟩),
  (68, ⟨.int .u64, 1, false, [.int .u64 0]⟩),
  (70, ⟨.other, 1, false, [.nilp]⟩),
  (5, ⟨.int .u8, 1, false, [.int .u8 0]⟩),
  (79, ⟨.slice 1 1 [.bool false], 1, false, [.nils]⟩),
  (84, ⟨.struct [(0, 1, false), (1, 1, false), (2, 1, false)], 3, true, [.int .i64 0, .int .i64 0, .int .i64 0]⟩),
  (87, ⟨.arr 2 1 false, 2, true, [.int .i64 0, .int .i64 0]⟩),
  (88, ⟨.arr 4 2 true, 8, true, [.int .i64 0, .int .i64 0, .int .i64 0, .int .i64 0, .int .i64 0, .int .i64 0, .int .i64 0, .int .i64 0]⟩),
  (91, ⟨.struct [(0, 1, false), (1, 1, false), (2, 1, false)], 3, true, [.int .i64 0, .int .i64 0, .int .i64 0]⟩),
  (94, ⟨.arr 2 3 true, 6, true, [.int .i64 0, .int .i64 0, .int .i64 0, .int .i64 0, .int .i64 0, .int .i64 0]⟩),
  (99, ⟨.other, 1, false, [.nilp]⟩),
  (104, ⟨.other, 1, false, [.nilf]⟩),
  (42, ⟨.slice 1 16 [.str ⟨([] : List UInt8).toArray⟩], 1, false, [.nils]⟩),
  (114, ⟨.other, 1, false, [.nilp]⟩),
  (121, ⟨.struct [(0, 1, false), (1, 1, false), (2, 1, false)], 3, true, [.nils, .int .u32 0, .int .i64 0]⟩),
  (125, ⟨.struct [(0, 3, true), (3, 1, false), (4, 1, false), (5, 1, false)], 6, true, [.nils, .int .u32 0, .int .i64 0, .int .u32 0, .nils, .bool false]⟩),
  (119, ⟨.int .u32, 1, false, [.int .u32 0]⟩),
  (9, ⟨.str, 1, false, [.str ⟨([] : List UInt8).toArray⟩]⟩),
  (131, ⟨.struct [(0, 3, true), (3, 1, false), (4, 1, false)], 5, true, [.nils, .int .u32 0, .int .i64 0, .int .u32 0, .nils]⟩),
  (136, ⟨.slice 1 1 [.int .u8 0], 1, false, [.nils]⟩),
  (150, ⟨.struct [(0, 1, false), (1, 1, false), (2, 1, false)], 3, true, [.int .i64 0, .int .i64 0, .int .i64 0]⟩),
  (156, ⟨.arr 4 1 false, 4, true, [.int .i64 0, .int .i64 0, .int .i64 0, .int .i64 0]⟩),
  (158, ⟨.arr 4 1 false, 4, true, [.nils, .nils, .nils, .nils]⟩),
  (49, ⟨.slice 2 16 [.int .i64 0, .int .i64 0], 1, false, [.nils]⟩),
  (160, ⟨.struct [(0, 1, false), (1, 1, false)], 2, true, [.int .i64 0, .int .i64 0]⟩),
  (162, ⟨.arr 4 1 false, 4, true, [.str ⟨([] : List UInt8).toArray⟩, .str ⟨([] : List UInt8).toArray⟩, .str ⟨([] : List UInt8).toArray⟩, .str ⟨([] : List UInt8).toArray⟩]⟩),
  (164, ⟨.slice 2 40 [.str ⟨([] : List UInt8).toArray⟩, .nils], 1, false, [.nils]⟩),
  (168, ⟨.struct [(0, 1, false), (1, 1, false)], 2, true, [.str ⟨([] : List UInt8).toArray⟩, .nils]⟩),
  (118, ⟨.slice 2 8 [.int .u32 0, .int .u32 0], 1, false, [.nils]⟩),
  (173, ⟨.other, 1, false, [.nilp]⟩),
  (175, ⟨.struct [(0, 1, false), (1, 1, false)], 2, true, [.int .u32 0, .int .u32 0]⟩),
  (181, ⟨.other, 1, false, [.nilf]⟩),
  (28, ⟨.other, 1, false, [.nilf]⟩),
  (128, ⟨.int .u64, 1, false, [.int .u64 0]⟩),
  (187, ⟨.int .i64, 1, false, [.int .i64 0]⟩),
  (196, ⟨.int .u64, 1, false, [.int .u64 0]⟩),
  (200, ⟨.other, 1, false, [.nilp]⟩),
  (202, ⟨.other, 1, false, [.nilp]⟩)]
theorem tyL_ok : okL (tiOf Try.prog) tyL := ⟨by kernel_rfl, by kernel_rfl, by kernel_rfl, by kernel_rfl, by kernel_rfl, by kernel_rfl, by kernel_rfl, by kernel_rfl, by kernel_rfl, by kernel_rfl, by kernel_rfl, by kernel_rfl, by kernel_rfl, by kernel_rfl, by kernel_rfl, by kernel_rfl, by kernel_rfl, by kernel_rfl, by kernel_rfl, by kernel_rfl, by kernel_rfl, by kernel_rfl, by kernel_rfl, by kernel_rfl, by kernel_rfl, by kernel_rfl, by kernel_rfl, by kernel_rfl, by kernel_rfl, by kernel_rfl, by kernel_rfl, by kernel_rfl, by kernel_rfl, by kernel_rfl, by kernel_rfl, by kernel_rfl, by kernel_rfl, by kernel_rfl, by kernel_rfl, by kernel_rfl, by kernel_rfl, by kernel_rfl, by kernel_rfl, by kernel_rfl, by kernel_rfl, by kernel_rfl, by kernel_rfl, by kernel_rfl, by kernel_rfl, by kernel_rfl, trivial⟩
def eqL : List (Nat × List Nat) := [(91, [0, 0, 0]), (53, [0, 0, 0])]
theorem eqL_ok : okL (eqOf Try.prog) eqL := ⟨by kernel_rfl, by kernel_rfl, trivial⟩
def nlL : List (Nat × Nat) := [(26, 0), (3, 0), (61, 2), (70, 2), (5, 0), (91, 0), (53, 0), (9, 0), (119, 0), (187, 0), (57, 3), (128, 0), (68, 0)]
theorem nlL_ok : okN (nilOf Try.prog) nlL := ⟨by kernel_rfl, by kernel_rfl, by kernel_rfl, by kernel_rfl, by kernel_rfl, by kernel_rfl, by kernel_rfl, by kernel_rfl, by kernel_rfl, by kernel_rfl, by kernel_rfl, by kernel_rfl, by kernel_rfl, trivial⟩
noncomputable def ty : TT := ⟨lookT tyL (tiOf Try.prog), lookT eqL (eqOf Try.prog), lookN nlL (nilOf Try.prog)⟩
theorem ty_ok : ty = ttOf Try.prog := by
  unfold ty ttOf
  rw [lookT_eq tyL_ok, lookT_eq eqL_ok, lookN_eq nlL_ok]
def Wi (x : Int) : Prop := rng .i64 x
def W2i (x : Int × Int) : Prop := rng .i64 x.1 ∧ rng .i64 x.2
def WL2iJ (x : List (Int × Int)) : Prop := (List.length x ≤ 9223372036854775807 ∧ ∀ y ∈ x, W2i y)
def Wy (x : Int) : Prop := rng .u8 x
def Wo (x : Bool) : Prop := True
def Ws (x : ByteArray) : Prop := ByteArray.size x ≤ 9223372036854775807
def WsLyJ (x : ByteArray × List (Int)) : Prop := ByteArray.size x.1 ≤ 9223372036854775807 ∧ (List.length x.2 ≤ 9223372036854775807 ∧ ∀ y ∈ x.2, Wy y)
def W2w (x : Int × Int) : Prop := rng .u32 x.1 ∧ rng .u32 x.2
theorem rdi : R.d Ei = (0 : Int) := rfl
theorem rd2i : R.d E2i = ((0 : Int), (0 : Int)) := rfl
theorem rdL2iJ : R.d EL2iJ = ([] : List (Int × Int)) := rfl
theorem rdy : R.d Ey = (0 : Int) := rfl
theorem rdo : R.d Eo = false := rfl
theorem rds : R.d Es = (⟨#[]⟩ : ByteArray) := rfl
theorem rdsLyJ : R.d EsLyJ = ((⟨#[]⟩ : ByteArray), ([] : List (Int))) := rfl
theorem rd2w : R.d E2w = ((0 : Int), (0 : Int)) := rfl
theorem env : Env A R Try.prog ty fl := ⟨R_ok, ty_ok, fl_ok, by kernel_rfl⟩

end Go.Proofs.Ythnfbdihihhoiaa
namespace Go.Proofs.Ythnfbdihihhoiaa
open Go Go.Lite
set_option linter.unusedVariables false

/-- printworks/reedsolomon.Encode -/
def reedsolomon_Encode_r0 : List SO := [⟨(some 4), .assign (.const (.slice none 0 0)), none⟩,
  ⟨(some 5), .assign (.const (.int .i64 0)), none⟩]
def reedsolomon_Encode_r1 : List SO := [⟨(some 13), .move (.tmp (1 : Nat)), none⟩,
  ⟨(some 14), .binOp .lss 3 (.tmp (13 : Nat)) (.const (.int .i64 1)) 3, none⟩,
  ⟨(some 15), .move (.tmp (14 : Nat)), none⟩,
  ⟨(some 16), .move (.tmp (1 : Nat)), (some (15, false))⟩,
  ⟨(some 17), .binOp .gtr 3 (.tmp (16 : Nat)) (.const (.int .i64 64)) 3, (some (15, false))⟩,
  ⟨(some 18), .pick (.tmp (15 : Nat)) (.const (.bool true)) (.tmp (17 : Nat)), none⟩]
def reedsolomon_Encode_r2 : List SO := [⟨(some 4), .assign (.const (.slice none 0 0)), none⟩,
  ⟨(some 5), .assign (.const (.int .i64 3)), none⟩]
def reedsolomon_Encode_r3 : List SO := [⟨(some 19), .move (.tmp (0 : Nat)), none⟩,
  ⟨(some 20), .call ⟨(.builtin .len), #[(.tmp (19 : Nat))], #[57]⟩, none⟩,
  ⟨(some 21), .binOp .eql 3 (.tmp (20 : Nat)) (.const (.int .i64 0)) 3, none⟩]
def reedsolomon_Encode_r4 : List SO := [⟨(some 4), .assign (.const (.slice none 0 0)), none⟩,
  ⟨(some 5), .assign (.const (.int .i64 1)), none⟩]
def reedsolomon_Encode_r5 : List SO := [⟨(some 22), .move (.tmp (0 : Nat)), none⟩,
  ⟨(some 23), .call ⟨(.builtin .len), #[(.tmp (22 : Nat))], #[57]⟩, none⟩,
  ⟨(some 24), .move (.tmp (1 : Nat)), none⟩,
  ⟨(some 25), .binOp .add 3 (.tmp (23 : Nat)) (.tmp (24 : Nat)) 3, none⟩,
  ⟨(some 26), .binOp .gtr 3 (.tmp (25 : Nat)) (.const (.int .i64 255)) 3, none⟩]
def reedsolomon_Encode_r6 : List SO := [⟨(some 4), .assign (.const (.slice none 0 0)), none⟩,
  ⟨(some 5), .assign (.const (.int .i64 2)), none⟩]
def reedsolomon_Encode_r7 : List SO := [⟨(some 27), .buildSlice 136 1 #[(0, (.const (.int .u8 1)))], none⟩,
  ⟨(some 6), .assign (.tmp (27 : Nat)), none⟩]
def reedsolomon_Encode_r8 : List SO := [⟨(some 28), .move (.tmp (1 : Nat)), none⟩,
  ⟨(some 29), .move (.const (.int .i64 0)), none⟩]
def reedsolomon_Encode_r9 : List SO := [⟨(some 30), .binOp .lss 3 (.tmp (29 : Nat)) (.tmp (28 : Nat)) 3, none⟩]
def reedsolomon_Encode_r10 : List SO := [⟨(some 31), .move (.tmp (29 : Nat)), none⟩,
  ⟨(some 7), .assign (.tmp (31 : Nat)), none⟩]
def reedsolomon_Encode_r11 : List SO := [⟨(some 32), .move (.tmp (6 : Nat)), none⟩,
  ⟨(some 33), .move (.tmp (7 : Nat)), none⟩,
  ⟨(some 34), .call ⟨(.value (.func (78 : Nat))), #[(.const (.int .u8 2)), (.tmp (33 : Nat))], #[5, 3]⟩, none⟩,
  ⟨(some 35), .buildSlice 136 2 #[(0, (.tmp (34 : Nat))), (1, (.const (.int .u8 1)))], none⟩,
  ⟨(some 36), .move (.tmp (1 : Nat)), none⟩,
  ⟨(some 37), .binOp .add 3 (.tmp (36 : Nat)) (.const (.int .i64 1)) 3, none⟩,
  ⟨(some 38), .call ⟨(.value (.func (77 : Nat))), #[(.tmp (32 : Nat)), (.tmp (35 : Nat)), (.tmp (37 : Nat))], #[136, 136, 3]⟩, none⟩,
  ⟨(some 6), .assign (.tmp (38 : Nat)), none⟩]
def reedsolomon_Encode_r12 : List SO := [⟨(some 39), .binOp .add 3 (.tmp (29 : Nat)) (.const (.int .i64 1)) 3, none⟩,
  ⟨(some 29), .move (.tmp (39 : Nat)), none⟩]
def reedsolomon_Encode_r13 : List SO := [⟨(some 40), .move (.tmp (1 : Nat)), none⟩,
  ⟨(some 41), .makeSlice 57 (.tmp (40 : Nat)) (.tmp (40 : Nat)), none⟩,
  ⟨(some 8), .assign (.tmp (41 : Nat)), none⟩]
def reedsolomon_Encode_r14 : List SO := [⟨(some 42), .move (.tmp (0 : Nat)), none⟩,
  ⟨(some 43), .call ⟨(.builtin .len), #[(.tmp (42 : Nat))], #[57]⟩, none⟩,
  ⟨(some 44), .move (.const (.int .i64 0)), none⟩]
def reedsolomon_Encode_r15 : List SO := [⟨(some 45), .binOp .lss 3 (.tmp (44 : Nat)) (.tmp (43 : Nat)) 3, none⟩]
def reedsolomon_Encode_r16 : List SO := [⟨(some 46), .indexAddr 57 (.tmp (42 : Nat)) (.tmp (44 : Nat)), none⟩,
  ⟨(some 47), .load 5 (.tmp (46 : Nat)), none⟩,
  ⟨(some 10), .assign (.tmp (47 : Nat)), none⟩]
def reedsolomon_Encode_r17 : List SO := [⟨(some 48), .move (.tmp (10 : Nat)), none⟩,
  ⟨(some 49), .move (.tmp (8 : Nat)), none⟩,
  ⟨(some 50), .indexAddr 57 (.tmp (49 : Nat)) (.const (.int .i64 0)), none⟩,
  ⟨(some 51), .load 5 (.tmp (50 : Nat)), none⟩,
  ⟨(some 52), .binOp .xor 5 (.tmp (48 : Nat)) (.tmp (51 : Nat)) 5, none⟩,
  ⟨(some 11), .assign (.tmp (52 : Nat)), none⟩]
def reedsolomon_Encode_r18 : List SO := [⟨(some 53), .move (.tmp (8 : Nat)), none⟩,
  ⟨(some 54), .move (.tmp (8 : Nat)), none⟩,
  ⟨(some 55), .slice 57 (.tmp (54 : Nat)) (some (.const (.int .i64 1))) none none, none⟩,
  ⟨(some 56), .call ⟨(.builtin .copy), #[(.tmp (53 : Nat)), (.tmp (55 : Nat))], #[57, 57]⟩, none⟩]
def reedsolomon_Encode_r19 : List SO := [⟨(some 57), .move (.tmp (8 : Nat)), none⟩,
  ⟨(some 58), .move (.tmp (1 : Nat)), none⟩,
  ⟨(some 59), .binOp .sub 3 (.tmp (58 : Nat)) (.const (.int .i64 1)) 3, none⟩,
  ⟨(some 60), .indexAddr 57 (.tmp (57 : Nat)) (.tmp (59 : Nat)), none⟩,
  ⟨none, .store 5 (.tmp (60 : Nat)) (.const (.int .u8 0)), none⟩]
def reedsolomon_Encode_r20 : List SO := [⟨(some 61), .move (.tmp (8 : Nat)), none⟩,
  ⟨(some 62), .call ⟨(.builtin .len), #[(.tmp (61 : Nat))], #[57]⟩, none⟩,
  ⟨(some 63), .move (.const (.int .i64 0)), none⟩]
def reedsolomon_Encode_r21 : List SO := [⟨(some 64), .binOp .lss 3 (.tmp (63 : Nat)) (.tmp (62 : Nat)) 3, none⟩]
def reedsolomon_Encode_r22 : List SO := [⟨(some 65), .move (.tmp (63 : Nat)), none⟩,
  ⟨(some 12), .assign (.tmp (65 : Nat)), none⟩]
def reedsolomon_Encode_r23 : List SO := [⟨(some 66), .move (.tmp (8 : Nat)), none⟩,
  ⟨(some 67), .move (.tmp (12 : Nat)), none⟩,
  ⟨(some 68), .indexAddr 57 (.tmp (66 : Nat)) (.tmp (67 : Nat)), none⟩,
  ⟨(some 69), .load 5 (.tmp (68 : Nat)), none⟩,
  ⟨(some 70), .move (.tmp (11 : Nat)), none⟩,
  ⟨(some 71), .move (.tmp (6 : Nat)), none⟩,
  ⟨(some 72), .move (.tmp (1 : Nat)), none⟩,
  ⟨(some 73), .binOp .sub 3 (.tmp (72 : Nat)) (.const (.int .i64 1)) 3, none⟩,
  ⟨(some 74), .move (.tmp (12 : Nat)), none⟩,
  ⟨(some 75), .binOp .sub 3 (.tmp (73 : Nat)) (.tmp (74 : Nat)) 3, none⟩,
  ⟨(some 76), .indexAddr 136 (.tmp (71 : Nat)) (.tmp (75 : Nat)), none⟩,
  ⟨(some 77), .load 5 (.tmp (76 : Nat)), none⟩,
  ⟨(some 78), .call ⟨(.value (.func (76 : Nat))), #[(.tmp (70 : Nat)), (.tmp (77 : Nat))], #[5, 5]⟩, none⟩,
  ⟨(some 79), .binOp .xor 5 (.tmp (69 : Nat)) (.tmp (78 : Nat)) 5, none⟩,
  ⟨(some 80), .indexAddr 57 (.tmp (66 : Nat)) (.tmp (67 : Nat)), none⟩,
  ⟨none, .store 5 (.tmp (80 : Nat)) (.tmp (79 : Nat)), none⟩]
def reedsolomon_Encode_a23 : List (List Nat) := [[], [], [0, 1], [2], [], [], [], [6], [], [7, 8], [5, 9], [10], [4, 11], [3, 12], [0, 1, 0, 1, 2, 3, 4, 5, 6, 7, 8, 9, 10, 11, 12, 13], [14, 13, 12, 0, 1, 2, 3, 4, 5, 6, 7, 8, 9, 10, 11, 12, 13]]
def reedsolomon_Encode_r24 : List SO := [⟨(some 81), .binOp .add 3 (.tmp (63 : Nat)) (.const (.int .i64 1)) 3, none⟩,
  ⟨(some 63), .move (.tmp (81 : Nat)), none⟩]
def reedsolomon_Encode_r25 : List SO := [⟨(some 82), .binOp .add 3 (.tmp (44 : Nat)) (.const (.int .i64 1)) 3, none⟩,
  ⟨(some 44), .move (.tmp (82 : Nat)), none⟩]
def reedsolomon_Encode_r26 : List SO := [⟨(some 83), .move (.tmp (0 : Nat)), none⟩,
  ⟨(some 84), .call ⟨(.builtin .append), #[(.const (.slice none 0 0)), (.tmp (83 : Nat))], #[57, 57]⟩, none⟩,
  ⟨(some 85), .move (.tmp (8 : Nat)), none⟩,
  ⟨(some 86), .call ⟨(.builtin .append), #[(.tmp (84 : Nat)), (.tmp (85 : Nat))], #[57, 57]⟩, none⟩,
  ⟨(some 4), .assign (.tmp (86 : Nat)), none⟩,
  ⟨(some 5), .assign (.const (.int .i64 0)), none⟩]
def reedsolomon_Encode_c : SF := ⟨87, (.seq (.reg reedsolomon_Encode_r0)
  (.seq (.seq (.reg reedsolomon_Encode_r1)
  (.cond (.tmp (18 : Nat)) (.seq (.reg reedsolomon_Encode_r2)
  .ret) .skip))
  (.seq (.seq (.reg reedsolomon_Encode_r3)
  (.cond (.tmp (21 : Nat)) (.seq (.reg reedsolomon_Encode_r4)
  .ret) .skip))
  (.seq (.seq (.reg reedsolomon_Encode_r5)
  (.cond (.tmp (26 : Nat)) (.seq (.reg reedsolomon_Encode_r6)
  .ret) .skip))
  (.seq (.reg reedsolomon_Encode_r7)
  (.seq (.seq (.reg reedsolomon_Encode_r8)
  (.block 0 (.loop (.seq (.reg reedsolomon_Encode_r9)
  (.seq (.cond (.tmp (30 : Nat)) .skip (.exit 0))
  (.seq (.block 1 (.seq (.reg reedsolomon_Encode_r10)
  (.reg reedsolomon_Encode_r11)))
  (.reg reedsolomon_Encode_r12)))))))
  (.seq (.reg reedsolomon_Encode_r13)
  (.seq (.seq (.reg reedsolomon_Encode_r14)
  (.block 2 (.loop (.seq (.reg reedsolomon_Encode_r15)
  (.seq (.cond (.tmp (45 : Nat)) .skip (.exit 2))
  (.seq (.block 3 (.seq (.reg reedsolomon_Encode_r16)
  (.seq (.reg reedsolomon_Encode_r17)
  (.seq (.reg reedsolomon_Encode_r18)
  (.seq (.reg reedsolomon_Encode_r19)
  (.seq (.reg reedsolomon_Encode_r20)
  (.block 4 (.loop (.seq (.reg reedsolomon_Encode_r21)
  (.seq (.cond (.tmp (64 : Nat)) .skip (.exit 4))
  (.seq (.block 5 (.seq (.reg reedsolomon_Encode_r22)
  (.regd reedsolomon_Encode_r23 reedsolomon_Encode_a23)))
  (.reg reedsolomon_Encode_r24))))))))))))
  (.reg reedsolomon_Encode_r25)))))))
  (.seq (.reg reedsolomon_Encode_r26)
  .ret))))))))), [.tmp 4, .tmp 5]⟩
theorem reedsolomon_Encode_s : slimF Try.prog 40 = some reedsolomon_Encode_c := by kernel_rfl
abbrev reedsolomon_Encode_f : Nat := 40
/-- printworks/reedsolomon.Valid -/
def reedsolomon_Valid_r0 : List SO := [⟨(some 4), .assign (.const (.bool false)), none⟩,
  ⟨(some 5), .assign (.const (.int .i64 0)), none⟩]
def reedsolomon_Valid_r1 : List SO := [⟨(some 9), .move (.tmp (0 : Nat)), none⟩,
  ⟨(some 10), .move (.tmp (1 : Nat)), none⟩,
  ⟨(some 11), .call ⟨(.value (.func (79 : Nat))), #[(.tmp (9 : Nat)), (.tmp (10 : Nat))], #[57, 3]⟩, none⟩,
  ⟨(some 6), .assign (.tmp (11 : Nat)), none⟩]
def reedsolomon_Valid_r2 : List SO := [⟨(some 12), .move (.tmp (6 : Nat)), none⟩,
  ⟨(some 13), .binOp .neq 26 (.tmp (12 : Nat)) (.const (.int .i64 0)) 26, none⟩]
def reedsolomon_Valid_r3 : List SO := [⟨(some 14), .move (.tmp (6 : Nat)), none⟩,
  ⟨(some 4), .assign (.const (.bool false)), none⟩,
  ⟨(some 5), .assign (.tmp (14 : Nat)), none⟩]
def reedsolomon_Valid_r4 : List SO := [⟨(some 16), .move (.tmp (0 : Nat)), none⟩,
  ⟨(some 17), .move (.tmp (1 : Nat)), none⟩,
  ⟨(some 18), .call ⟨(.value (.func (80 : Nat))), #[(.tmp (16 : Nat)), (.tmp (17 : Nat))], #[57, 3]⟩, none⟩,
  ⟨(some 15), .move (.tmp (18 : Nat)), none⟩,
  ⟨(some 19), .extract (.tmp (15 : Nat)) 0, none⟩,
  ⟨(some 20), .extract (.tmp (15 : Nat)) 1, none⟩,
  ⟨(some 7), .assign (.tmp (19 : Nat)), none⟩,
  ⟨(some 8), .assign (.tmp (20 : Nat)), none⟩]
def reedsolomon_Valid_r5 : List SO := [⟨(some 21), .move (.tmp (8 : Nat)), none⟩,
  ⟨(some 4), .assign (.tmp (21 : Nat)), none⟩,
  ⟨(some 5), .assign (.const (.int .i64 0)), none⟩]
def reedsolomon_Valid_c : SF := ⟨22, (.seq (.reg reedsolomon_Valid_r0)
  (.seq (.seq (.reg reedsolomon_Valid_r1)
  (.seq (.reg reedsolomon_Valid_r2)
  (.cond (.tmp (13 : Nat)) (.seq (.reg reedsolomon_Valid_r3)
  .ret) .skip)))
  (.seq (.reg reedsolomon_Valid_r4)
  (.seq (.reg reedsolomon_Valid_r5)
  .ret)))), [.tmp 4, .tmp 5]⟩
theorem reedsolomon_Valid_s : slimF Try.prog 41 = some reedsolomon_Valid_c := by kernel_rfl
abbrev reedsolomon_Valid_f : Nat := 41
/-- printworks/reedsolomon.Decode -/
def reedsolomon_Decode_r0 : List SO := [⟨(some 6), .assign (.const (.slice none 0 0)), none⟩,
  ⟨(some 7), .assign (.const (.int .i64 0)), none⟩,
  ⟨(some 8), .assign (.const (.int .i64 0)), none⟩]
def reedsolomon_Decode_r1 : List SO := [⟨(some 21), .move (.tmp (0 : Nat)), none⟩,
  ⟨(some 22), .move (.tmp (1 : Nat)), none⟩,
  ⟨(some 23), .call ⟨(.value (.func (79 : Nat))), #[(.tmp (21 : Nat)), (.tmp (22 : Nat))], #[57, 3]⟩, none⟩,
  ⟨(some 9), .assign (.tmp (23 : Nat)), none⟩]
def reedsolomon_Decode_r2 : List SO := [⟨(some 24), .move (.tmp (9 : Nat)), none⟩,
  ⟨(some 25), .binOp .neq 26 (.tmp (24 : Nat)) (.const (.int .i64 0)) 26, none⟩]
def reedsolomon_Decode_r3 : List SO := [⟨(some 26), .move (.tmp (9 : Nat)), none⟩,
  ⟨(some 6), .assign (.const (.slice none 0 0)), none⟩,
  ⟨(some 7), .assign (.const (.int .i64 0)), none⟩,
  ⟨(some 8), .assign (.tmp (26 : Nat)), none⟩]
def reedsolomon_Decode_r4 : List SO := [⟨(some 27), .move (.tmp (0 : Nat)), none⟩,
  ⟨(some 28), .call ⟨(.builtin .len), #[(.tmp (27 : Nat))], #[57]⟩, none⟩,
  ⟨(some 29), .makeSlice 79 (.tmp (28 : Nat)) (.tmp (28 : Nat)), none⟩,
  ⟨(some 10), .assign (.tmp (29 : Nat)), none⟩]
def reedsolomon_Decode_r5 : List SO := [⟨(some 30), .buildSlice 136 1 #[(0, (.const (.int .u8 1)))], none⟩,
  ⟨(some 11), .assign (.tmp (30 : Nat)), none⟩]
def reedsolomon_Decode_r6 : List SO := [⟨(some 31), .move (.tmp (2 : Nat)), none⟩,
  ⟨(some 32), .call ⟨(.builtin .len), #[(.tmp (31 : Nat))], #[22]⟩, none⟩,
  ⟨(some 33), .move (.const (.int .i64 0)), none⟩]
def reedsolomon_Decode_r7 : List SO := [⟨(some 34), .binOp .lss 3 (.tmp (33 : Nat)) (.tmp (32 : Nat)) 3, none⟩]
def reedsolomon_Decode_r8 : List SO := [⟨(some 35), .indexAddr 22 (.tmp (31 : Nat)) (.tmp (33 : Nat)), none⟩,
  ⟨(some 36), .load 3 (.tmp (35 : Nat)), none⟩,
  ⟨(some 13), .assign (.tmp (36 : Nat)), none⟩]
def reedsolomon_Decode_r9 : List SO := [⟨(some 37), .move (.tmp (13 : Nat)), none⟩,
  ⟨(some 38), .binOp .lss 3 (.tmp (37 : Nat)) (.const (.int .i64 0)) 3, none⟩,
  ⟨(some 39), .move (.tmp (38 : Nat)), none⟩,
  ⟨(some 40), .move (.tmp (13 : Nat)), (some (39, false))⟩,
  ⟨(some 41), .move (.tmp (0 : Nat)), (some (39, false))⟩,
  ⟨(some 42), .call ⟨(.builtin .len), #[(.tmp (41 : Nat))], #[57]⟩, (some (39, false))⟩,
  ⟨(some 43), .binOp .geq 3 (.tmp (40 : Nat)) (.tmp (42 : Nat)) 3, (some (39, false))⟩,
  ⟨(some 44), .pick (.tmp (39 : Nat)) (.const (.bool true)) (.tmp (43 : Nat)), none⟩]
def reedsolomon_Decode_r10 : List SO := [⟨(some 6), .assign (.const (.slice none 0 0)), none⟩,
  ⟨(some 7), .assign (.const (.int .i64 0)), none⟩,
  ⟨(some 8), .assign (.const (.int .i64 3)), none⟩]
def reedsolomon_Decode_r11 : List SO := [⟨(some 45), .move (.tmp (10 : Nat)), none⟩,
  ⟨(some 46), .move (.tmp (13 : Nat)), none⟩,
  ⟨(some 47), .indexAddr 79 (.tmp (45 : Nat)) (.tmp (46 : Nat)), none⟩,
  ⟨(some 48), .load 4 (.tmp (47 : Nat)), none⟩]
def reedsolomon_Decode_r12 : List SO := [⟨(some 6), .assign (.const (.slice none 0 0)), none⟩,
  ⟨(some 7), .assign (.const (.int .i64 0)), none⟩,
  ⟨(some 8), .assign (.const (.int .i64 7)), none⟩]
def reedsolomon_Decode_r13 : List SO := [⟨(some 49), .move (.tmp (10 : Nat)), none⟩,
  ⟨(some 50), .move (.tmp (13 : Nat)), none⟩,
  ⟨(some 51), .indexAddr 79 (.tmp (49 : Nat)) (.tmp (50 : Nat)), none⟩,
  ⟨none, .store 4 (.tmp (51 : Nat)) (.const (.bool true)), none⟩]
def reedsolomon_Decode_r14 : List SO := [⟨(some 52), .move (.tmp (11 : Nat)), none⟩,
  ⟨(some 53), .move (.tmp (0 : Nat)), none⟩,
  ⟨(some 54), .call ⟨(.builtin .len), #[(.tmp (53 : Nat))], #[57]⟩, none⟩,
  ⟨(some 55), .binOp .sub 3 (.tmp (54 : Nat)) (.const (.int .i64 1)) 3, none⟩,
  ⟨(some 56), .move (.tmp (13 : Nat)), none⟩,
  ⟨(some 57), .binOp .sub 3 (.tmp (55 : Nat)) (.tmp (56 : Nat)) 3, none⟩,
  ⟨(some 58), .call ⟨(.value (.func (78 : Nat))), #[(.const (.int .u8 2)), (.tmp (57 : Nat))], #[5, 3]⟩, none⟩,
  ⟨(some 59), .buildSlice 136 2 #[(0, (.const (.int .u8 1))), (1, (.tmp (58 : Nat)))], none⟩,
  ⟨(some 60), .call ⟨(.value (.func (77 : Nat))), #[(.tmp (52 : Nat)), (.tmp (59 : Nat)), (.const (.int .i64 256))], #[136, 136, 3]⟩, none⟩,
  ⟨(some 11), .assign (.tmp (60 : Nat)), none⟩]
def reedsolomon_Decode_r15 : List SO := [⟨(some 61), .binOp .add 3 (.tmp (33 : Nat)) (.const (.int .i64 1)) 3, none⟩,
  ⟨(some 33), .move (.tmp (61 : Nat)), none⟩]
def reedsolomon_Decode_r16 : List SO := [⟨(some 62), .move (.tmp (2 : Nat)), none⟩,
  ⟨(some 63), .call ⟨(.builtin .len), #[(.tmp (62 : Nat))], #[22]⟩, none⟩,
  ⟨(some 64), .move (.tmp (1 : Nat)), none⟩,
  ⟨(some 65), .binOp .gtr 3 (.tmp (63 : Nat)) (.tmp (64 : Nat)) 3, none⟩]
def reedsolomon_Decode_r17 : List SO := [⟨(some 6), .assign (.const (.slice none 0 0)), none⟩,
  ⟨(some 7), .assign (.const (.int .i64 0)), none⟩,
  ⟨(some 8), .assign (.const (.int .i64 21)), none⟩]
def reedsolomon_Decode_r18 : List SO := [⟨(some 66), .move (.tmp (0 : Nat)), none⟩,
  ⟨(some 67), .call ⟨(.builtin .append), #[(.const (.slice none 0 0)), (.tmp (66 : Nat))], #[57, 57]⟩, none⟩,
  ⟨(some 14), .assign (.tmp (67 : Nat)), none⟩]
def reedsolomon_Decode_r19 : List SO := [⟨(some 69), .move (.tmp (0 : Nat)), none⟩,
  ⟨(some 70), .move (.tmp (1 : Nat)), none⟩,
  ⟨(some 71), .call ⟨(.value (.func (80 : Nat))), #[(.tmp (69 : Nat)), (.tmp (70 : Nat))], #[57, 3]⟩, none⟩,
  ⟨(some 68), .move (.tmp (71 : Nat)), none⟩,
  ⟨(some 72), .extract (.tmp (68 : Nat)) 0, none⟩,
  ⟨(some 73), .extract (.tmp (68 : Nat)) 1, none⟩,
  ⟨(some 15), .assign (.tmp (72 : Nat)), none⟩,
  ⟨(some 16), .assign (.tmp (73 : Nat)), none⟩]
def reedsolomon_Decode_r20 : List SO := [⟨(some 74), .move (.tmp (16 : Nat)), none⟩]
def reedsolomon_Decode_r21 : List SO := [⟨(some 75), .move (.tmp (14 : Nat)), none⟩,
  ⟨(some 6), .assign (.tmp (75 : Nat)), none⟩,
  ⟨(some 7), .assign (.const (.int .i64 0)), none⟩,
  ⟨(some 8), .assign (.const (.int .i64 0)), none⟩]
def reedsolomon_Decode_r22 : List SO := [⟨(some 76), .move (.tmp (14 : Nat)), none⟩,
  ⟨(some 77), .move (.tmp (15 : Nat)), none⟩,
  ⟨(some 78), .move (.tmp (15 : Nat)), none⟩,
  ⟨(some 79), .move (.tmp (11 : Nat)), none⟩,
  ⟨(some 80), .move (.tmp (2 : Nat)), none⟩,
  ⟨(some 81), .call ⟨(.builtin .len), #[(.tmp (80 : Nat))], #[22]⟩, none⟩,
  ⟨(some 82), .call ⟨(.value (.func (82 : Nat))), #[(.tmp (78 : Nat)), (.tmp (79 : Nat)), (.tmp (81 : Nat))], #[136, 136, 3]⟩, none⟩,
  ⟨(some 83), .call ⟨(.value (.func (81 : Nat))), #[(.tmp (76 : Nat)), (.tmp (77 : Nat)), (.tmp (82 : Nat))], #[57, 136, 136]⟩, none⟩]
def reedsolomon_Decode_r23 : List SO := [⟨(some 17), .assign (.const (.int .i64 0)), none⟩,
  ⟨(some 18), .assign (.const (.int .i64 0)), none⟩]
def reedsolomon_Decode_r24 : List SO := [⟨(some 84), .move (.tmp (14 : Nat)), none⟩,
  ⟨(some 85), .call ⟨(.builtin .len), #[(.tmp (84 : Nat))], #[57]⟩, none⟩,
  ⟨(some 86), .move (.const (.int .i64 0)), none⟩]
def reedsolomon_Decode_r25 : List SO := [⟨(some 87), .binOp .lss 3 (.tmp (86 : Nat)) (.tmp (85 : Nat)) 3, none⟩]
def reedsolomon_Decode_r26 : List SO := [⟨(some 88), .move (.tmp (86 : Nat)), none⟩,
  ⟨(some 89), .indexAddr 57 (.tmp (84 : Nat)) (.tmp (86 : Nat)), none⟩,
  ⟨(some 90), .load 5 (.tmp (89 : Nat)), none⟩,
  ⟨(some 19), .assign (.tmp (88 : Nat)), none⟩,
  ⟨(some 20), .assign (.tmp (90 : Nat)), none⟩]
def reedsolomon_Decode_r27 : List SO := [⟨(some 91), .move (.tmp (20 : Nat)), none⟩,
  ⟨(some 92), .move (.tmp (0 : Nat)), none⟩,
  ⟨(some 93), .move (.tmp (19 : Nat)), none⟩,
  ⟨(some 94), .indexAddr 57 (.tmp (92 : Nat)) (.tmp (93 : Nat)), none⟩,
  ⟨(some 95), .load 5 (.tmp (94 : Nat)), none⟩,
  ⟨(some 96), .binOp .neq 5 (.tmp (91 : Nat)) (.tmp (95 : Nat)) 5, none⟩]
def reedsolomon_Decode_r28 : List SO := [⟨(some 97), .move (.tmp (17 : Nat)), none⟩,
  ⟨(some 98), .binOp .add 3 (.tmp (97 : Nat)) (.const (.int .i64 1)) 3, none⟩,
  ⟨(some 17), .assign (.tmp (98 : Nat)), none⟩]
def reedsolomon_Decode_r29 : List SO := [⟨(some 99), .move (.tmp (10 : Nat)), none⟩,
  ⟨(some 100), .move (.tmp (19 : Nat)), none⟩,
  ⟨(some 101), .indexAddr 79 (.tmp (99 : Nat)) (.tmp (100 : Nat)), none⟩,
  ⟨(some 102), .load 4 (.tmp (101 : Nat)), none⟩,
  ⟨(some 103), .unOp .not 4 (.tmp (102 : Nat)), none⟩]
def reedsolomon_Decode_r30 : List SO := [⟨(some 104), .move (.tmp (18 : Nat)), none⟩,
  ⟨(some 105), .binOp .add 3 (.tmp (104 : Nat)) (.const (.int .i64 1)) 3, none⟩,
  ⟨(some 18), .assign (.tmp (105 : Nat)), none⟩]
def reedsolomon_Decode_r31 : List SO := [⟨(some 106), .binOp .add 3 (.tmp (86 : Nat)) (.const (.int .i64 1)) 3, none⟩,
  ⟨(some 86), .move (.tmp (106 : Nat)), none⟩]
def reedsolomon_Decode_r32 : List SO := [⟨(some 108), .move (.tmp (14 : Nat)), none⟩,
  ⟨(some 109), .move (.tmp (1 : Nat)), none⟩,
  ⟨(some 110), .call ⟨(.value (.func (80 : Nat))), #[(.tmp (108 : Nat)), (.tmp (109 : Nat))], #[57, 3]⟩, none⟩,
  ⟨(some 107), .move (.tmp (110 : Nat)), none⟩,
  ⟨(some 111), .extract (.tmp (107 : Nat)) 0, none⟩,
  ⟨(some 112), .extract (.tmp (107 : Nat)) 1, none⟩,
  ⟨(some 16), .assign (.tmp (112 : Nat)), none⟩]
def reedsolomon_Decode_r33 : List SO := [⟨(some 113), .move (.tmp (16 : Nat)), none⟩,
  ⟨(some 114), .unOp .not 4 (.tmp (113 : Nat)), none⟩,
  ⟨(some 115), .move (.tmp (114 : Nat)), none⟩,
  ⟨(some 116), .move (.tmp (18 : Nat)), (some (115, false))⟩,
  ⟨(some 117), .binOp .mul 3 (.const (.int .i64 2)) (.tmp (116 : Nat)) 3, (some (115, false))⟩,
  ⟨(some 118), .move (.tmp (1 : Nat)), (some (115, false))⟩,
  ⟨(some 119), .move (.tmp (2 : Nat)), (some (115, false))⟩,
  ⟨(some 120), .call ⟨(.builtin .len), #[(.tmp (119 : Nat))], #[22]⟩, (some (115, false))⟩,
  ⟨(some 121), .binOp .sub 3 (.tmp (118 : Nat)) (.tmp (120 : Nat)) 3, (some (115, false))⟩,
  ⟨(some 122), .binOp .gtr 3 (.tmp (117 : Nat)) (.tmp (121 : Nat)) 3, (some (115, false))⟩,
  ⟨(some 123), .pick (.tmp (115 : Nat)) (.const (.bool true)) (.tmp (122 : Nat)), none⟩]
def reedsolomon_Decode_r34 : List SO := [⟨(some 6), .assign (.const (.slice none 0 0)), none⟩,
  ⟨(some 7), .assign (.const (.int .i64 0)), none⟩,
  ⟨(some 8), .assign (.const (.int .i64 21)), none⟩]
def reedsolomon_Decode_r35 : List SO := [⟨(some 124), .move (.tmp (14 : Nat)), none⟩,
  ⟨(some 125), .move (.tmp (17 : Nat)), none⟩,
  ⟨(some 6), .assign (.tmp (124 : Nat)), none⟩,
  ⟨(some 7), .assign (.tmp (125 : Nat)), none⟩,
  ⟨(some 8), .assign (.const (.int .i64 0)), none⟩]
def reedsolomon_Decode_c : SF := ⟨126, (.seq (.reg reedsolomon_Decode_r0)
  (.seq (.seq (.reg reedsolomon_Decode_r1)
  (.seq (.reg reedsolomon_Decode_r2)
  (.cond (.tmp (25 : Nat)) (.seq (.reg reedsolomon_Decode_r3)
  .ret) .skip)))
  (.seq (.reg reedsolomon_Decode_r4)
  (.seq (.reg reedsolomon_Decode_r5)
  (.seq (.seq (.reg reedsolomon_Decode_r6)
  (.block 0 (.loop (.seq (.reg reedsolomon_Decode_r7)
  (.seq (.cond (.tmp (34 : Nat)) .skip (.exit 0))
  (.seq (.block 1 (.seq (.reg reedsolomon_Decode_r8)
  (.seq (.seq (.reg reedsolomon_Decode_r9)
  (.cond (.tmp (44 : Nat)) (.seq (.reg reedsolomon_Decode_r10)
  .ret) .skip))
  (.seq (.seq (.reg reedsolomon_Decode_r11)
  (.cond (.tmp (48 : Nat)) (.seq (.reg reedsolomon_Decode_r12)
  .ret) .skip))
  (.seq (.reg reedsolomon_Decode_r13)
  (.reg reedsolomon_Decode_r14))))))
  (.reg reedsolomon_Decode_r15)))))))
  (.seq (.seq (.reg reedsolomon_Decode_r16)
  (.cond (.tmp (65 : Nat)) (.seq (.reg reedsolomon_Decode_r17)
  .ret) .skip))
  (.seq (.reg reedsolomon_Decode_r18)
  (.seq (.reg reedsolomon_Decode_r19)
  (.seq (.seq (.reg reedsolomon_Decode_r20)
  (.cond (.tmp (74 : Nat)) (.seq (.reg reedsolomon_Decode_r21)
  .ret) .skip))
  (.seq (.reg reedsolomon_Decode_r22)
  (.seq (.reg reedsolomon_Decode_r23)
  (.seq (.seq (.reg reedsolomon_Decode_r24)
  (.block 2 (.loop (.seq (.reg reedsolomon_Decode_r25)
  (.seq (.cond (.tmp (87 : Nat)) .skip (.exit 2))
  (.seq (.block 3 (.seq (.reg reedsolomon_Decode_r26)
  (.seq (.reg reedsolomon_Decode_r27)
  (.cond (.tmp (96 : Nat)) (.seq (.reg reedsolomon_Decode_r28)
  (.seq (.reg reedsolomon_Decode_r29)
  (.cond (.tmp (103 : Nat)) (.reg reedsolomon_Decode_r30) .skip))) .skip))))
  (.reg reedsolomon_Decode_r31)))))))
  (.seq (.seq (.reg reedsolomon_Decode_r32)
  (.seq (.reg reedsolomon_Decode_r33)
  (.cond (.tmp (123 : Nat)) (.seq (.reg reedsolomon_Decode_r34)
  .ret) .skip)))
  (.seq (.reg reedsolomon_Decode_r35)
  .ret)))))))))))))), [.tmp 6, .tmp 7, .tmp 8]⟩
theorem reedsolomon_Decode_s : slimF Try.prog 42 = some reedsolomon_Decode_c := by kernel_rfl
abbrev reedsolomon_Decode_f : Nat := 42
/-- printworks/reedsolomon.Inverse -/
def reedsolomon_Inverse_r0 : List SO := [⟨(some 2), .assign (.const (.int .u8 0)), none⟩,
  ⟨(some 3), .assign (.const (.int .i64 0)), none⟩]
def reedsolomon_Inverse_r1 : List SO := [⟨(some 4), .move (.tmp (0 : Nat)), none⟩,
  ⟨(some 5), .binOp .eql 5 (.tmp (4 : Nat)) (.const (.int .u8 0)) 5, none⟩]
def reedsolomon_Inverse_r2 : List SO := [⟨(some 2), .assign (.const (.int .u8 0)), none⟩,
  ⟨(some 3), .assign (.const (.int .i64 1)), none⟩]
def reedsolomon_Inverse_r3 : List SO := [⟨(some 6), .move (.tmp (0 : Nat)), none⟩,
  ⟨(some 7), .call ⟨(.value (.func (78 : Nat))), #[(.tmp (6 : Nat)), (.const (.int .i64 254))], #[5, 3]⟩, none⟩,
  ⟨(some 2), .assign (.tmp (7 : Nat)), none⟩,
  ⟨(some 3), .assign (.const (.int .i64 0)), none⟩]
def reedsolomon_Inverse_c : SF := ⟨8, (.seq (.reg reedsolomon_Inverse_r0)
  (.seq (.seq (.reg reedsolomon_Inverse_r1)
  (.cond (.tmp (5 : Nat)) (.seq (.reg reedsolomon_Inverse_r2)
  .ret) .skip))
  (.seq (.reg reedsolomon_Inverse_r3)
  .ret))), [.tmp 2, .tmp 3]⟩
theorem reedsolomon_Inverse_s : slimF Try.prog 75 = some reedsolomon_Inverse_c := by kernel_rfl
abbrev reedsolomon_Inverse_f : Nat := 75
/-- printworks/reedsolomon.Mul -/
def reedsolomon_Mul_r0 : List SO := [⟨(some 4), .assign (.const (.int .u8 0)), none⟩]
def reedsolomon_Mul_r1 : List SO := [⟨(some 5), .assign (.const (.int .u8 0)), none⟩]
def reedsolomon_Mul_r2 : List SO := [⟨(some 6), .move (.tmp (1 : Nat)), none⟩,
  ⟨(some 7), .binOp .gtr 5 (.tmp (6 : Nat)) (.const (.int .u8 0)) 5, none⟩]
def reedsolomon_Mul_r3 : List SO := [⟨(some 8), .move (.tmp (5 : Nat)), none⟩,
  ⟨(some 9), .move (.tmp (0 : Nat)), none⟩,
  ⟨(some 10), .move (.tmp (1 : Nat)), none⟩,
  ⟨(some 11), .binOp .and 5 (.tmp (10 : Nat)) (.const (.int .u8 1)) 5, none⟩,
  ⟨(some 12), .unOp .neg 5 (.tmp (11 : Nat)), none⟩,
  ⟨(some 13), .binOp .and 5 (.tmp (9 : Nat)) (.tmp (12 : Nat)) 5, none⟩,
  ⟨(some 14), .binOp .xor 5 (.tmp (8 : Nat)) (.tmp (13 : Nat)) 5, none⟩,
  ⟨(some 5), .assign (.tmp (14 : Nat)), none⟩]
def reedsolomon_Mul_r4 : List SO := [⟨(some 15), .move (.tmp (0 : Nat)), none⟩,
  ⟨(some 16), .binOp .shl 5 (.tmp (15 : Nat)) (.const (.int .u64 1)) 128, none⟩,
  ⟨(some 17), .move (.tmp (0 : Nat)), none⟩,
  ⟨(some 18), .binOp .shr 5 (.tmp (17 : Nat)) (.const (.int .u64 7)) 128, none⟩,
  ⟨(some 19), .unOp .neg 5 (.tmp (18 : Nat)), none⟩,
  ⟨(some 20), .binOp .and 5 (.const (.int .u8 29)) (.tmp (19 : Nat)) 5, none⟩,
  ⟨(some 21), .binOp .xor 5 (.tmp (16 : Nat)) (.tmp (20 : Nat)) 5, none⟩,
  ⟨(some 0), .assign (.tmp (21 : Nat)), none⟩]
def reedsolomon_Mul_r5 : List SO := [⟨(some 22), .move (.tmp (1 : Nat)), none⟩,
  ⟨(some 23), .binOp .shr 5 (.tmp (22 : Nat)) (.const (.int .u64 1)) 128, none⟩,
  ⟨(some 1), .assign (.tmp (23 : Nat)), none⟩]
def reedsolomon_Mul_r6 : List SO := [⟨(some 24), .move (.tmp (5 : Nat)), none⟩,
  ⟨(some 4), .assign (.tmp (24 : Nat)), none⟩]
def reedsolomon_Mul_c : SF := ⟨25, (.seq (.reg reedsolomon_Mul_r0)
  (.seq (.reg reedsolomon_Mul_r1)
  (.seq (.block 0 (.loop (.seq (.seq (.reg reedsolomon_Mul_r2)
  (.cond (.tmp (7 : Nat)) .skip (.exit 0)))
  (.block 1 (.seq (.reg reedsolomon_Mul_r3)
  (.seq (.reg reedsolomon_Mul_r4)
  (.reg reedsolomon_Mul_r5)))))))
  (.seq (.reg reedsolomon_Mul_r6)
  .ret)))), [.tmp 4]⟩
theorem reedsolomon_Mul_s : slimF Try.prog 76 = some reedsolomon_Mul_c := by kernel_rfl
abbrev reedsolomon_Mul_f : Nat := 76
/-- printworks/reedsolomon.power -/
def reedsolomon_power_r0 : List SO := [⟨(some 4), .assign (.const (.int .u8 0)), none⟩]
def reedsolomon_power_r1 : List SO := [⟨(some 5), .assign (.const (.int .u8 1)), none⟩]
def reedsolomon_power_r2 : List SO := [⟨(some 6), .move (.tmp (1 : Nat)), none⟩,
  ⟨(some 7), .binOp .gtr 3 (.tmp (6 : Nat)) (.const (.int .i64 0)) 3, none⟩]
def reedsolomon_power_r3 : List SO := [⟨(some 10), .move (.tmp (1 : Nat)), none⟩,
  ⟨(some 11), .binOp .and 3 (.tmp (10 : Nat)) (.const (.int .i64 1)) 3, none⟩,
  ⟨(some 12), .binOp .eql 3 (.tmp (11 : Nat)) (.const (.int .i64 1)) 3, none⟩]
def reedsolomon_power_r4 : List SO := [⟨(some 13), .move (.tmp (5 : Nat)), none⟩,
  ⟨(some 14), .move (.tmp (0 : Nat)), none⟩,
  ⟨(some 15), .call ⟨(.value (.func (76 : Nat))), #[(.tmp (13 : Nat)), (.tmp (14 : Nat))], #[5, 5]⟩, none⟩,
  ⟨(some 5), .assign (.tmp (15 : Nat)), none⟩]
def reedsolomon_power_r5 : List SO := [⟨(some 16), .move (.tmp (0 : Nat)), none⟩,
  ⟨(some 17), .move (.tmp (0 : Nat)), none⟩,
  ⟨(some 18), .call ⟨(.value (.func (76 : Nat))), #[(.tmp (16 : Nat)), (.tmp (17 : Nat))], #[5, 5]⟩, none⟩,
  ⟨(some 0), .assign (.tmp (18 : Nat)), none⟩]
def reedsolomon_power_r6 : List SO := [⟨(some 8), .move (.tmp (1 : Nat)), none⟩,
  ⟨(some 9), .binOp .shr 3 (.tmp (8 : Nat)) (.const (.int .u64 1)) 128, none⟩,
  ⟨(some 1), .assign (.tmp (9 : Nat)), none⟩]
def reedsolomon_power_r7 : List SO := [⟨(some 19), .move (.tmp (5 : Nat)), none⟩,
  ⟨(some 4), .assign (.tmp (19 : Nat)), none⟩]
def reedsolomon_power_c : SF := ⟨20, (.seq (.reg reedsolomon_power_r0)
  (.seq (.reg reedsolomon_power_r1)
  (.seq (.block 0 (.loop (.seq (.seq (.reg reedsolomon_power_r2)
  (.cond (.tmp (7 : Nat)) .skip (.exit 0)))
  (.seq (.block 1 (.seq (.seq (.reg reedsolomon_power_r3)
  (.cond (.tmp (12 : Nat)) (.reg reedsolomon_power_r4) .skip))
  (.reg reedsolomon_power_r5)))
  (.reg reedsolomon_power_r6)))))
  (.seq (.reg reedsolomon_power_r7)
  .ret)))), [.tmp 4]⟩
theorem reedsolomon_power_s : slimF Try.prog 78 = some reedsolomon_power_c := by kernel_rfl
abbrev reedsolomon_power_f : Nat := 78
/-- (printworks/reedsolomon.poly).times -/
def _reedsolomon_poly__times_r0 : List SO := [⟨(some 6), .assign (.const (.slice none 0 0)), none⟩]
def _reedsolomon_poly__times_r1 : List SO := [⟨(some 12), .move (.tmp (2 : Nat)), none⟩,
  ⟨(some 13), .move (.tmp (0 : Nat)), none⟩,
  ⟨(some 14), .call ⟨(.builtin .len), #[(.tmp (13 : Nat))], #[136]⟩, none⟩,
  ⟨(some 15), .move (.tmp (1 : Nat)), none⟩,
  ⟨(some 16), .call ⟨(.builtin .len), #[(.tmp (15 : Nat))], #[136]⟩, none⟩,
  ⟨(some 17), .binOp .add 3 (.tmp (14 : Nat)) (.tmp (16 : Nat)) 3, none⟩,
  ⟨(some 18), .binOp .sub 3 (.tmp (17 : Nat)) (.const (.int .i64 1)) 3, none⟩,
  ⟨(some 19), .call ⟨(.builtin .min), #[(.tmp (12 : Nat)), (.tmp (18 : Nat))], #[3, 3]⟩, none⟩,
  ⟨(some 20), .makeSlice 136 (.tmp (19 : Nat)) (.tmp (19 : Nat)), none⟩,
  ⟨(some 7), .assign (.tmp (20 : Nat)), none⟩]
def _reedsolomon_poly__times_r2 : List SO := [⟨(some 21), .move (.tmp (0 : Nat)), none⟩,
  ⟨(some 22), .call ⟨(.builtin .len), #[(.tmp (21 : Nat))], #[136]⟩, none⟩,
  ⟨(some 23), .move (.const (.int .i64 0)), none⟩]
def _reedsolomon_poly__times_r3 : List SO := [⟨(some 24), .binOp .lss 3 (.tmp (23 : Nat)) (.tmp (22 : Nat)) 3, none⟩]
def _reedsolomon_poly__times_r4 : List SO := [⟨(some 25), .move (.tmp (23 : Nat)), none⟩,
  ⟨(some 26), .indexAddr 136 (.tmp (21 : Nat)) (.tmp (23 : Nat)), none⟩,
  ⟨(some 27), .load 5 (.tmp (26 : Nat)), none⟩,
  ⟨(some 8), .assign (.tmp (25 : Nat)), none⟩,
  ⟨(some 9), .assign (.tmp (27 : Nat)), none⟩]
def _reedsolomon_poly__times_r5 : List SO := [⟨(some 28), .move (.tmp (1 : Nat)), none⟩,
  ⟨(some 29), .call ⟨(.builtin .len), #[(.tmp (28 : Nat))], #[136]⟩, none⟩,
  ⟨(some 30), .move (.const (.int .i64 0)), none⟩]
def _reedsolomon_poly__times_r6 : List SO := [⟨(some 31), .binOp .lss 3 (.tmp (30 : Nat)) (.tmp (29 : Nat)) 3, none⟩]
def _reedsolomon_poly__times_r7 : List SO := [⟨(some 32), .move (.tmp (30 : Nat)), none⟩,
  ⟨(some 33), .indexAddr 136 (.tmp (28 : Nat)) (.tmp (30 : Nat)), none⟩,
  ⟨(some 34), .load 5 (.tmp (33 : Nat)), none⟩,
  ⟨(some 10), .assign (.tmp (32 : Nat)), none⟩,
  ⟨(some 11), .assign (.tmp (34 : Nat)), none⟩]
def _reedsolomon_poly__times_r8 : List SO := [⟨(some 35), .move (.tmp (8 : Nat)), none⟩,
  ⟨(some 36), .move (.tmp (10 : Nat)), none⟩,
  ⟨(some 37), .binOp .add 3 (.tmp (35 : Nat)) (.tmp (36 : Nat)) 3, none⟩,
  ⟨(some 38), .move (.tmp (7 : Nat)), none⟩,
  ⟨(some 39), .call ⟨(.builtin .len), #[(.tmp (38 : Nat))], #[136]⟩, none⟩,
  ⟨(some 40), .binOp .lss 3 (.tmp (37 : Nat)) (.tmp (39 : Nat)) 3, none⟩]
def _reedsolomon_poly__times_r9 : List SO := [⟨(some 41), .move (.tmp (7 : Nat)), none⟩,
  ⟨(some 42), .move (.tmp (8 : Nat)), none⟩,
  ⟨(some 43), .move (.tmp (10 : Nat)), none⟩,
  ⟨(some 44), .binOp .add 3 (.tmp (42 : Nat)) (.tmp (43 : Nat)) 3, none⟩,
  ⟨(some 45), .indexAddr 136 (.tmp (41 : Nat)) (.tmp (44 : Nat)), none⟩,
  ⟨(some 46), .load 5 (.tmp (45 : Nat)), none⟩,
  ⟨(some 47), .move (.tmp (9 : Nat)), none⟩,
  ⟨(some 48), .move (.tmp (11 : Nat)), none⟩,
  ⟨(some 49), .call ⟨(.value (.func (76 : Nat))), #[(.tmp (47 : Nat)), (.tmp (48 : Nat))], #[5, 5]⟩, none⟩,
  ⟨(some 50), .binOp .xor 5 (.tmp (46 : Nat)) (.tmp (49 : Nat)) 5, none⟩,
  ⟨(some 51), .indexAddr 136 (.tmp (41 : Nat)) (.tmp (44 : Nat)), none⟩,
  ⟨none, .store 5 (.tmp (51 : Nat)) (.tmp (50 : Nat)), none⟩]
def _reedsolomon_poly__times_a9 : List (List Nat) := [[], [], [], [1, 2], [0, 3], [4], [], [], [6, 7], [5, 8], [0, 3, 0, 1, 2, 3, 4, 5, 6, 7, 8, 9], [10, 9, 8, 0, 1, 2, 3, 4, 5, 6, 7, 8, 9]]
def _reedsolomon_poly__times_r10 : List SO := [⟨(some 52), .binOp .add 3 (.tmp (30 : Nat)) (.const (.int .i64 1)) 3, none⟩,
  ⟨(some 30), .move (.tmp (52 : Nat)), none⟩]
def _reedsolomon_poly__times_r11 : List SO := [⟨(some 53), .binOp .add 3 (.tmp (23 : Nat)) (.const (.int .i64 1)) 3, none⟩,
  ⟨(some 23), .move (.tmp (53 : Nat)), none⟩]
def _reedsolomon_poly__times_r12 : List SO := [⟨(some 54), .move (.tmp (7 : Nat)), none⟩,
  ⟨(some 6), .assign (.tmp (54 : Nat)), none⟩]
def _reedsolomon_poly__times_c : SF := ⟨55, (.seq (.reg _reedsolomon_poly__times_r0)
  (.seq (.reg _reedsolomon_poly__times_r1)
  (.seq (.seq (.reg _reedsolomon_poly__times_r2)
  (.block 0 (.loop (.seq (.reg _reedsolomon_poly__times_r3)
  (.seq (.cond (.tmp (24 : Nat)) .skip (.exit 0))
  (.seq (.block 1 (.seq (.reg _reedsolomon_poly__times_r4)
  (.seq (.reg _reedsolomon_poly__times_r5)
  (.block 2 (.loop (.seq (.reg _reedsolomon_poly__times_r6)
  (.seq (.cond (.tmp (31 : Nat)) .skip (.exit 2))
  (.seq (.block 3 (.seq (.reg _reedsolomon_poly__times_r7)
  (.seq (.reg _reedsolomon_poly__times_r8)
  (.cond (.tmp (40 : Nat)) (.regd _reedsolomon_poly__times_r9 _reedsolomon_poly__times_a9) .skip))))
  (.reg _reedsolomon_poly__times_r10)))))))))
  (.reg _reedsolomon_poly__times_r11)))))))
  (.seq (.reg _reedsolomon_poly__times_r12)
  .ret)))), [.tmp 6]⟩
theorem _reedsolomon_poly__times_s : slimF Try.prog 77 = some _reedsolomon_poly__times_c := by kernel_rfl
abbrev _reedsolomon_poly__times_f : Nat := 77
/-- printworks/reedsolomon.check -/
def reedsolomon_check_r0 : List SO := [⟨(some 4), .assign (.const (.int .i64 0)), none⟩]
def reedsolomon_check_r1 : List SO := [⟨(some 6), .move (.tmp (1 : Nat)), none⟩,
  ⟨(some 7), .binOp .lss 3 (.tmp (6 : Nat)) (.const (.int .i64 1)) 3, none⟩,
  ⟨(some 8), .move (.tmp (7 : Nat)), none⟩,
  ⟨(some 9), .move (.tmp (1 : Nat)), (some (8, false))⟩,
  ⟨(some 10), .binOp .gtr 3 (.tmp (9 : Nat)) (.const (.int .i64 64)) 3, (some (8, false))⟩,
  ⟨(some 11), .pick (.tmp (8 : Nat)) (.const (.bool true)) (.tmp (10 : Nat)), none⟩,
  ⟨(some 5), .assign (.tmp (11 : Nat)), none⟩]
def reedsolomon_check_r2 : List SO := [⟨(some 4), .assign (.const (.int .i64 3)), none⟩]
def reedsolomon_check_r3 : List SO := [⟨(some 13), .move (.tmp (0 : Nat)), none⟩,
  ⟨(some 14), .call ⟨(.builtin .len), #[(.tmp (13 : Nat))], #[57]⟩, none⟩,
  ⟨(some 15), .binOp .gtr 3 (.tmp (14 : Nat)) (.const (.int .i64 255)) 3, none⟩,
  ⟨(some 12), .assign (.tmp (15 : Nat)), none⟩]
def reedsolomon_check_r4 : List SO := [⟨(some 4), .assign (.const (.int .i64 2)), none⟩]
def reedsolomon_check_r5 : List SO := [⟨(some 17), .move (.tmp (0 : Nat)), none⟩,
  ⟨(some 18), .call ⟨(.builtin .len), #[(.tmp (17 : Nat))], #[57]⟩, none⟩,
  ⟨(some 19), .move (.tmp (1 : Nat)), none⟩,
  ⟨(some 20), .binOp .leq 3 (.tmp (18 : Nat)) (.tmp (19 : Nat)) 3, none⟩,
  ⟨(some 16), .assign (.tmp (20 : Nat)), none⟩]
def reedsolomon_check_r6 : List SO := [⟨(some 4), .assign (.const (.int .i64 12)), none⟩]
def reedsolomon_check_r7 : List SO := [⟨(some 4), .assign (.const (.int .i64 0)), none⟩]
def reedsolomon_check_c : SF := ⟨21, (.seq (.reg reedsolomon_check_r0)
  (.seq (.block 0 (.seq (.reg reedsolomon_check_r1)
  (.cond (.tmp (5 : Nat)) (.seq (.reg reedsolomon_check_r2)
  .ret) (.seq (.reg reedsolomon_check_r3)
  (.cond (.tmp (12 : Nat)) (.seq (.reg reedsolomon_check_r4)
  .ret) (.seq (.reg reedsolomon_check_r5)
  (.cond (.tmp (16 : Nat)) (.seq (.reg reedsolomon_check_r6)
  .ret) .skip)))))))
  (.seq (.reg reedsolomon_check_r7)
  .ret))), [.tmp 4]⟩
theorem reedsolomon_check_s : slimF Try.prog 79 = some reedsolomon_check_c := by kernel_rfl
abbrev reedsolomon_check_f : Nat := 79
/-- printworks/reedsolomon.syndromes -/
def reedsolomon_syndromes_r0 : List SO := [⟨(some 4), .assign (.const (.slice none 0 0)), none⟩,
  ⟨(some 5), .assign (.const (.bool false)), none⟩]
def reedsolomon_syndromes_r1 : List SO := [⟨(some 13), .move (.tmp (1 : Nat)), none⟩,
  ⟨(some 14), .makeSlice 136 (.tmp (13 : Nat)) (.tmp (13 : Nat)), none⟩,
  ⟨(some 6), .assign (.tmp (14 : Nat)), none⟩,
  ⟨(some 7), .assign (.const (.bool true)), none⟩]
def reedsolomon_syndromes_r2 : List SO := [⟨(some 15), .move (.tmp (6 : Nat)), none⟩,
  ⟨(some 16), .call ⟨(.builtin .len), #[(.tmp (15 : Nat))], #[136]⟩, none⟩,
  ⟨(some 17), .move (.const (.int .i64 0)), none⟩]
def reedsolomon_syndromes_r3 : List SO := [⟨(some 18), .binOp .lss 3 (.tmp (17 : Nat)) (.tmp (16 : Nat)) 3, none⟩]
def reedsolomon_syndromes_r4 : List SO := [⟨(some 19), .move (.tmp (17 : Nat)), none⟩,
  ⟨(some 8), .assign (.tmp (19 : Nat)), none⟩]
def reedsolomon_syndromes_r5 : List SO := [⟨(some 20), .move (.tmp (8 : Nat)), none⟩,
  ⟨(some 21), .call ⟨(.value (.func (78 : Nat))), #[(.const (.int .u8 2)), (.tmp (20 : Nat))], #[5, 3]⟩, none⟩,
  ⟨(some 9), .assign (.tmp (21 : Nat)), none⟩]
def reedsolomon_syndromes_r6 : List SO := [⟨(some 10), .assign (.const (.int .u8 0)), none⟩]
def reedsolomon_syndromes_r7 : List SO := [⟨(some 22), .move (.tmp (0 : Nat)), none⟩,
  ⟨(some 23), .call ⟨(.builtin .len), #[(.tmp (22 : Nat))], #[57]⟩, none⟩,
  ⟨(some 24), .move (.const (.int .i64 0)), none⟩]
def reedsolomon_syndromes_r8 : List SO := [⟨(some 25), .binOp .lss 3 (.tmp (24 : Nat)) (.tmp (23 : Nat)) 3, none⟩]
def reedsolomon_syndromes_r9 : List SO := [⟨(some 26), .indexAddr 57 (.tmp (22 : Nat)) (.tmp (24 : Nat)), none⟩,
  ⟨(some 27), .load 5 (.tmp (26 : Nat)), none⟩,
  ⟨(some 12), .assign (.tmp (27 : Nat)), none⟩]
def reedsolomon_syndromes_r10 : List SO := [⟨(some 28), .move (.tmp (10 : Nat)), none⟩,
  ⟨(some 29), .move (.tmp (9 : Nat)), none⟩,
  ⟨(some 30), .call ⟨(.value (.func (76 : Nat))), #[(.tmp (28 : Nat)), (.tmp (29 : Nat))], #[5, 5]⟩, none⟩,
  ⟨(some 31), .move (.tmp (12 : Nat)), none⟩,
  ⟨(some 32), .binOp .xor 5 (.tmp (30 : Nat)) (.tmp (31 : Nat)) 5, none⟩,
  ⟨(some 10), .assign (.tmp (32 : Nat)), none⟩]
def reedsolomon_syndromes_r11 : List SO := [⟨(some 33), .binOp .add 3 (.tmp (24 : Nat)) (.const (.int .i64 1)) 3, none⟩,
  ⟨(some 24), .move (.tmp (33 : Nat)), none⟩]
def reedsolomon_syndromes_r12 : List SO := [⟨(some 34), .move (.tmp (6 : Nat)), none⟩,
  ⟨(some 35), .move (.tmp (8 : Nat)), none⟩,
  ⟨(some 36), .move (.tmp (10 : Nat)), none⟩,
  ⟨(some 37), .indexAddr 136 (.tmp (34 : Nat)) (.tmp (35 : Nat)), none⟩,
  ⟨none, .store 5 (.tmp (37 : Nat)) (.tmp (36 : Nat)), none⟩]
def reedsolomon_syndromes_r13 : List SO := [⟨(some 38), .move (.tmp (7 : Nat)), none⟩,
  ⟨(some 39), .move (.tmp (38 : Nat)), none⟩,
  ⟨(some 40), .move (.tmp (10 : Nat)), (some (39, true))⟩,
  ⟨(some 41), .binOp .eql 5 (.tmp (40 : Nat)) (.const (.int .u8 0)) 5, (some (39, true))⟩,
  ⟨(some 42), .pick (.tmp (39 : Nat)) (.tmp (41 : Nat)) (.const (.bool false)), none⟩,
  ⟨(some 7), .assign (.tmp (42 : Nat)), none⟩]
def reedsolomon_syndromes_r14 : List SO := [⟨(some 43), .binOp .add 3 (.tmp (17 : Nat)) (.const (.int .i64 1)) 3, none⟩,
  ⟨(some 17), .move (.tmp (43 : Nat)), none⟩]
def reedsolomon_syndromes_r15 : List SO := [⟨(some 44), .move (.tmp (6 : Nat)), none⟩,
  ⟨(some 45), .move (.tmp (7 : Nat)), none⟩,
  ⟨(some 4), .assign (.tmp (44 : Nat)), none⟩,
  ⟨(some 5), .assign (.tmp (45 : Nat)), none⟩]
def reedsolomon_syndromes_c : SF := ⟨46, (.seq (.reg reedsolomon_syndromes_r0)
  (.seq (.reg reedsolomon_syndromes_r1)
  (.seq (.seq (.reg reedsolomon_syndromes_r2)
  (.block 0 (.loop (.seq (.reg reedsolomon_syndromes_r3)
  (.seq (.cond (.tmp (18 : Nat)) .skip (.exit 0))
  (.seq (.block 1 (.seq (.reg reedsolomon_syndromes_r4)
  (.seq (.reg reedsolomon_syndromes_r5)
  (.seq (.reg reedsolomon_syndromes_r6)
  (.seq (.seq (.reg reedsolomon_syndromes_r7)
  (.block 2 (.loop (.seq (.reg reedsolomon_syndromes_r8)
  (.seq (.cond (.tmp (25 : Nat)) .skip (.exit 2))
  (.seq (.block 3 (.seq (.reg reedsolomon_syndromes_r9)
  (.reg reedsolomon_syndromes_r10)))
  (.reg reedsolomon_syndromes_r11)))))))
  (.seq (.reg reedsolomon_syndromes_r12)
  (.reg reedsolomon_syndromes_r13)))))))
  (.reg reedsolomon_syndromes_r14)))))))
  (.seq (.reg reedsolomon_syndromes_r15)
  .ret)))), [.tmp 4, .tmp 5]⟩
theorem reedsolomon_syndromes_s : slimF Try.prog 80 = some reedsolomon_syndromes_c := by kernel_rfl
abbrev reedsolomon_syndromes_f : Nat := 80
/-- printworks/reedsolomon.locate -/
def reedsolomon_locate_r0 : List SO := [⟨(some 6), .assign (.const (.slice none 0 0)), none⟩]
def reedsolomon_locate_r1 : List SO := [⟨(some 19), .move (.tmp (1 : Nat)), none⟩,
  ⟨(some 20), .call ⟨(.builtin .append), #[(.const (.slice none 0 0)), (.tmp (19 : Nat))], #[136, 136]⟩, none⟩,
  ⟨(some 21), .move (.tmp (1 : Nat)), none⟩,
  ⟨(some 22), .call ⟨(.builtin .append), #[(.const (.slice none 0 0)), (.tmp (21 : Nat))], #[136, 136]⟩, none⟩,
  ⟨(some 7), .assign (.tmp (20 : Nat)), none⟩,
  ⟨(some 8), .assign (.tmp (22 : Nat)), none⟩]
def reedsolomon_locate_r2 : List SO := [⟨(some 23), .move (.tmp (2 : Nat)), none⟩,
  ⟨(some 9), .assign (.tmp (23 : Nat)), none⟩,
  ⟨(some 10), .assign (.const (.int .i64 1)), none⟩,
  ⟨(some 11), .assign (.const (.int .u8 1)), none⟩]
def reedsolomon_locate_r3 : List SO := [⟨(some 24), .move (.tmp (2 : Nat)), none⟩,
  ⟨(some 12), .assign (.tmp (24 : Nat)), none⟩]
def reedsolomon_locate_r4 : List SO := [⟨(some 25), .move (.tmp (12 : Nat)), none⟩,
  ⟨(some 26), .move (.tmp (0 : Nat)), none⟩,
  ⟨(some 27), .call ⟨(.builtin .len), #[(.tmp (26 : Nat))], #[136]⟩, none⟩,
  ⟨(some 28), .binOp .lss 3 (.tmp (25 : Nat)) (.tmp (27 : Nat)) 3, none⟩]
def reedsolomon_locate_r5 : List SO := [⟨(some 31), .move (.tmp (0 : Nat)), none⟩,
  ⟨(some 32), .move (.tmp (12 : Nat)), none⟩,
  ⟨(some 33), .indexAddr 136 (.tmp (31 : Nat)) (.tmp (32 : Nat)), none⟩,
  ⟨(some 34), .load 5 (.tmp (33 : Nat)), none⟩,
  ⟨(some 13), .assign (.tmp (34 : Nat)), none⟩]
def reedsolomon_locate_r6 : List SO := [⟨(some 14), .assign (.const (.int .i64 1)), none⟩]
def reedsolomon_locate_r7 : List SO := [⟨(some 35), .move (.tmp (14 : Nat)), none⟩,
  ⟨(some 36), .move (.tmp (7 : Nat)), none⟩,
  ⟨(some 37), .call ⟨(.builtin .len), #[(.tmp (36 : Nat))], #[136]⟩, none⟩,
  ⟨(some 38), .binOp .lss 3 (.tmp (35 : Nat)) (.tmp (37 : Nat)) 3, none⟩,
  ⟨(some 39), .move (.tmp (38 : Nat)), none⟩,
  ⟨(some 40), .move (.tmp (14 : Nat)), (some (39, true))⟩,
  ⟨(some 41), .move (.tmp (12 : Nat)), (some (39, true))⟩,
  ⟨(some 42), .binOp .leq 3 (.tmp (40 : Nat)) (.tmp (41 : Nat)) 3, (some (39, true))⟩,
  ⟨(some 43), .pick (.tmp (39 : Nat)) (.tmp (42 : Nat)) (.const (.bool false)), none⟩]
def reedsolomon_locate_r8 : List SO := [⟨(some 46), .move (.tmp (13 : Nat)), none⟩,
  ⟨(some 47), .move (.tmp (7 : Nat)), none⟩,
  ⟨(some 48), .move (.tmp (14 : Nat)), none⟩,
  ⟨(some 49), .indexAddr 136 (.tmp (47 : Nat)) (.tmp (48 : Nat)), none⟩,
  ⟨(some 50), .load 5 (.tmp (49 : Nat)), none⟩,
  ⟨(some 51), .move (.tmp (0 : Nat)), none⟩,
  ⟨(some 52), .move (.tmp (12 : Nat)), none⟩,
  ⟨(some 53), .move (.tmp (14 : Nat)), none⟩,
  ⟨(some 54), .binOp .sub 3 (.tmp (52 : Nat)) (.tmp (53 : Nat)) 3, none⟩,
  ⟨(some 55), .indexAddr 136 (.tmp (51 : Nat)) (.tmp (54 : Nat)), none⟩,
  ⟨(some 56), .load 5 (.tmp (55 : Nat)), none⟩,
  ⟨(some 57), .call ⟨(.value (.func (76 : Nat))), #[(.tmp (50 : Nat)), (.tmp (56 : Nat))], #[5, 5]⟩, none⟩,
  ⟨(some 58), .binOp .xor 5 (.tmp (46 : Nat)) (.tmp (57 : Nat)) 5, none⟩,
  ⟨(some 13), .assign (.tmp (58 : Nat)), none⟩]
def reedsolomon_locate_a8 : List (List Nat) := [[], [], [], [1, 2], [3], [], [], [], [6, 7], [5, 8], [9], [4, 10], [0, 11], [12, 11, 0, 1, 2, 3, 4, 5, 6, 7, 8, 9, 10, 11, 12]]
def reedsolomon_locate_r9 : List SO := [⟨(some 44), .move (.tmp (14 : Nat)), none⟩,
  ⟨(some 45), .binOp .add 3 (.tmp (44 : Nat)) (.const (.int .i64 1)) 3, none⟩,
  ⟨(some 14), .assign (.tmp (45 : Nat)), none⟩]
def reedsolomon_locate_r10 : List SO := [⟨(some 59), .move (.tmp (13 : Nat)), none⟩,
  ⟨(some 60), .binOp .eql 5 (.tmp (59 : Nat)) (.const (.int .u8 0)) 5, none⟩]
def reedsolomon_locate_r11 : List SO := [⟨(some 61), .move (.tmp (10 : Nat)), none⟩,
  ⟨(some 62), .binOp .add 3 (.tmp (61 : Nat)) (.const (.int .i64 1)) 3, none⟩,
  ⟨(some 10), .assign (.tmp (62 : Nat)), none⟩]
def reedsolomon_locate_r12 : List SO := [⟨(some 63), .move (.tmp (7 : Nat)), none⟩,
  ⟨(some 64), .call ⟨(.builtin .append), #[(.const (.slice none 0 0)), (.tmp (63 : Nat))], #[136, 136]⟩, none⟩,
  ⟨(some 15), .assign (.tmp (64 : Nat)), none⟩]
def reedsolomon_locate_r13 : List SO := [⟨(some 65), .move (.tmp (13 : Nat)), none⟩,
  ⟨(some 66), .move (.tmp (11 : Nat)), none⟩,
  ⟨(some 67), .call ⟨(.value (.func (78 : Nat))), #[(.tmp (66 : Nat)), (.const (.int .i64 254))], #[5, 3]⟩, none⟩,
  ⟨(some 68), .call ⟨(.value (.func (76 : Nat))), #[(.tmp (65 : Nat)), (.tmp (67 : Nat))], #[5, 5]⟩, none⟩,
  ⟨(some 16), .assign (.tmp (68 : Nat)), none⟩]
def reedsolomon_locate_r14 : List SO := [⟨(some 69), .move (.tmp (7 : Nat)), none⟩,
  ⟨(some 70), .call ⟨(.builtin .len), #[(.tmp (69 : Nat))], #[136]⟩, none⟩,
  ⟨(some 71), .move (.tmp (8 : Nat)), none⟩,
  ⟨(some 72), .call ⟨(.builtin .len), #[(.tmp (71 : Nat))], #[136]⟩, none⟩,
  ⟨(some 73), .move (.tmp (10 : Nat)), none⟩,
  ⟨(some 74), .binOp .add 3 (.tmp (72 : Nat)) (.tmp (73 : Nat)) 3, none⟩,
  ⟨(some 75), .binOp .lss 3 (.tmp (70 : Nat)) (.tmp (74 : Nat)) 3, none⟩]
def reedsolomon_locate_r15 : List SO := [⟨(some 76), .move (.tmp (7 : Nat)), none⟩,
  ⟨(some 77), .buildSlice 136 1 #[(0, (.const (.int .u8 0)))], none⟩,
  ⟨(some 78), .call ⟨(.builtin .append), #[(.tmp (76 : Nat)), (.tmp (77 : Nat))], #[136, 136]⟩, none⟩,
  ⟨(some 7), .assign (.tmp (78 : Nat)), none⟩]
def reedsolomon_locate_r16 : List SO := [⟨(some 79), .move (.tmp (8 : Nat)), none⟩,
  ⟨(some 80), .call ⟨(.builtin .len), #[(.tmp (79 : Nat))], #[136]⟩, none⟩,
  ⟨(some 81), .move (.const (.int .i64 0)), none⟩]
def reedsolomon_locate_r17 : List SO := [⟨(some 82), .binOp .lss 3 (.tmp (81 : Nat)) (.tmp (80 : Nat)) 3, none⟩]
def reedsolomon_locate_r18 : List SO := [⟨(some 83), .move (.tmp (81 : Nat)), none⟩,
  ⟨(some 84), .indexAddr 136 (.tmp (79 : Nat)) (.tmp (81 : Nat)), none⟩,
  ⟨(some 85), .load 5 (.tmp (84 : Nat)), none⟩,
  ⟨(some 17), .assign (.tmp (83 : Nat)), none⟩,
  ⟨(some 18), .assign (.tmp (85 : Nat)), none⟩]
def reedsolomon_locate_r19 : List SO := [⟨(some 86), .move (.tmp (7 : Nat)), none⟩,
  ⟨(some 87), .move (.tmp (17 : Nat)), none⟩,
  ⟨(some 88), .move (.tmp (10 : Nat)), none⟩,
  ⟨(some 89), .binOp .add 3 (.tmp (87 : Nat)) (.tmp (88 : Nat)) 3, none⟩,
  ⟨(some 90), .indexAddr 136 (.tmp (86 : Nat)) (.tmp (89 : Nat)), none⟩,
  ⟨(some 91), .load 5 (.tmp (90 : Nat)), none⟩,
  ⟨(some 92), .move (.tmp (16 : Nat)), none⟩,
  ⟨(some 93), .move (.tmp (18 : Nat)), none⟩,
  ⟨(some 94), .call ⟨(.value (.func (76 : Nat))), #[(.tmp (92 : Nat)), (.tmp (93 : Nat))], #[5, 5]⟩, none⟩,
  ⟨(some 95), .binOp .xor 5 (.tmp (91 : Nat)) (.tmp (94 : Nat)) 5, none⟩,
  ⟨(some 96), .indexAddr 136 (.tmp (86 : Nat)) (.tmp (89 : Nat)), none⟩,
  ⟨none, .store 5 (.tmp (96 : Nat)) (.tmp (95 : Nat)), none⟩]
def reedsolomon_locate_a19 : List (List Nat) := [[], [], [], [1, 2], [0, 3], [4], [], [], [6, 7], [5, 8], [0, 3, 0, 1, 2, 3, 4, 5, 6, 7, 8, 9], [10, 9, 8, 0, 1, 2, 3, 4, 5, 6, 7, 8, 9]]
def reedsolomon_locate_r20 : List SO := [⟨(some 97), .binOp .add 3 (.tmp (81 : Nat)) (.const (.int .i64 1)) 3, none⟩,
  ⟨(some 81), .move (.tmp (97 : Nat)), none⟩]
def reedsolomon_locate_r21 : List SO := [⟨(some 98), .move (.tmp (9 : Nat)), none⟩,
  ⟨(some 99), .binOp .mul 3 (.const (.int .i64 2)) (.tmp (98 : Nat)) 3, none⟩,
  ⟨(some 100), .move (.tmp (12 : Nat)), none⟩,
  ⟨(some 101), .move (.tmp (2 : Nat)), none⟩,
  ⟨(some 102), .binOp .add 3 (.tmp (100 : Nat)) (.tmp (101 : Nat)) 3, none⟩,
  ⟨(some 103), .binOp .leq 3 (.tmp (99 : Nat)) (.tmp (102 : Nat)) 3, none⟩]
def reedsolomon_locate_r22 : List SO := [⟨(some 104), .move (.tmp (12 : Nat)), none⟩,
  ⟨(some 105), .binOp .add 3 (.tmp (104 : Nat)) (.const (.int .i64 1)) 3, none⟩,
  ⟨(some 106), .move (.tmp (2 : Nat)), none⟩,
  ⟨(some 107), .binOp .add 3 (.tmp (105 : Nat)) (.tmp (106 : Nat)) 3, none⟩,
  ⟨(some 108), .move (.tmp (9 : Nat)), none⟩,
  ⟨(some 109), .binOp .sub 3 (.tmp (107 : Nat)) (.tmp (108 : Nat)) 3, none⟩,
  ⟨(some 110), .move (.tmp (15 : Nat)), none⟩,
  ⟨(some 111), .move (.tmp (13 : Nat)), none⟩,
  ⟨(some 9), .assign (.tmp (109 : Nat)), none⟩,
  ⟨(some 8), .assign (.tmp (110 : Nat)), none⟩,
  ⟨(some 11), .assign (.tmp (111 : Nat)), none⟩,
  ⟨(some 10), .assign (.const (.int .i64 1)), none⟩]
def reedsolomon_locate_r23 : List SO := [⟨(some 112), .move (.tmp (10 : Nat)), none⟩,
  ⟨(some 113), .binOp .add 3 (.tmp (112 : Nat)) (.const (.int .i64 1)) 3, none⟩,
  ⟨(some 10), .assign (.tmp (113 : Nat)), none⟩]
def reedsolomon_locate_r24 : List SO := [⟨(some 29), .move (.tmp (12 : Nat)), none⟩,
  ⟨(some 30), .binOp .add 3 (.tmp (29 : Nat)) (.const (.int .i64 1)) 3, none⟩,
  ⟨(some 12), .assign (.tmp (30 : Nat)), none⟩]
def reedsolomon_locate_r25 : List SO := [⟨(some 114), .move (.tmp (7 : Nat)), none⟩,
  ⟨(some 6), .assign (.tmp (114 : Nat)), none⟩]
def reedsolomon_locate_c : SF := ⟨115, (.seq (.reg reedsolomon_locate_r0)
  (.seq (.reg reedsolomon_locate_r1)
  (.seq (.reg reedsolomon_locate_r2)
  (.seq (.seq (.reg reedsolomon_locate_r3)
  (.block 0 (.loop (.seq (.seq (.reg reedsolomon_locate_r4)
  (.cond (.tmp (28 : Nat)) .skip (.exit 0)))
  (.seq (.block 1 (.seq (.reg reedsolomon_locate_r5)
  (.seq (.seq (.reg reedsolomon_locate_r6)
  (.block 2 (.loop (.seq (.seq (.reg reedsolomon_locate_r7)
  (.cond (.tmp (43 : Nat)) .skip (.exit 2)))
  (.seq (.block 3 (.regd reedsolomon_locate_r8 reedsolomon_locate_a8))
  (.reg reedsolomon_locate_r9))))))
  (.seq (.seq (.reg reedsolomon_locate_r10)
  (.cond (.tmp (60 : Nat)) (.seq (.reg reedsolomon_locate_r11)
  (.exit 1)) .skip))
  (.seq (.reg reedsolomon_locate_r12)
  (.seq (.reg reedsolomon_locate_r13)
  (.seq (.block 4 (.loop (.seq (.seq (.reg reedsolomon_locate_r14)
  (.cond (.tmp (75 : Nat)) .skip (.exit 4)))
  (.block 5 (.reg reedsolomon_locate_r15)))))
  (.seq (.seq (.reg reedsolomon_locate_r16)
  (.block 6 (.loop (.seq (.reg reedsolomon_locate_r17)
  (.seq (.cond (.tmp (82 : Nat)) .skip (.exit 6))
  (.seq (.block 7 (.seq (.reg reedsolomon_locate_r18)
  (.regd reedsolomon_locate_r19 reedsolomon_locate_a19)))
  (.reg reedsolomon_locate_r20)))))))
  (.seq (.reg reedsolomon_locate_r21)
  (.cond (.tmp (103 : Nat)) (.reg reedsolomon_locate_r22) (.reg reedsolomon_locate_r23)))))))))))
  (.reg reedsolomon_locate_r24))))))
  (.seq (.reg reedsolomon_locate_r25)
  .ret))))), [.tmp 6]⟩
theorem reedsolomon_locate_s : slimF Try.prog 82 = some reedsolomon_locate_c := by kernel_rfl
abbrev reedsolomon_locate_f : Nat := 82
/-- printworks/reedsolomon.repair -/
def reedsolomon_repair_r0 : List SO := [⟨(some 12), .move (.tmp (1 : Nat)), none⟩,
  ⟨(some 13), .move (.tmp (2 : Nat)), none⟩,
  ⟨(some 14), .move (.tmp (1 : Nat)), none⟩,
  ⟨(some 15), .call ⟨(.builtin .len), #[(.tmp (14 : Nat))], #[136]⟩, none⟩,
  ⟨(some 16), .call ⟨(.value (.func (77 : Nat))), #[(.tmp (12 : Nat)), (.tmp (13 : Nat)), (.tmp (15 : Nat))], #[136, 136, 3]⟩, none⟩,
  ⟨(some 6), .assign (.tmp (16 : Nat)), none⟩]
def reedsolomon_repair_r1 : List SO := [⟨(some 17), .move (.tmp (0 : Nat)), none⟩,
  ⟨(some 18), .call ⟨(.builtin .len), #[(.tmp (17 : Nat))], #[57]⟩, none⟩,
  ⟨(some 19), .move (.const (.int .i64 0)), none⟩]
def reedsolomon_repair_r2 : List SO := [⟨(some 20), .binOp .lss 3 (.tmp (19 : Nat)) (.tmp (18 : Nat)) 3, none⟩]
def reedsolomon_repair_r3 : List SO := [⟨(some 21), .move (.tmp (19 : Nat)), none⟩,
  ⟨(some 7), .assign (.tmp (21 : Nat)), none⟩]
def reedsolomon_repair_r4 : List SO := [⟨(some 22), .move (.tmp (0 : Nat)), none⟩,
  ⟨(some 23), .call ⟨(.builtin .len), #[(.tmp (22 : Nat))], #[57]⟩, none⟩,
  ⟨(some 24), .binOp .sub 3 (.tmp (23 : Nat)) (.const (.int .i64 1)) 3, none⟩,
  ⟨(some 25), .move (.tmp (7 : Nat)), none⟩,
  ⟨(some 26), .binOp .sub 3 (.tmp (24 : Nat)) (.tmp (25 : Nat)) 3, none⟩,
  ⟨(some 27), .call ⟨(.value (.func (78 : Nat))), #[(.const (.int .u8 2)), (.tmp (26 : Nat))], #[5, 3]⟩, none⟩,
  ⟨(some 8), .assign (.tmp (27 : Nat)), none⟩]
def reedsolomon_repair_r5 : List SO := [⟨(some 28), .move (.tmp (8 : Nat)), none⟩,
  ⟨(some 29), .call ⟨(.value (.func (78 : Nat))), #[(.tmp (28 : Nat)), (.const (.int .i64 254))], #[5, 3]⟩, none⟩,
  ⟨(some 9), .assign (.tmp (29 : Nat)), none⟩]
def reedsolomon_repair_r6 : List SO := [⟨(some 30), .move (.tmp (2 : Nat)), none⟩,
  ⟨(some 31), .move (.tmp (9 : Nat)), none⟩,
  ⟨(some 32), .call ⟨(.value (.func (103 : Nat))), #[(.tmp (30 : Nat)), (.tmp (31 : Nat))], #[136, 5]⟩, none⟩,
  ⟨(some 33), .binOp .neq 5 (.tmp (32 : Nat)) (.const (.int .u8 0)) 5, none⟩]
def reedsolomon_repair_r7 : List SO := [⟨(some 10), .assign (.const (.int .u8 0)), none⟩]
def reedsolomon_repair_r8 : List SO := [⟨(some 11), .assign (.const (.int .i64 1)), none⟩]
def reedsolomon_repair_r9 : List SO := [⟨(some 34), .move (.tmp (11 : Nat)), none⟩,
  ⟨(some 35), .move (.tmp (2 : Nat)), none⟩,
  ⟨(some 36), .call ⟨(.builtin .len), #[(.tmp (35 : Nat))], #[136]⟩, none⟩,
  ⟨(some 37), .binOp .lss 3 (.tmp (34 : Nat)) (.tmp (36 : Nat)) 3, none⟩]
def reedsolomon_repair_r10 : List SO := [⟨(some 40), .move (.tmp (10 : Nat)), none⟩,
  ⟨(some 41), .move (.tmp (2 : Nat)), none⟩,
  ⟨(some 42), .move (.tmp (11 : Nat)), none⟩,
  ⟨(some 43), .indexAddr 136 (.tmp (41 : Nat)) (.tmp (42 : Nat)), none⟩,
  ⟨(some 44), .load 5 (.tmp (43 : Nat)), none⟩,
  ⟨(some 45), .move (.tmp (9 : Nat)), none⟩,
  ⟨(some 46), .move (.tmp (11 : Nat)), none⟩,
  ⟨(some 47), .binOp .sub 3 (.tmp (46 : Nat)) (.const (.int .i64 1)) 3, none⟩,
  ⟨(some 48), .call ⟨(.value (.func (78 : Nat))), #[(.tmp (45 : Nat)), (.tmp (47 : Nat))], #[5, 3]⟩, none⟩,
  ⟨(some 49), .call ⟨(.value (.func (76 : Nat))), #[(.tmp (44 : Nat)), (.tmp (48 : Nat))], #[5, 5]⟩, none⟩,
  ⟨(some 50), .binOp .xor 5 (.tmp (40 : Nat)) (.tmp (49 : Nat)) 5, none⟩,
  ⟨(some 10), .assign (.tmp (50 : Nat)), none⟩]
def reedsolomon_repair_a10 : List (List Nat) := [[], [], [], [1, 2], [3], [], [], [6], [5, 7], [4, 8, 8], [0, 9], [10, 9, 0, 1, 2, 3, 4, 5, 6, 7, 8, 9, 10]]
def reedsolomon_repair_r11 : List SO := [⟨(some 38), .move (.tmp (11 : Nat)), none⟩,
  ⟨(some 39), .binOp .add 3 (.tmp (38 : Nat)) (.const (.int .i64 2)) 3, none⟩,
  ⟨(some 11), .assign (.tmp (39 : Nat)), none⟩]
def reedsolomon_repair_r12 : List SO := [⟨(some 51), .move (.tmp (10 : Nat)), none⟩,
  ⟨(some 52), .binOp .neq 5 (.tmp (51 : Nat)) (.const (.int .u8 0)) 5, none⟩]
def reedsolomon_repair_r13 : List SO := [⟨(some 53), .move (.tmp (0 : Nat)), none⟩,
  ⟨(some 54), .move (.tmp (7 : Nat)), none⟩,
  ⟨(some 55), .indexAddr 57 (.tmp (53 : Nat)) (.tmp (54 : Nat)), none⟩,
  ⟨(some 56), .load 5 (.tmp (55 : Nat)), none⟩,
  ⟨(some 57), .move (.tmp (8 : Nat)), none⟩,
  ⟨(some 58), .move (.tmp (6 : Nat)), none⟩,
  ⟨(some 59), .move (.tmp (9 : Nat)), none⟩,
  ⟨(some 60), .call ⟨(.value (.func (103 : Nat))), #[(.tmp (58 : Nat)), (.tmp (59 : Nat))], #[136, 5]⟩, none⟩,
  ⟨(some 61), .call ⟨(.value (.func (76 : Nat))), #[(.tmp (57 : Nat)), (.tmp (60 : Nat))], #[5, 5]⟩, none⟩,
  ⟨(some 62), .move (.tmp (10 : Nat)), none⟩,
  ⟨(some 63), .call ⟨(.value (.func (78 : Nat))), #[(.tmp (62 : Nat)), (.const (.int .i64 254))], #[5, 3]⟩, none⟩,
  ⟨(some 64), .call ⟨(.value (.func (76 : Nat))), #[(.tmp (61 : Nat)), (.tmp (63 : Nat))], #[5, 5]⟩, none⟩,
  ⟨(some 65), .binOp .xor 5 (.tmp (56 : Nat)) (.tmp (64 : Nat)) 5, none⟩,
  ⟨(some 66), .indexAddr 57 (.tmp (53 : Nat)) (.tmp (54 : Nat)), none⟩,
  ⟨none, .store 5 (.tmp (66 : Nat)) (.tmp (65 : Nat)), none⟩]
def reedsolomon_repair_a13 : List (List Nat) := [[], [], [0, 1], [2], [], [], [], [5, 6], [4, 7, 7], [], [9, 8], [8, 10, 10], [3, 11], [0, 1, 0, 1, 2, 3, 4, 5, 6, 7, 8, 9, 10, 11, 12], [13, 12, 11, 0, 1, 2, 3, 4, 5, 6, 7, 8, 9, 10, 11, 12]]
def reedsolomon_repair_r14 : List SO := [⟨(some 67), .binOp .add 3 (.tmp (19 : Nat)) (.const (.int .i64 1)) 3, none⟩,
  ⟨(some 19), .move (.tmp (67 : Nat)), none⟩]
def reedsolomon_repair_c : SF := ⟨68, (.seq (.reg reedsolomon_repair_r0)
  (.seq (.reg reedsolomon_repair_r1)
  (.block 0 (.loop (.seq (.reg reedsolomon_repair_r2)
  (.seq (.cond (.tmp (20 : Nat)) .skip (.exit 0))
  (.seq (.block 1 (.seq (.reg reedsolomon_repair_r3)
  (.seq (.reg reedsolomon_repair_r4)
  (.seq (.reg reedsolomon_repair_r5)
  (.seq (.seq (.reg reedsolomon_repair_r6)
  (.cond (.tmp (33 : Nat)) (.exit 1) .skip))
  (.seq (.reg reedsolomon_repair_r7)
  (.seq (.seq (.reg reedsolomon_repair_r8)
  (.block 2 (.loop (.seq (.seq (.reg reedsolomon_repair_r9)
  (.cond (.tmp (37 : Nat)) .skip (.exit 2)))
  (.seq (.block 3 (.regd reedsolomon_repair_r10 reedsolomon_repair_a10))
  (.reg reedsolomon_repair_r11))))))
  (.seq (.reg reedsolomon_repair_r12)
  (.cond (.tmp (52 : Nat)) (.regd reedsolomon_repair_r13 reedsolomon_repair_a13) .skip)))))))))
  (.reg reedsolomon_repair_r14)))))))), []⟩
theorem reedsolomon_repair_s : slimF Try.prog 81 = some reedsolomon_repair_c := by kernel_rfl
abbrev reedsolomon_repair_f : Nat := 81
/-- (printworks/reedsolomon.poly).at -/
def _reedsolomon_poly__at_r0 : List SO := [⟨(some 4), .assign (.const (.int .u8 0)), none⟩]
def _reedsolomon_poly__at_r1 : List SO := [⟨(some 5), .assign (.const (.int .u8 0)), none⟩]
def _reedsolomon_poly__at_r2 : List SO := [⟨(some 7), .move (.tmp (0 : Nat)), none⟩,
  ⟨(some 8), .call ⟨(.builtin .len), #[(.tmp (7 : Nat))], #[136]⟩, none⟩,
  ⟨(some 9), .binOp .sub 3 (.tmp (8 : Nat)) (.const (.int .i64 1)) 3, none⟩,
  ⟨(some 6), .assign (.tmp (9 : Nat)), none⟩]
def _reedsolomon_poly__at_r3 : List SO := [⟨(some 10), .move (.tmp (6 : Nat)), none⟩,
  ⟨(some 11), .binOp .geq 3 (.tmp (10 : Nat)) (.const (.int .i64 0)) 3, none⟩]
def _reedsolomon_poly__at_r4 : List SO := [⟨(some 14), .move (.tmp (5 : Nat)), none⟩,
  ⟨(some 15), .move (.tmp (1 : Nat)), none⟩,
  ⟨(some 16), .call ⟨(.value (.func (76 : Nat))), #[(.tmp (14 : Nat)), (.tmp (15 : Nat))], #[5, 5]⟩, none⟩,
  ⟨(some 17), .move (.tmp (0 : Nat)), none⟩,
  ⟨(some 18), .move (.tmp (6 : Nat)), none⟩,
  ⟨(some 19), .indexAddr 136 (.tmp (17 : Nat)) (.tmp (18 : Nat)), none⟩,
  ⟨(some 20), .load 5 (.tmp (19 : Nat)), none⟩,
  ⟨(some 21), .binOp .xor 5 (.tmp (16 : Nat)) (.tmp (20 : Nat)) 5, none⟩,
  ⟨(some 5), .assign (.tmp (21 : Nat)), none⟩]
def _reedsolomon_poly__at_a4 : List (List Nat) := [[], [], [0, 1], [], [], [3, 4], [5], [2, 6], [7, 2, 0, 1, 2, 3, 4, 5, 6, 7]]
def _reedsolomon_poly__at_r5 : List SO := [⟨(some 12), .move (.tmp (6 : Nat)), none⟩,
  ⟨(some 13), .binOp .sub 3 (.tmp (12 : Nat)) (.const (.int .i64 1)) 3, none⟩,
  ⟨(some 6), .assign (.tmp (13 : Nat)), none⟩]
def _reedsolomon_poly__at_r6 : List SO := [⟨(some 22), .move (.tmp (5 : Nat)), none⟩,
  ⟨(some 4), .assign (.tmp (22 : Nat)), none⟩]
def _reedsolomon_poly__at_c : SF := ⟨23, (.seq (.reg _reedsolomon_poly__at_r0)
  (.seq (.reg _reedsolomon_poly__at_r1)
  (.seq (.seq (.reg _reedsolomon_poly__at_r2)
  (.block 0 (.loop (.seq (.seq (.reg _reedsolomon_poly__at_r3)
  (.cond (.tmp (11 : Nat)) .skip (.exit 0)))
  (.seq (.block 1 (.regd _reedsolomon_poly__at_r4 _reedsolomon_poly__at_a4))
  (.reg _reedsolomon_poly__at_r5))))))
  (.seq (.reg _reedsolomon_poly__at_r6)
  .ret)))), [.tmp 4]⟩
theorem _reedsolomon_poly__at_s : slimF Try.prog 103 = some _reedsolomon_poly__at_c := by kernel_rfl
abbrev _reedsolomon_poly__at_f : Nat := 103

def tbl_reedsolomon : List (Nat × SF) := [(40, reedsolomon_Encode_c), (41, reedsolomon_Valid_c), (42, reedsolomon_Decode_c), (75, reedsolomon_Inverse_c), (76, reedsolomon_Mul_c), (78, reedsolomon_power_c), (77, _reedsolomon_poly__times_c), (79, reedsolomon_check_c), (80, reedsolomon_syndromes_c), (82, reedsolomon_locate_c), (81, reedsolomon_repair_c), (103, _reedsolomon_poly__at_c)]
theorem tbl_reedsolomon_ok : okT Try.prog tbl_reedsolomon := ⟨reedsolomon_Encode_s, reedsolomon_Valid_s, reedsolomon_Decode_s, reedsolomon_Inverse_s, reedsolomon_Mul_s, reedsolomon_power_s, _reedsolomon_poly__times_s, reedsolomon_check_s, reedsolomon_syndromes_s, reedsolomon_locate_s, reedsolomon_repair_s, _reedsolomon_poly__at_s, trivial⟩

end Go.Proofs.Ythnfbdihihhoiaa
namespace Go.Proofs.Ythnfbdihihhoiaa
open Go Go.Lite
set_option linter.unusedVariables false

/-- printworks/printworksref2.Mod -/
def R2_Mod_r0 : List SO := [⟨(some 4), .assign (.const (.int .i64 0)), none⟩]
def R2_Mod_r1 : List SO := [⟨(some 5), .move (.tmp (0 : Nat)), none⟩,
  ⟨(some 6), .move (.tmp (1 : Nat)), none⟩,
  ⟨(some 7), .move (.tmp (0 : Nat)), none⟩,
  ⟨(some 8), .move (.tmp (1 : Nat)), none⟩,
  ⟨(some 9), .call ⟨(.value (.func (51 : Nat))), #[(.tmp (7 : Nat)), (.tmp (8 : Nat))], #[3, 3]⟩, none⟩,
  ⟨(some 10), .binOp .mul 3 (.tmp (6 : Nat)) (.tmp (9 : Nat)) 3, none⟩,
  ⟨(some 11), .binOp .sub 3 (.tmp (5 : Nat)) (.tmp (10 : Nat)) 3, none⟩,
  ⟨(some 4), .assign (.tmp (11 : Nat)), none⟩]
def R2_Mod_c : SF := ⟨12, (.seq (.reg R2_Mod_r0)
  (.seq (.reg R2_Mod_r1)
  .ret)), [.tmp 4]⟩
theorem R2_Mod_s : slimF Try.prog 17 = some R2_Mod_c := by kernel_rfl
abbrev R2_Mod_f : Nat := 17
/-- printworks/printworksref2.Power -/
def R2_Power_r0 : List SO := [⟨(some 4), .assign (.const (.int .i64 0)), none⟩]
def R2_Power_r1 : List SO := [⟨(some 5), .assign (.const (.int .i64 1)), none⟩]
def R2_Power_r2 : List SO := [⟨(some 6), .move (.tmp (1 : Nat)), none⟩,
  ⟨(some 7), .move (.const (.int .i64 0)), none⟩]
def R2_Power_r3 : List SO := [⟨(some 8), .binOp .lss 3 (.tmp (7 : Nat)) (.tmp (6 : Nat)) 3, none⟩]
def R2_Power_r4 : List SO := [⟨(some 9), .move (.tmp (5 : Nat)), none⟩,
  ⟨(some 10), .move (.tmp (0 : Nat)), none⟩,
  ⟨(some 11), .binOp .mul 3 (.tmp (9 : Nat)) (.tmp (10 : Nat)) 3, none⟩,
  ⟨(some 5), .assign (.tmp (11 : Nat)), none⟩]
def R2_Power_r5 : List SO := [⟨(some 12), .binOp .add 3 (.tmp (7 : Nat)) (.const (.int .i64 1)) 3, none⟩,
  ⟨(some 7), .move (.tmp (12 : Nat)), none⟩]
def R2_Power_r6 : List SO := [⟨(some 13), .move (.tmp (5 : Nat)), none⟩,
  ⟨(some 4), .assign (.tmp (13 : Nat)), none⟩]
def R2_Power_c : SF := ⟨14, (.seq (.reg R2_Power_r0)
  (.seq (.reg R2_Power_r1)
  (.seq (.seq (.reg R2_Power_r2)
  (.block 0 (.loop (.seq (.reg R2_Power_r3)
  (.seq (.cond (.tmp (8 : Nat)) .skip (.exit 0))
  (.seq (.block 1 (.reg R2_Power_r4))
  (.reg R2_Power_r5)))))))
  (.seq (.reg R2_Power_r6)
  .ret)))), [.tmp 4]⟩
theorem R2_Power_s : slimF Try.prog 20 = some R2_Power_c := by kernel_rfl
abbrev R2_Power_f : Nat := 20
/-- printworks/printworksref2.Index -/
def R2_Index_r0 : List SO := [⟨(some 2), .box 24 (.tmp (0 : Nat)), none⟩,
  ⟨(some 4), .assign (.const (.slice none 0 0)), none⟩]
def R2_Index_r1 : List SO := [⟨(some 7), .fieldAddr 24 (.tmp (2 : Nat)) 0, none⟩,
  ⟨(some 8), .load 3 (.tmp (7 : Nat)), none⟩,
  ⟨(some 9), .makeSlice 22 (.tmp (8 : Nat)) (.tmp (8 : Nat)), none⟩,
  ⟨(some 5), .assign (.tmp (9 : Nat)), none⟩]
def R2_Index_r2 : List SO := [⟨(some 10), .fieldAddr 24 (.tmp (2 : Nat)) 0, none⟩,
  ⟨(some 11), .load 3 (.tmp (10 : Nat)), none⟩,
  ⟨(some 12), .binOp .sub 3 (.tmp (11 : Nat)) (.const (.int .i64 1)) 3, none⟩,
  ⟨(some 6), .assign (.tmp (12 : Nat)), none⟩]
def R2_Index_r3 : List SO := [⟨(some 13), .move (.tmp (6 : Nat)), none⟩,
  ⟨(some 14), .binOp .geq 3 (.tmp (13 : Nat)) (.const (.int .i64 0)) 3, none⟩]
def R2_Index_r4 : List SO := [⟨(some 17), .move (.tmp (5 : Nat)), none⟩,
  ⟨(some 18), .move (.tmp (6 : Nat)), none⟩,
  ⟨(some 19), .move (.tmp (1 : Nat)), none⟩,
  ⟨(some 20), .fieldAddr 24 (.tmp (2 : Nat)) 2, none⟩,
  ⟨(some 21), .load 3 (.tmp (20 : Nat)), none⟩,
  ⟨(some 22), .binOp .rem 3 (.tmp (19 : Nat)) (.tmp (21 : Nat)) 3, none⟩,
  ⟨(some 23), .indexAddr 22 (.tmp (17 : Nat)) (.tmp (18 : Nat)), none⟩,
  ⟨none, .store 3 (.tmp (23 : Nat)) (.tmp (22 : Nat)), none⟩]
def R2_Index_r5 : List SO := [⟨(some 24), .move (.tmp (1 : Nat)), none⟩,
  ⟨(some 25), .fieldAddr 24 (.tmp (2 : Nat)) 2, none⟩,
  ⟨(some 26), .load 3 (.tmp (25 : Nat)), none⟩,
  ⟨(some 27), .binOp .quo 3 (.tmp (24 : Nat)) (.tmp (26 : Nat)) 3, none⟩,
  ⟨(some 1), .assign (.tmp (27 : Nat)), none⟩]
def R2_Index_r6 : List SO := [⟨(some 15), .move (.tmp (6 : Nat)), none⟩,
  ⟨(some 16), .binOp .sub 3 (.tmp (15 : Nat)) (.const (.int .i64 1)) 3, none⟩,
  ⟨(some 6), .assign (.tmp (16 : Nat)), none⟩]
def R2_Index_r7 : List SO := [⟨(some 28), .move (.tmp (5 : Nat)), none⟩,
  ⟨(some 4), .assign (.tmp (28 : Nat)), none⟩]
def R2_Index_c : SF := ⟨29, (.seq (.reg R2_Index_r0)
  (.seq (.reg R2_Index_r1)
  (.seq (.seq (.reg R2_Index_r2)
  (.block 0 (.loop (.seq (.seq (.reg R2_Index_r3)
  (.cond (.tmp (14 : Nat)) .skip (.exit 0)))
  (.seq (.block 1 (.seq (.reg R2_Index_r4)
  (.reg R2_Index_r5)))
  (.reg R2_Index_r6))))))
  (.seq (.reg R2_Index_r7)
  .ret)))), [.tmp 4]⟩
theorem R2_Index_s : slimF Try.prog 21 = some R2_Index_c := by kernel_rfl
abbrev R2_Index_f : Nat := 21
/-- printworks/printworksref2.SameInts -/
def R2_SameInts_r0 : List SO := [⟨(some 4), .assign (.const (.bool false)), none⟩]
def R2_SameInts_r1 : List SO := [⟨(some 6), .move (.tmp (0 : Nat)), none⟩,
  ⟨(some 7), .call ⟨(.builtin .len), #[(.tmp (6 : Nat))], #[22]⟩, none⟩,
  ⟨(some 8), .move (.tmp (1 : Nat)), none⟩,
  ⟨(some 9), .call ⟨(.builtin .len), #[(.tmp (8 : Nat))], #[22]⟩, none⟩,
  ⟨(some 10), .binOp .neq 3 (.tmp (7 : Nat)) (.tmp (9 : Nat)) 3, none⟩]
def R2_SameInts_r2 : List SO := [⟨(some 4), .assign (.const (.bool false)), none⟩]
def R2_SameInts_r3 : List SO := [⟨(some 11), .move (.tmp (0 : Nat)), none⟩,
  ⟨(some 12), .call ⟨(.builtin .len), #[(.tmp (11 : Nat))], #[22]⟩, none⟩,
  ⟨(some 13), .move (.const (.int .i64 0)), none⟩]
def R2_SameInts_r4 : List SO := [⟨(some 14), .binOp .lss 3 (.tmp (13 : Nat)) (.tmp (12 : Nat)) 3, none⟩]
def R2_SameInts_r5 : List SO := [⟨(some 15), .move (.tmp (13 : Nat)), none⟩,
  ⟨(some 5), .assign (.tmp (15 : Nat)), none⟩]
def R2_SameInts_r6 : List SO := [⟨(some 16), .move (.tmp (0 : Nat)), none⟩,
  ⟨(some 17), .move (.tmp (5 : Nat)), none⟩,
  ⟨(some 18), .indexAddr 22 (.tmp (16 : Nat)) (.tmp (17 : Nat)), none⟩,
  ⟨(some 19), .load 3 (.tmp (18 : Nat)), none⟩,
  ⟨(some 20), .move (.tmp (1 : Nat)), none⟩,
  ⟨(some 21), .move (.tmp (5 : Nat)), none⟩,
  ⟨(some 22), .indexAddr 22 (.tmp (20 : Nat)) (.tmp (21 : Nat)), none⟩,
  ⟨(some 23), .load 3 (.tmp (22 : Nat)), none⟩,
  ⟨(some 24), .binOp .neq 3 (.tmp (19 : Nat)) (.tmp (23 : Nat)) 3, none⟩]
def R2_SameInts_a6 : List (List Nat) := [[], [], [0, 1], [2], [], [], [4, 5], [6], [3, 7]]
def R2_SameInts_r7 : List SO := [⟨(some 4), .assign (.const (.bool false)), none⟩]
def R2_SameInts_r8 : List SO := [⟨(some 25), .binOp .add 3 (.tmp (13 : Nat)) (.const (.int .i64 1)) 3, none⟩,
  ⟨(some 13), .move (.tmp (25 : Nat)), none⟩]
def R2_SameInts_r9 : List SO := [⟨(some 4), .assign (.const (.bool true)), none⟩]
def R2_SameInts_c : SF := ⟨26, (.seq (.reg R2_SameInts_r0)
  (.seq (.seq (.reg R2_SameInts_r1)
  (.cond (.tmp (10 : Nat)) (.seq (.reg R2_SameInts_r2)
  .ret) .skip))
  (.seq (.seq (.reg R2_SameInts_r3)
  (.block 0 (.loop (.seq (.reg R2_SameInts_r4)
  (.seq (.cond (.tmp (14 : Nat)) .skip (.exit 0))
  (.seq (.block 1 (.seq (.reg R2_SameInts_r5)
  (.seq (.regd R2_SameInts_r6 R2_SameInts_a6)
  (.cond (.tmp (24 : Nat)) (.seq (.reg R2_SameInts_r7)
  .ret) .skip))))
  (.reg R2_SameInts_r8)))))))
  (.seq (.reg R2_SameInts_r9)
  .ret)))), [.tmp 4]⟩
theorem R2_SameInts_s : slimF Try.prog 23 = some R2_SameInts_c := by kernel_rfl
abbrev R2_SameInts_f : Nat := 23
/-- printworks/printworksref2.Round -/
def R2_Round_r0 : List SO := [⟨(some 4), .assign (.const (.int .i64 0)), none⟩]
def R2_Round_r1 : List SO := [⟨(some 6), .move (.tmp (0 : Nat)), none⟩,
  ⟨(some 7), .move (.tmp (1 : Nat)), none⟩,
  ⟨(some 8), .call ⟨(.value (.func (51 : Nat))), #[(.tmp (6 : Nat)), (.tmp (7 : Nat))], #[3, 3]⟩, none⟩,
  ⟨(some 5), .assign (.tmp (8 : Nat)), none⟩]
def R2_Round_r2 : List SO := [⟨(some 9), .move (.tmp (0 : Nat)), none⟩,
  ⟨(some 10), .move (.tmp (5 : Nat)), none⟩,
  ⟨(some 11), .move (.tmp (1 : Nat)), none⟩,
  ⟨(some 12), .binOp .mul 3 (.tmp (10 : Nat)) (.tmp (11 : Nat)) 3, none⟩,
  ⟨(some 13), .binOp .sub 3 (.tmp (9 : Nat)) (.tmp (12 : Nat)) 3, none⟩,
  ⟨(some 14), .binOp .mul 3 (.const (.int .i64 2)) (.tmp (13 : Nat)) 3, none⟩,
  ⟨(some 15), .move (.tmp (1 : Nat)), none⟩,
  ⟨(some 16), .binOp .geq 3 (.tmp (14 : Nat)) (.tmp (15 : Nat)) 3, none⟩]
def R2_Round_r3 : List SO := [⟨(some 17), .move (.tmp (5 : Nat)), none⟩,
  ⟨(some 18), .binOp .add 3 (.tmp (17 : Nat)) (.const (.int .i64 1)) 3, none⟩,
  ⟨(some 5), .assign (.tmp (18 : Nat)), none⟩]
def R2_Round_r4 : List SO := [⟨(some 19), .move (.tmp (5 : Nat)), none⟩,
  ⟨(some 4), .assign (.tmp (19 : Nat)), none⟩]
def R2_Round_c : SF := ⟨20, (.seq (.reg R2_Round_r0)
  (.seq (.reg R2_Round_r1)
  (.seq (.seq (.reg R2_Round_r2)
  (.cond (.tmp (16 : Nat)) (.reg R2_Round_r3) .skip))
  (.seq (.reg R2_Round_r4)
  .ret)))), [.tmp 4]⟩
theorem R2_Round_s : slimF Try.prog 24 = some R2_Round_c := by kernel_rfl
abbrev R2_Round_f : Nat := 24
/-- printworks/printworksref2.SameBytes -/
def R2_SameBytes_r0 : List SO := [⟨(some 4), .assign (.const (.bool false)), none⟩]
def R2_SameBytes_r1 : List SO := [⟨(some 5), .move (.tmp (0 : Nat)), none⟩,
  ⟨(some 6), .convert 57 9 (.tmp (5 : Nat)), none⟩,
  ⟨(some 7), .move (.tmp (1 : Nat)), none⟩,
  ⟨(some 8), .convert 57 9 (.tmp (7 : Nat)), none⟩,
  ⟨(some 9), .binOp .eql 9 (.tmp (6 : Nat)) (.tmp (8 : Nat)) 9, none⟩,
  ⟨(some 4), .assign (.tmp (9 : Nat)), none⟩]
def R2_SameBytes_c : SF := ⟨10, (.seq (.reg R2_SameBytes_r0)
  (.seq (.reg R2_SameBytes_r1)
  .ret)), [.tmp 4]⟩
theorem R2_SameBytes_s : slimF Try.prog 36 = some R2_SameBytes_c := by kernel_rfl
abbrev R2_SameBytes_f : Nat := 36
/-- printworks/printworksref2.Gcd -/
def R2_Gcd_r0 : List SO := [⟨(some 4), .assign (.const (.int .i64 0)), none⟩]
def R2_Gcd_r1 : List SO := [⟨(some 6), .move (.tmp (0 : Nat)), none⟩,
  ⟨(some 7), .binOp .lss 3 (.tmp (6 : Nat)) (.const (.int .i64 0)) 3, none⟩]
def R2_Gcd_r2 : List SO := [⟨(some 8), .move (.tmp (0 : Nat)), none⟩,
  ⟨(some 9), .unOp .neg 3 (.tmp (8 : Nat)), none⟩,
  ⟨(some 0), .assign (.tmp (9 : Nat)), none⟩]
def R2_Gcd_r3 : List SO := [⟨(some 10), .move (.tmp (1 : Nat)), none⟩,
  ⟨(some 11), .binOp .lss 3 (.tmp (10 : Nat)) (.const (.int .i64 0)) 3, none⟩]
def R2_Gcd_r4 : List SO := [⟨(some 12), .move (.tmp (1 : Nat)), none⟩,
  ⟨(some 13), .unOp .neg 3 (.tmp (12 : Nat)), none⟩,
  ⟨(some 1), .assign (.tmp (13 : Nat)), none⟩]
def R2_Gcd_r5 : List SO := [⟨(some 14), .move (.tmp (0 : Nat)), none⟩,
  ⟨(some 15), .move (.tmp (1 : Nat)), none⟩,
  ⟨(some 16), .call ⟨(.builtin .max), #[(.tmp (14 : Nat)), (.tmp (15 : Nat))], #[3, 3]⟩, none⟩,
  ⟨(some 5), .assign (.tmp (16 : Nat)), none⟩]
def R2_Gcd_r6 : List SO := [⟨(some 19), .move (.tmp (0 : Nat)), none⟩,
  ⟨(some 20), .move (.tmp (5 : Nat)), none⟩,
  ⟨(some 21), .binOp .rem 3 (.tmp (19 : Nat)) (.tmp (20 : Nat)) 3, none⟩,
  ⟨(some 22), .binOp .eql 3 (.tmp (21 : Nat)) (.const (.int .i64 0)) 3, none⟩,
  ⟨(some 23), .move (.tmp (22 : Nat)), none⟩,
  ⟨(some 24), .move (.tmp (1 : Nat)), (some (23, true))⟩,
  ⟨(some 25), .move (.tmp (5 : Nat)), (some (23, true))⟩,
  ⟨(some 26), .binOp .rem 3 (.tmp (24 : Nat)) (.tmp (25 : Nat)) 3, (some (23, true))⟩,
  ⟨(some 27), .binOp .eql 3 (.tmp (26 : Nat)) (.const (.int .i64 0)) 3, (some (23, true))⟩,
  ⟨(some 28), .pick (.tmp (23 : Nat)) (.tmp (27 : Nat)) (.const (.bool false)), none⟩]
def R2_Gcd_r7 : List SO := [⟨(some 29), .move (.tmp (5 : Nat)), none⟩,
  ⟨(some 4), .assign (.tmp (29 : Nat)), none⟩]
def R2_Gcd_r8 : List SO := [⟨(some 17), .move (.tmp (5 : Nat)), none⟩,
  ⟨(some 18), .binOp .sub 3 (.tmp (17 : Nat)) (.const (.int .i64 1)) 3, none⟩,
  ⟨(some 5), .assign (.tmp (18 : Nat)), none⟩]
def R2_Gcd_c : SF := ⟨30, (.seq (.reg R2_Gcd_r0)
  (.seq (.seq (.reg R2_Gcd_r1)
  (.cond (.tmp (7 : Nat)) (.reg R2_Gcd_r2) .skip))
  (.seq (.seq (.reg R2_Gcd_r3)
  (.cond (.tmp (11 : Nat)) (.reg R2_Gcd_r4) .skip))
  (.seq (.reg R2_Gcd_r5)
  (.block 0 (.loop (.seq (.block 1 (.seq (.reg R2_Gcd_r6)
  (.cond (.tmp (28 : Nat)) (.seq (.reg R2_Gcd_r7)
  .ret) .skip)))
  (.reg R2_Gcd_r8)))))))), [.tmp 4]⟩
theorem R2_Gcd_s : slimF Try.prog 47 = some R2_Gcd_c := by kernel_rfl
abbrev R2_Gcd_f : Nat := 47
/-- printworks/printworksref2.Floor -/
def R2_Floor_r0 : List SO := [⟨(some 4), .assign (.const (.int .i64 0)), none⟩]
def R2_Floor_r1 : List SO := [⟨(some 6), .move (.tmp (0 : Nat)), none⟩,
  ⟨(some 7), .move (.tmp (1 : Nat)), none⟩,
  ⟨(some 8), .binOp .quo 3 (.tmp (6 : Nat)) (.tmp (7 : Nat)) 3, none⟩,
  ⟨(some 5), .assign (.tmp (8 : Nat)), none⟩]
def R2_Floor_r2 : List SO := [⟨(some 9), .move (.tmp (5 : Nat)), none⟩,
  ⟨(some 10), .move (.tmp (1 : Nat)), none⟩,
  ⟨(some 11), .binOp .mul 3 (.tmp (9 : Nat)) (.tmp (10 : Nat)) 3, none⟩,
  ⟨(some 12), .move (.tmp (0 : Nat)), none⟩,
  ⟨(some 13), .binOp .gtr 3 (.tmp (11 : Nat)) (.tmp (12 : Nat)) 3, none⟩]
def R2_Floor_r3 : List SO := [⟨(some 14), .move (.tmp (5 : Nat)), none⟩,
  ⟨(some 15), .binOp .sub 3 (.tmp (14 : Nat)) (.const (.int .i64 1)) 3, none⟩,
  ⟨(some 5), .assign (.tmp (15 : Nat)), none⟩]
def R2_Floor_r4 : List SO := [⟨(some 16), .move (.tmp (5 : Nat)), none⟩,
  ⟨(some 4), .assign (.tmp (16 : Nat)), none⟩]
def R2_Floor_c : SF := ⟨17, (.seq (.reg R2_Floor_r0)
  (.seq (.reg R2_Floor_r1)
  (.seq (.seq (.reg R2_Floor_r2)
  (.cond (.tmp (13 : Nat)) (.reg R2_Floor_r3) .skip))
  (.seq (.reg R2_Floor_r4)
  .ret)))), [.tmp 4]⟩
theorem R2_Floor_s : slimF Try.prog 51 = some R2_Floor_c := by kernel_rfl
abbrev R2_Floor_f : Nat := 51
/-- printworks/printworksref2.SameTexts -/
def R2_SameTexts_r0 : List SO := [⟨(some 4), .assign (.const (.bool false)), none⟩]
def R2_SameTexts_r1 : List SO := [⟨(some 6), .move (.tmp (0 : Nat)), none⟩,
  ⟨(some 7), .call ⟨(.builtin .len), #[(.tmp (6 : Nat))], #[42]⟩, none⟩,
  ⟨(some 8), .move (.tmp (1 : Nat)), none⟩,
  ⟨(some 9), .call ⟨(.builtin .len), #[(.tmp (8 : Nat))], #[42]⟩, none⟩,
  ⟨(some 10), .binOp .neq 3 (.tmp (7 : Nat)) (.tmp (9 : Nat)) 3, none⟩]
def R2_SameTexts_r2 : List SO := [⟨(some 4), .assign (.const (.bool false)), none⟩]
def R2_SameTexts_r3 : List SO := [⟨(some 11), .move (.tmp (0 : Nat)), none⟩,
  ⟨(some 12), .call ⟨(.builtin .len), #[(.tmp (11 : Nat))], #[42]⟩, none⟩,
  ⟨(some 13), .move (.const (.int .i64 0)), none⟩]
def R2_SameTexts_r4 : List SO := [⟨(some 14), .binOp .lss 3 (.tmp (13 : Nat)) (.tmp (12 : Nat)) 3, none⟩]
def R2_SameTexts_r5 : List SO := [⟨(some 15), .move (.tmp (13 : Nat)), none⟩,
  ⟨(some 5), .assign (.tmp (15 : Nat)), none⟩]
def R2_SameTexts_r6 : List SO := [⟨(some 16), .move (.tmp (0 : Nat)), none⟩,
  ⟨(some 17), .move (.tmp (5 : Nat)), none⟩,
  ⟨(some 18), .indexAddr 42 (.tmp (16 : Nat)) (.tmp (17 : Nat)), none⟩,
  ⟨(some 19), .load 9 (.tmp (18 : Nat)), none⟩,
  ⟨(some 20), .move (.tmp (1 : Nat)), none⟩,
  ⟨(some 21), .move (.tmp (5 : Nat)), none⟩,
  ⟨(some 22), .indexAddr 42 (.tmp (20 : Nat)) (.tmp (21 : Nat)), none⟩,
  ⟨(some 23), .load 9 (.tmp (22 : Nat)), none⟩,
  ⟨(some 24), .binOp .neq 9 (.tmp (19 : Nat)) (.tmp (23 : Nat)) 9, none⟩]
def R2_SameTexts_a6 : List (List Nat) := [[], [], [0, 1], [2], [], [], [4, 5], [6], [3, 7]]
def R2_SameTexts_r7 : List SO := [⟨(some 4), .assign (.const (.bool false)), none⟩]
def R2_SameTexts_r8 : List SO := [⟨(some 25), .binOp .add 3 (.tmp (13 : Nat)) (.const (.int .i64 1)) 3, none⟩,
  ⟨(some 13), .move (.tmp (25 : Nat)), none⟩]
def R2_SameTexts_r9 : List SO := [⟨(some 4), .assign (.const (.bool true)), none⟩]
def R2_SameTexts_c : SF := ⟨26, (.seq (.reg R2_SameTexts_r0)
  (.seq (.seq (.reg R2_SameTexts_r1)
  (.cond (.tmp (10 : Nat)) (.seq (.reg R2_SameTexts_r2)
  .ret) .skip))
  (.seq (.seq (.reg R2_SameTexts_r3)
  (.block 0 (.loop (.seq (.reg R2_SameTexts_r4)
  (.seq (.cond (.tmp (14 : Nat)) .skip (.exit 0))
  (.seq (.block 1 (.seq (.reg R2_SameTexts_r5)
  (.seq (.regd R2_SameTexts_r6 R2_SameTexts_a6)
  (.cond (.tmp (24 : Nat)) (.seq (.reg R2_SameTexts_r7)
  .ret) .skip))))
  (.reg R2_SameTexts_r8)))))))
  (.seq (.reg R2_SameTexts_r9)
  .ret)))), [.tmp 4]⟩
theorem R2_SameTexts_s : slimF Try.prog 61 = some R2_SameTexts_c := by kernel_rfl
abbrev R2_SameTexts_f : Nat := 61

def tbl_R2 : List (Nat × SF) := [(17, R2_Mod_c), (20, R2_Power_c), (21, R2_Index_c), (23, R2_SameInts_c), (24, R2_Round_c), (36, R2_SameBytes_c), (47, R2_Gcd_c), (51, R2_Floor_c), (61, R2_SameTexts_c)]
theorem tbl_R2_ok : okT Try.prog tbl_R2 := ⟨R2_Mod_s, R2_Power_s, R2_Index_s, R2_SameInts_s, R2_Round_s, R2_SameBytes_s, R2_Gcd_s, R2_Floor_s, R2_SameTexts_s, trivial⟩

end Go.Proofs.Ythnfbdihihhoiaa
namespace Go.Proofs.Ythnfbdihihhoiaa
open Go Go.Lite
set_option linter.unusedVariables false

/-- printworks/printworkskeep2.gridWorks -/
def K2_gridWorks_r0 : List SO := [⟨(some 0), .assign (.const (.bool false)), none⟩]
def K2_gridWorks_r1 : List SO := [⟨(some 9), .call ⟨(.value (.func (48 : Nat))), #[], #[]⟩, none⟩,
  ⟨(some 10), .buildSlice 22 2 #[(0, (.const (.int .i64 48960))), (1, (.const (.int .i64 16320)))], none⟩,
  ⟨(some 11), .call ⟨(.value (.func (19 : Nat))), #[(.tmp (9 : Nat)), (.tmp (10 : Nat))], #[24, 22]⟩, none⟩,
  ⟨(some 8), .move (.tmp (11 : Nat)), none⟩,
  ⟨(some 12), .extract (.tmp (8 : Nat)) 0, none⟩,
  ⟨(some 13), .extract (.tmp (8 : Nat)) 1, none⟩,
  ⟨(some 1), .assign (.tmp (12 : Nat)), none⟩,
  ⟨(some 2), .assign (.tmp (13 : Nat)), none⟩]
def K2_gridWorks_r2 : List SO := [⟨(some 15), .call ⟨(.value (.func (48 : Nat))), #[], #[]⟩, none⟩,
  ⟨(some 16), .buildSlice 22 2 #[(0, (.const (.int .i64 1))), (1, (.const (.int .i64 0)))], none⟩,
  ⟨(some 17), .call ⟨(.value (.func (49 : Nat))), #[(.tmp (15 : Nat)), (.tmp (16 : Nat))], #[24, 22]⟩, none⟩,
  ⟨(some 14), .move (.tmp (17 : Nat)), none⟩,
  ⟨(some 18), .extract (.tmp (14 : Nat)) 0, none⟩,
  ⟨(some 19), .extract (.tmp (14 : Nat)) 1, none⟩,
  ⟨(some 3), .assign (.tmp (18 : Nat)), none⟩,
  ⟨(some 4), .assign (.tmp (19 : Nat)), none⟩]
def K2_gridWorks_r3 : List SO := [⟨(some 21), .call ⟨(.value (.func (48 : Nat))), #[], #[]⟩, none⟩,
  ⟨(some 22), .buildSlice 22 2 #[(0, (.const (.int .i64 0))), (1, (.const (.int .i64 0)))], none⟩,
  ⟨(some 23), .buildSlice 22 2 #[(0, (.const (.int .i64 0))), (1, (.const (.int .i64 65280)))], none⟩,
  ⟨(some 24), .call ⟨(.value (.func (18 : Nat))), #[(.tmp (21 : Nat)), (.tmp (22 : Nat)), (.tmp (23 : Nat))], #[24, 22, 22]⟩, none⟩,
  ⟨(some 20), .move (.tmp (24 : Nat)), none⟩,
  ⟨(some 25), .extract (.tmp (20 : Nat)) 0, none⟩,
  ⟨(some 26), .extract (.tmp (20 : Nat)) 1, none⟩,
  ⟨(some 27), .extract (.tmp (20 : Nat)) 2, none⟩,
  ⟨(some 5), .assign (.tmp (25 : Nat)), none⟩,
  ⟨(some 6), .assign (.tmp (26 : Nat)), none⟩,
  ⟨(some 7), .assign (.tmp (27 : Nat)), none⟩]
def K2_gridWorks_r4 : List SO := [⟨(some 28), .move (.tmp (2 : Nat)), none⟩,
  ⟨(some 29), .binOp .eql 26 (.tmp (28 : Nat)) (.const (.int .i64 0)) 26, none⟩,
  ⟨(some 30), .move (.tmp (29 : Nat)), none⟩,
  ⟨(some 31), .move (.tmp (1 : Nat)), (some (30, true))⟩,
  ⟨(some 32), .buildSlice 22 1 #[(0, (.const (.int .i64 25)))], (some (30, true))⟩,
  ⟨(some 33), .call ⟨(.value (.func (23 : Nat))), #[(.tmp (31 : Nat)), (.tmp (32 : Nat))], #[22, 22]⟩, (some (30, true))⟩,
  ⟨(some 34), .pick (.tmp (30 : Nat)) (.tmp (33 : Nat)) (.const (.bool false)), none⟩,
  ⟨(some 35), .move (.tmp (34 : Nat)), none⟩,
  ⟨(some 36), .move (.tmp (4 : Nat)), (some (35, true))⟩,
  ⟨(some 37), .binOp .eql 26 (.tmp (36 : Nat)) (.const (.int .i64 0)) 26, (some (35, true))⟩,
  ⟨(some 38), .pick (.tmp (35 : Nat)) (.tmp (37 : Nat)) (.const (.bool false)), none⟩,
  ⟨(some 39), .move (.tmp (38 : Nat)), none⟩,
  ⟨(some 40), .move (.tmp (3 : Nat)), (some (39, true))⟩,
  ⟨(some 41), .buildSlice 22 1 #[(0, (.const (.int .i64 20)))], (some (39, true))⟩,
  ⟨(some 42), .call ⟨(.value (.func (23 : Nat))), #[(.tmp (40 : Nat)), (.tmp (41 : Nat))], #[22, 22]⟩, (some (39, true))⟩,
  ⟨(some 43), .pick (.tmp (39 : Nat)) (.tmp (42 : Nat)) (.const (.bool false)), none⟩,
  ⟨(some 44), .move (.tmp (43 : Nat)), none⟩,
  ⟨(some 45), .move (.tmp (7 : Nat)), (some (44, true))⟩,
  ⟨(some 46), .binOp .eql 26 (.tmp (45 : Nat)) (.const (.int .i64 0)) 26, (some (44, true))⟩,
  ⟨(some 47), .pick (.tmp (44 : Nat)) (.tmp (46 : Nat)) (.const (.bool false)), none⟩,
  ⟨(some 48), .move (.tmp (47 : Nat)), none⟩,
  ⟨(some 49), .move (.tmp (5 : Nat)), (some (48, true))⟩,
  ⟨(some 50), .buildSlice 22 1 #[(0, (.const (.int .i64 0)))], (some (48, true))⟩,
  ⟨(some 51), .call ⟨(.value (.func (23 : Nat))), #[(.tmp (49 : Nat)), (.tmp (50 : Nat))], #[22, 22]⟩, (some (48, true))⟩,
  ⟨(some 52), .pick (.tmp (48 : Nat)) (.tmp (51 : Nat)) (.const (.bool false)), none⟩,
  ⟨(some 53), .move (.tmp (52 : Nat)), none⟩,
  ⟨(some 54), .move (.tmp (6 : Nat)), (some (53, true))⟩,
  ⟨(some 55), .buildSlice 22 1 #[(0, (.const (.int .i64 10)))], (some (53, true))⟩,
  ⟨(some 56), .call ⟨(.value (.func (23 : Nat))), #[(.tmp (54 : Nat)), (.tmp (55 : Nat))], #[22, 22]⟩, (some (53, true))⟩,
  ⟨(some 57), .pick (.tmp (53 : Nat)) (.tmp (56 : Nat)) (.const (.bool false)), none⟩,
  ⟨(some 0), .assign (.tmp (57 : Nat)), none⟩]
def K2_gridWorks_c : SF := ⟨58, (.seq (.reg K2_gridWorks_r0)
  (.seq (.reg K2_gridWorks_r1)
  (.seq (.reg K2_gridWorks_r2)
  (.seq (.reg K2_gridWorks_r3)
  (.seq (.reg K2_gridWorks_r4)
  .ret))))), [.tmp 0]⟩
theorem K2_gridWorks_s : slimF Try.prog 15 = some K2_gridWorks_c := by kernel_rfl
abbrev K2_gridWorks_f : Nat := 15
/-- printworks/printworkskeep2.profileWorks -/
def K2_profileWorks_r0 : List SO := [⟨(some 0), .assign (.const (.bool false)), none⟩]
def K2_profileWorks_r1 : List SO := [⟨(some 8), .call ⟨(.value (.func (58 : Nat))), #[], #[]⟩, none⟩,
  ⟨(some 9), .buildSlice 22 1 #[(0, (.const (.int .i64 128)))], none⟩,
  ⟨(some 10), .call ⟨(.value (.func (29 : Nat))), #[(.tmp (8 : Nat)), (.tmp (9 : Nat))], #[45, 22]⟩, none⟩,
  ⟨(some 7), .move (.tmp (10 : Nat)), none⟩,
  ⟨(some 11), .extract (.tmp (7 : Nat)) 0, none⟩,
  ⟨(some 12), .extract (.tmp (7 : Nat)) 1, none⟩,
  ⟨(some 1), .alloc 53, none⟩,
  ⟨none, .store 53 (.tmp (1 : Nat)) (.tmp (11 : Nat)), none⟩,
  ⟨(some 2), .assign (.tmp (12 : Nat)), none⟩]
def K2_profileWorks_r2 : List SO := [⟨(some 14), .call ⟨(.value (.func (58 : Nat))), #[], #[]⟩, none⟩,
  ⟨(some 15), .call ⟨(.value (.func (59 : Nat))), #[(.tmp (14 : Nat))], #[45]⟩, none⟩,
  ⟨(some 13), .move (.tmp (15 : Nat)), none⟩,
  ⟨(some 16), .extract (.tmp (13 : Nat)) 0, none⟩,
  ⟨(some 17), .extract (.tmp (13 : Nat)) 1, none⟩,
  ⟨(some 3), .assign (.tmp (16 : Nat)), none⟩,
  ⟨(some 4), .assign (.tmp (17 : Nat)), none⟩]
def K2_profileWorks_r3 : List SO := [⟨(some 19), .move (.tmp (3 : Nat)), none⟩,
  ⟨(some 20), .call ⟨(.value (.func (60 : Nat))), #[(.tmp (19 : Nat))], #[57]⟩, none⟩,
  ⟨(some 18), .move (.tmp (20 : Nat)), none⟩,
  ⟨(some 21), .extract (.tmp (18 : Nat)) 0, none⟩,
  ⟨(some 22), .extract (.tmp (18 : Nat)) 1, none⟩,
  ⟨(some 5), .assign (.tmp (21 : Nat)), none⟩,
  ⟨(some 6), .assign (.tmp (22 : Nat)), none⟩]
def K2_profileWorks_r4 : List SO := [⟨(some 23), .move (.tmp (2 : Nat)), none⟩,
  ⟨(some 24), .binOp .eql 26 (.tmp (23 : Nat)) (.const (.int .i64 0)) 26, none⟩,
  ⟨(some 25), .move (.tmp (24 : Nat)), none⟩,
  ⟨(some 26), .load 53 (.tmp (1 : Nat)), (some (25, true))⟩,
  ⟨(some 27), .build 53 #[(0, (.const (.int .i64 5984))), (1, (.const (.int .i64 50))), (2, (.const (.int .i64 (-50))))], (some (25, true))⟩,
  ⟨(some 28), .binOp .eql 53 (.tmp (26 : Nat)) (.tmp (27 : Nat)) 53, (some (25, true))⟩,
  ⟨(some 29), .pick (.tmp (25 : Nat)) (.tmp (28 : Nat)) (.const (.bool false)), none⟩,
  ⟨(some 30), .move (.tmp (29 : Nat)), none⟩,
  ⟨(some 31), .move (.tmp (4 : Nat)), (some (30, true))⟩,
  ⟨(some 32), .binOp .eql 26 (.tmp (31 : Nat)) (.const (.int .i64 0)) 26, (some (30, true))⟩,
  ⟨(some 33), .pick (.tmp (30 : Nat)) (.tmp (32 : Nat)) (.const (.bool false)), none⟩,
  ⟨(some 34), .move (.tmp (33 : Nat)), none⟩,
  ⟨(some 35), .move (.tmp (3 : Nat)), (some (34, true))⟩,
  ⟨(some 36), .call ⟨(.builtin .len), #[(.tmp (35 : Nat))], #[57]⟩, (some (34, true))⟩,
  ⟨(some 37), .binOp .eql 3 (.tmp (36 : Nat)) (.const (.int .i64 104)) 3, (some (34, true))⟩,
  ⟨(some 38), .pick (.tmp (34 : Nat)) (.tmp (37 : Nat)) (.const (.bool false)), none⟩,
  ⟨(some 39), .move (.tmp (38 : Nat)), none⟩,
  ⟨(some 40), .move (.tmp (6 : Nat)), (some (39, true))⟩,
  ⟨(some 41), .binOp .eql 26 (.tmp (40 : Nat)) (.const (.int .i64 0)) 26, (some (39, true))⟩,
  ⟨(some 42), .pick (.tmp (39 : Nat)) (.tmp (41 : Nat)) (.const (.bool false)), none⟩,
  ⟨(some 43), .move (.tmp (42 : Nat)), none⟩,
  ⟨(some 44), .move (.tmp (5 : Nat)), (some (43, true))⟩,
  ⟨(some 45), .buildSlice 42 4 #[(0, (.const (.string ⟨([110, 97, 109, 101] : List UInt8).toArray⟩))), (1, (.const (.string ⟨([105, 110, 107, 115] : List UInt8).toArray⟩))), (2, (.const (.string ⟨([99, 117, 114, 118] : List UInt8).toArray⟩))), (3, (.const (.string ⟨([103, 114, 105, 100] : List UInt8).toArray⟩)))], (some (43, true))⟩,
  ⟨(some 46), .call ⟨(.value (.func (61 : Nat))), #[(.tmp (44 : Nat)), (.tmp (45 : Nat))], #[42, 42]⟩, (some (43, true))⟩,
  ⟨(some 47), .pick (.tmp (43 : Nat)) (.tmp (46 : Nat)) (.const (.bool false)), none⟩,
  ⟨(some 48), .move (.tmp (47 : Nat)), none⟩,
  ⟨(some 49), .buildSlice 57 9 #[(0, (.const (.int .u8 49))), (1, (.const (.int .u8 50))), (2, (.const (.int .u8 51))), (3, (.const (.int .u8 52))), (4, (.const (.int .u8 53))), (5, (.const (.int .u8 54))), (6, (.const (.int .u8 55))), (7, (.const (.int .u8 56))), (8, (.const (.int .u8 57)))], (some (48, true))⟩,
  ⟨(some 50), .convert 57 57 (.tmp (49 : Nat)), (some (48, true))⟩,
  ⟨(some 51), .call ⟨(.value (.func (62 : Nat))), #[(.tmp (50 : Nat))], #[57]⟩, (some (48, true))⟩,
  ⟨(some 52), .binOp .eql 3 (.tmp (51 : Nat)) (.const (.int .i64 3421780262)) 3, (some (48, true))⟩,
  ⟨(some 53), .pick (.tmp (48 : Nat)) (.tmp (52 : Nat)) (.const (.bool false)), none⟩,
  ⟨(some 0), .assign (.tmp (53 : Nat)), none⟩]
def K2_profileWorks_c : SF := ⟨54, (.seq (.reg K2_profileWorks_r0)
  (.seq (.reg K2_profileWorks_r1)
  (.seq (.reg K2_profileWorks_r2)
  (.seq (.reg K2_profileWorks_r3)
  (.seq (.reg K2_profileWorks_r4)
  .ret))))), [.tmp 0]⟩
theorem K2_profileWorks_s : slimF Try.prog 26 = some K2_profileWorks_c := by kernel_rfl
abbrev K2_profileWorks_f : Nat := 26
/-- printworks/printworkskeep2.rangecoderWorks -/
def K2_rangecoderWorks_r0 : List SO := [⟨(some 0), .assign (.const (.bool false)), none⟩]
def K2_rangecoderWorks_r1 : List SO := [⟨(some 8), .buildSlice 22 1 #[(0, (.const (.int .i64 0)))], none⟩,
  ⟨(some 9), .buildSlice 22 1 #[(0, (.const (.int .i64 1)))], none⟩,
  ⟨(some 10), .call ⟨(.value (.func (31 : Nat))), #[(.const (.int .i64 1)), (.tmp (8 : Nat)), (.tmp (9 : Nat))], #[3, 22, 22]⟩, none⟩,
  ⟨(some 7), .move (.tmp (10 : Nat)), none⟩,
  ⟨(some 11), .extract (.tmp (7 : Nat)) 0, none⟩,
  ⟨(some 12), .extract (.tmp (7 : Nat)) 1, none⟩,
  ⟨(some 1), .assign (.tmp (11 : Nat)), none⟩,
  ⟨(some 2), .assign (.tmp (12 : Nat)), none⟩]
def K2_rangecoderWorks_r2 : List SO := [⟨(some 14), .buildSlice 22 1 #[(0, (.const (.int .i64 0)))], none⟩,
  ⟨(some 15), .buildSlice 22 1 #[(0, (.const (.int .i64 0)))], none⟩,
  ⟨(some 16), .call ⟨(.value (.func (31 : Nat))), #[(.const (.int .i64 1)), (.tmp (14 : Nat)), (.tmp (15 : Nat))], #[3, 22, 22]⟩, none⟩,
  ⟨(some 13), .move (.tmp (16 : Nat)), none⟩,
  ⟨(some 17), .extract (.tmp (13 : Nat)) 0, none⟩,
  ⟨(some 18), .extract (.tmp (13 : Nat)) 1, none⟩,
  ⟨(some 3), .assign (.tmp (17 : Nat)), none⟩,
  ⟨(some 4), .assign (.tmp (18 : Nat)), none⟩]
def K2_rangecoderWorks_r3 : List SO := [⟨(some 20), .buildSlice 57 4 #[(0, (.const (.int .u8 127))), (1, (.const (.int .u8 255))), (2, (.const (.int .u8 255))), (3, (.const (.int .u8 255)))], none⟩,
  ⟨(some 21), .buildSlice 22 1 #[(0, (.const (.int .i64 0)))], none⟩,
  ⟨(some 22), .call ⟨(.value (.func (32 : Nat))), #[(.const (.int .i64 1)), (.tmp (20 : Nat)), (.tmp (21 : Nat))], #[3, 57, 22]⟩, none⟩,
  ⟨(some 19), .move (.tmp (22 : Nat)), none⟩,
  ⟨(some 23), .extract (.tmp (19 : Nat)) 0, none⟩,
  ⟨(some 24), .extract (.tmp (19 : Nat)) 1, none⟩,
  ⟨(some 5), .assign (.tmp (23 : Nat)), none⟩,
  ⟨(some 6), .assign (.tmp (24 : Nat)), none⟩]
def K2_rangecoderWorks_r4 : List SO := [⟨(some 25), .move (.tmp (2 : Nat)), none⟩,
  ⟨(some 26), .binOp .eql 26 (.tmp (25 : Nat)) (.const (.int .i64 0)) 26, none⟩,
  ⟨(some 27), .move (.tmp (26 : Nat)), none⟩,
  ⟨(some 28), .move (.tmp (1 : Nat)), (some (27, true))⟩,
  ⟨(some 29), .buildSlice 57 4 #[(0, (.const (.int .u8 127))), (1, (.const (.int .u8 255))), (2, (.const (.int .u8 255))), (3, (.const (.int .u8 255)))], (some (27, true))⟩,
  ⟨(some 30), .call ⟨(.value (.func (36 : Nat))), #[(.tmp (28 : Nat)), (.tmp (29 : Nat))], #[57, 57]⟩, (some (27, true))⟩,
  ⟨(some 31), .pick (.tmp (27 : Nat)) (.tmp (30 : Nat)) (.const (.bool false)), none⟩,
  ⟨(some 32), .move (.tmp (31 : Nat)), none⟩,
  ⟨(some 33), .move (.tmp (4 : Nat)), (some (32, true))⟩,
  ⟨(some 34), .binOp .eql 26 (.tmp (33 : Nat)) (.const (.int .i64 0)) 26, (some (32, true))⟩,
  ⟨(some 35), .pick (.tmp (32 : Nat)) (.tmp (34 : Nat)) (.const (.bool false)), none⟩,
  ⟨(some 36), .move (.tmp (35 : Nat)), none⟩,
  ⟨(some 37), .move (.tmp (3 : Nat)), (some (36, true))⟩,
  ⟨(some 38), .call ⟨(.builtin .len), #[(.tmp (37 : Nat))], #[57]⟩, (some (36, true))⟩,
  ⟨(some 39), .binOp .eql 3 (.tmp (38 : Nat)) (.const (.int .i64 0)) 3, (some (36, true))⟩,
  ⟨(some 40), .pick (.tmp (36 : Nat)) (.tmp (39 : Nat)) (.const (.bool false)), none⟩,
  ⟨(some 41), .move (.tmp (40 : Nat)), none⟩,
  ⟨(some 42), .move (.tmp (6 : Nat)), (some (41, true))⟩,
  ⟨(some 43), .binOp .eql 26 (.tmp (42 : Nat)) (.const (.int .i64 0)) 26, (some (41, true))⟩,
  ⟨(some 44), .pick (.tmp (41 : Nat)) (.tmp (43 : Nat)) (.const (.bool false)), none⟩,
  ⟨(some 45), .move (.tmp (44 : Nat)), none⟩,
  ⟨(some 46), .move (.tmp (5 : Nat)), (some (45, true))⟩,
  ⟨(some 47), .buildSlice 22 1 #[(0, (.const (.int .i64 1)))], (some (45, true))⟩,
  ⟨(some 48), .call ⟨(.value (.func (23 : Nat))), #[(.tmp (46 : Nat)), (.tmp (47 : Nat))], #[22, 22]⟩, (some (45, true))⟩,
  ⟨(some 49), .pick (.tmp (45 : Nat)) (.tmp (48 : Nat)) (.const (.bool false)), none⟩,
  ⟨(some 0), .assign (.tmp (49 : Nat)), none⟩]
def K2_rangecoderWorks_c : SF := ⟨50, (.seq (.reg K2_rangecoderWorks_r0)
  (.seq (.reg K2_rangecoderWorks_r1)
  (.seq (.reg K2_rangecoderWorks_r2)
  (.seq (.reg K2_rangecoderWorks_r3)
  (.seq (.reg K2_rangecoderWorks_r4)
  .ret))))), [.tmp 0]⟩
theorem K2_rangecoderWorks_s : slimF Try.prog 30 = some K2_rangecoderWorks_c := by kernel_rfl
abbrev K2_rangecoderWorks_f : Nat := 30
/-- printworks/printworkskeep2.reedsolomonWorks -/
def K2_reedsolomonWorks_r0 : List SO := [⟨(some 0), .assign (.const (.bool false)), none⟩]
def K2_reedsolomonWorks_r1 : List SO := [⟨(some 9), .buildSlice 57 1 #[(0, (.const (.int .u8 1)))], none⟩,
  ⟨(some 10), .call ⟨(.value (.func (40 : Nat))), #[(.tmp (9 : Nat)), (.const (.int .i64 2))], #[57, 3]⟩, none⟩,
  ⟨(some 8), .move (.tmp (10 : Nat)), none⟩,
  ⟨(some 11), .extract (.tmp (8 : Nat)) 0, none⟩,
  ⟨(some 12), .extract (.tmp (8 : Nat)) 1, none⟩,
  ⟨(some 1), .assign (.tmp (11 : Nat)), none⟩,
  ⟨(some 2), .assign (.tmp (12 : Nat)), none⟩]
def K2_reedsolomonWorks_r2 : List SO := [⟨(some 14), .buildSlice 57 3 #[(0, (.const (.int .u8 0))), (1, (.const (.int .u8 3))), (2, (.const (.int .u8 2)))], none⟩,
  ⟨(some 15), .call ⟨(.value (.func (42 : Nat))), #[(.tmp (14 : Nat)), (.const (.int .i64 2)), (.const (.slice none 0 0))], #[57, 3, 22]⟩, none⟩,
  ⟨(some 13), .move (.tmp (15 : Nat)), none⟩,
  ⟨(some 16), .extract (.tmp (13 : Nat)) 0, none⟩,
  ⟨(some 17), .extract (.tmp (13 : Nat)) 1, none⟩,
  ⟨(some 18), .extract (.tmp (13 : Nat)) 2, none⟩,
  ⟨(some 3), .assign (.tmp (16 : Nat)), none⟩,
  ⟨(some 4), .assign (.tmp (17 : Nat)), none⟩,
  ⟨(some 5), .assign (.tmp (18 : Nat)), none⟩]
def K2_reedsolomonWorks_r3 : List SO := [⟨(some 20), .call ⟨(.value (.func (75 : Nat))), #[(.const (.int .u8 2))], #[5]⟩, none⟩,
  ⟨(some 19), .move (.tmp (20 : Nat)), none⟩,
  ⟨(some 21), .extract (.tmp (19 : Nat)) 0, none⟩,
  ⟨(some 22), .extract (.tmp (19 : Nat)) 1, none⟩,
  ⟨(some 6), .assign (.tmp (21 : Nat)), none⟩,
  ⟨(some 7), .assign (.tmp (22 : Nat)), none⟩]
def K2_reedsolomonWorks_r4 : List SO := [⟨(some 23), .move (.tmp (2 : Nat)), none⟩,
  ⟨(some 24), .binOp .eql 26 (.tmp (23 : Nat)) (.const (.int .i64 0)) 26, none⟩,
  ⟨(some 25), .move (.tmp (24 : Nat)), none⟩,
  ⟨(some 26), .move (.tmp (1 : Nat)), (some (25, true))⟩,
  ⟨(some 27), .buildSlice 57 3 #[(0, (.const (.int .u8 1))), (1, (.const (.int .u8 3))), (2, (.const (.int .u8 2)))], (some (25, true))⟩,
  ⟨(some 28), .call ⟨(.value (.func (36 : Nat))), #[(.tmp (26 : Nat)), (.tmp (27 : Nat))], #[57, 57]⟩, (some (25, true))⟩,
  ⟨(some 29), .pick (.tmp (25 : Nat)) (.tmp (28 : Nat)) (.const (.bool false)), none⟩,
  ⟨(some 30), .move (.tmp (29 : Nat)), none⟩,
  ⟨(some 31), .move (.tmp (5 : Nat)), (some (30, true))⟩,
  ⟨(some 32), .binOp .eql 26 (.tmp (31 : Nat)) (.const (.int .i64 0)) 26, (some (30, true))⟩,
  ⟨(some 33), .pick (.tmp (30 : Nat)) (.tmp (32 : Nat)) (.const (.bool false)), none⟩,
  ⟨(some 34), .move (.tmp (33 : Nat)), none⟩,
  ⟨(some 35), .move (.tmp (4 : Nat)), (some (34, true))⟩,
  ⟨(some 36), .binOp .eql 3 (.tmp (35 : Nat)) (.const (.int .i64 1)) 3, (some (34, true))⟩,
  ⟨(some 37), .pick (.tmp (34 : Nat)) (.tmp (36 : Nat)) (.const (.bool false)), none⟩,
  ⟨(some 38), .move (.tmp (37 : Nat)), none⟩,
  ⟨(some 39), .move (.tmp (3 : Nat)), (some (38, true))⟩,
  ⟨(some 40), .move (.tmp (1 : Nat)), (some (38, true))⟩,
  ⟨(some 41), .call ⟨(.value (.func (36 : Nat))), #[(.tmp (39 : Nat)), (.tmp (40 : Nat))], #[57, 57]⟩, (some (38, true))⟩,
  ⟨(some 42), .pick (.tmp (38 : Nat)) (.tmp (41 : Nat)) (.const (.bool false)), none⟩,
  ⟨(some 43), .move (.tmp (42 : Nat)), none⟩,
  ⟨(some 44), .move (.tmp (7 : Nat)), (some (43, true))⟩,
  ⟨(some 45), .binOp .eql 26 (.tmp (44 : Nat)) (.const (.int .i64 0)) 26, (some (43, true))⟩,
  ⟨(some 46), .pick (.tmp (43 : Nat)) (.tmp (45 : Nat)) (.const (.bool false)), none⟩,
  ⟨(some 47), .move (.tmp (46 : Nat)), none⟩,
  ⟨(some 48), .move (.tmp (6 : Nat)), (some (47, true))⟩,
  ⟨(some 49), .binOp .eql 5 (.tmp (48 : Nat)) (.const (.int .u8 142)) 5, (some (47, true))⟩,
  ⟨(some 50), .pick (.tmp (47 : Nat)) (.tmp (49 : Nat)) (.const (.bool false)), none⟩,
  ⟨(some 51), .move (.tmp (50 : Nat)), none⟩,
  ⟨(some 52), .call ⟨(.value (.func (76 : Nat))), #[(.const (.int .u8 2)), (.const (.int .u8 128))], #[5, 5]⟩, (some (51, true))⟩,
  ⟨(some 53), .binOp .eql 5 (.tmp (52 : Nat)) (.const (.int .u8 29)) 5, (some (51, true))⟩,
  ⟨(some 54), .pick (.tmp (51 : Nat)) (.tmp (53 : Nat)) (.const (.bool false)), none⟩,
  ⟨(some 0), .assign (.tmp (54 : Nat)), none⟩]
def K2_reedsolomonWorks_c : SF := ⟨55, (.seq (.reg K2_reedsolomonWorks_r0)
  (.seq (.reg K2_reedsolomonWorks_r1)
  (.seq (.reg K2_reedsolomonWorks_r2)
  (.seq (.reg K2_reedsolomonWorks_r3)
  (.seq (.reg K2_reedsolomonWorks_r4)
  .ret))))), [.tmp 0]⟩
theorem K2_reedsolomonWorks_s : slimF Try.prog 39 = some K2_reedsolomonWorks_c := by kernel_rfl
abbrev K2_reedsolomonWorks_f : Nat := 39
/-- printworks/printworkskeep2.screenWorks -/
def K2_screenWorks_r0 : List SO := [⟨(some 0), .assign (.const (.bool false)), none⟩]
def K2_screenWorks_r1 : List SO := [⟨(some 13), .build 84 #[(0, (.const (.int .i64 2))), (1, (.const (.int .i64 1)))], none⟩,
  ⟨(some 1), .alloc 84, none⟩,
  ⟨none, .store 84 (.tmp (1 : Nat)) (.tmp (13 : Nat)), none⟩]
def K2_screenWorks_r2 : List SO := [⟨(some 15), .load 84 (.tmp (1 : Nat)), none⟩,
  ⟨(some 16), .call ⟨(.value (.func (45 : Nat))), #[(.tmp (15 : Nat)), (.const (.int .i64 1)), (.const (.int .i64 1))], #[84, 3, 3]⟩, none⟩,
  ⟨(some 14), .move (.tmp (16 : Nat)), none⟩,
  ⟨(some 17), .extract (.tmp (14 : Nat)) 0, none⟩,
  ⟨(some 18), .extract (.tmp (14 : Nat)) 1, none⟩,
  ⟨(some 2), .assign (.tmp (17 : Nat)), none⟩,
  ⟨(some 3), .assign (.tmp (18 : Nat)), none⟩]
def K2_screenWorks_r3 : List SO := [⟨(some 20), .load 84 (.tmp (1 : Nat)), none⟩,
  ⟨(some 21), .call ⟨(.value (.func (83 : Nat))), #[(.tmp (20 : Nat))], #[84]⟩, none⟩,
  ⟨(some 19), .move (.tmp (21 : Nat)), none⟩,
  ⟨(some 22), .extract (.tmp (19 : Nat)) 0, none⟩,
  ⟨(some 23), .extract (.tmp (19 : Nat)) 1, none⟩,
  ⟨(some 4), .assign (.tmp (22 : Nat)), none⟩,
  ⟨(some 5), .assign (.tmp (23 : Nat)), none⟩]
def K2_screenWorks_r4 : List SO := [⟨(some 25), .load 84 (.tmp (1 : Nat)), none⟩,
  ⟨(some 26), .call ⟨(.value (.func (84 : Nat))), #[(.tmp (25 : Nat)), (.const (.int .i64 128))], #[84, 3]⟩, none⟩,
  ⟨(some 24), .move (.tmp (26 : Nat)), none⟩,
  ⟨(some 27), .extract (.tmp (24 : Nat)) 0, none⟩,
  ⟨(some 28), .extract (.tmp (24 : Nat)) 1, none⟩,
  ⟨(some 6), .assign (.tmp (27 : Nat)), none⟩,
  ⟨(some 7), .assign (.tmp (28 : Nat)), none⟩]
def K2_screenWorks_r5 : List SO := [⟨(some 30), .load 84 (.tmp (1 : Nat)), none⟩,
  ⟨(some 31), .build 84 #[(0, (.const (.int .i64 1))), (1, (.const (.int .i64 1)))], none⟩,
  ⟨(some 32), .call ⟨(.value (.func (46 : Nat))), #[(.tmp (30 : Nat)), (.tmp (31 : Nat))], #[84, 84]⟩, none⟩,
  ⟨(some 29), .move (.tmp (32 : Nat)), none⟩,
  ⟨(some 33), .extract (.tmp (29 : Nat)) 0, none⟩,
  ⟨(some 34), .extract (.tmp (29 : Nat)) 1, none⟩,
  ⟨(some 8), .alloc 91, none⟩,
  ⟨none, .store 91 (.tmp (8 : Nat)) (.tmp (33 : Nat)), none⟩,
  ⟨(some 9), .assign (.tmp (34 : Nat)), none⟩]
def K2_screenWorks_r6 : List SO := [⟨(some 36), .load 84 (.tmp (1 : Nat)), none⟩,
  ⟨(some 37), .build 84 #[(0, (.const (.int .i64 1))), (1, (.const (.int .i64 1)))], none⟩,
  ⟨(some 38), .call ⟨(.value (.func (85 : Nat))), #[(.tmp (36 : Nat)), (.tmp (37 : Nat))], #[84, 84]⟩, none⟩,
  ⟨(some 35), .move (.tmp (38 : Nat)), none⟩,
  ⟨(some 39), .extract (.tmp (35 : Nat)) 0, none⟩,
  ⟨(some 40), .extract (.tmp (35 : Nat)) 1, none⟩,
  ⟨(some 41), .extract (.tmp (35 : Nat)) 2, none⟩,
  ⟨(some 10), .assign (.tmp (39 : Nat)), none⟩,
  ⟨(some 11), .assign (.tmp (40 : Nat)), none⟩,
  ⟨(some 12), .assign (.tmp (41 : Nat)), none⟩]
def K2_screenWorks_r7 : List SO := [⟨(some 42), .move (.tmp (3 : Nat)), none⟩,
  ⟨(some 43), .binOp .eql 26 (.tmp (42 : Nat)) (.const (.int .i64 0)) 26, none⟩,
  ⟨(some 44), .move (.tmp (43 : Nat)), none⟩,
  ⟨(some 45), .move (.tmp (2 : Nat)), (some (44, true))⟩,
  ⟨(some 46), .binOp .eql 3 (.tmp (45 : Nat)) (.const (.int .i64 4)) 3, (some (44, true))⟩,
  ⟨(some 47), .pick (.tmp (44 : Nat)) (.tmp (46 : Nat)) (.const (.bool false)), none⟩,
  ⟨(some 48), .move (.tmp (47 : Nat)), none⟩,
  ⟨(some 49), .move (.tmp (5 : Nat)), (some (48, true))⟩,
  ⟨(some 50), .binOp .eql 26 (.tmp (49 : Nat)) (.const (.int .i64 0)) 26, (some (48, true))⟩,
  ⟨(some 51), .pick (.tmp (48 : Nat)) (.tmp (50 : Nat)) (.const (.bool false)), none⟩,
  ⟨(some 52), .move (.tmp (51 : Nat)), none⟩,
  ⟨(some 53), .move (.tmp (4 : Nat)), (some (52, true))⟩,
  ⟨(some 54), .buildSlice 22 5 #[(0, (.const (.int .i64 0))), (1, (.const (.int .i64 1))), (2, (.const (.int .i64 2))), (3, (.const (.int .i64 3))), (4, (.const (.int .i64 4)))], (some (52, true))⟩,
  ⟨(some 55), .call ⟨(.value (.func (23 : Nat))), #[(.tmp (53 : Nat)), (.tmp (54 : Nat))], #[22, 22]⟩, (some (52, true))⟩,
  ⟨(some 56), .pick (.tmp (52 : Nat)) (.tmp (55 : Nat)) (.const (.bool false)), none⟩,
  ⟨(some 57), .move (.tmp (56 : Nat)), none⟩,
  ⟨(some 58), .move (.tmp (7 : Nat)), (some (57, true))⟩,
  ⟨(some 59), .binOp .eql 26 (.tmp (58 : Nat)) (.const (.int .i64 0)) 26, (some (57, true))⟩,
  ⟨(some 60), .pick (.tmp (57 : Nat)) (.tmp (59 : Nat)) (.const (.bool false)), none⟩,
  ⟨(some 61), .move (.tmp (60 : Nat)), none⟩,
  ⟨(some 62), .move (.tmp (6 : Nat)), (some (61, true))⟩,
  ⟨(some 63), .binOp .eql 3 (.tmp (62 : Nat)) (.const (.int .i64 3)) 3, (some (61, true))⟩,
  ⟨(some 64), .pick (.tmp (61 : Nat)) (.tmp (63 : Nat)) (.const (.bool false)), none⟩,
  ⟨(some 65), .move (.tmp (64 : Nat)), none⟩,
  ⟨(some 66), .move (.tmp (9 : Nat)), (some (65, true))⟩,
  ⟨(some 67), .binOp .eql 26 (.tmp (66 : Nat)) (.const (.int .i64 0)) 26, (some (65, true))⟩,
  ⟨(some 68), .pick (.tmp (65 : Nat)) (.tmp (67 : Nat)) (.const (.bool false)), none⟩,
  ⟨(some 69), .move (.tmp (68 : Nat)), none⟩,
  ⟨(some 70), .load 91 (.tmp (8 : Nat)), (some (69, true))⟩,
  ⟨(some 71), .build 91 #[(0, (.const (.int .i64 10))), (1, (.const (.int .i64 7))), (2, (.const (.int .i64 1)))], (some (69, true))⟩,
  ⟨(some 72), .binOp .eql 91 (.tmp (70 : Nat)) (.tmp (71 : Nat)) 91, (some (69, true))⟩,
  ⟨(some 73), .pick (.tmp (69 : Nat)) (.tmp (72 : Nat)) (.const (.bool false)), none⟩,
  ⟨(some 74), .move (.tmp (73 : Nat)), none⟩,
  ⟨(some 75), .move (.tmp (12 : Nat)), (some (74, true))⟩,
  ⟨(some 76), .binOp .eql 26 (.tmp (75 : Nat)) (.const (.int .i64 0)) 26, (some (74, true))⟩,
  ⟨(some 77), .pick (.tmp (74 : Nat)) (.tmp (76 : Nat)) (.const (.bool false)), none⟩,
  ⟨(some 78), .move (.tmp (77 : Nat)), none⟩,
  ⟨(some 79), .move (.tmp (10 : Nat)), (some (78, true))⟩,
  ⟨(some 80), .binOp .eql 3 (.tmp (79 : Nat)) (.const (.int .i64 1)) 3, (some (78, true))⟩,
  ⟨(some 81), .pick (.tmp (78 : Nat)) (.tmp (80 : Nat)) (.const (.bool false)), none⟩,
  ⟨(some 82), .move (.tmp (81 : Nat)), none⟩,
  ⟨(some 83), .move (.tmp (11 : Nat)), (some (82, true))⟩,
  ⟨(some 84), .binOp .eql 3 (.tmp (83 : Nat)) (.const (.int .i64 10)) 3, (some (82, true))⟩,
  ⟨(some 85), .pick (.tmp (82 : Nat)) (.tmp (84 : Nat)) (.const (.bool false)), none⟩,
  ⟨(some 0), .assign (.tmp (85 : Nat)), none⟩]
def K2_screenWorks_c : SF := ⟨86, (.seq (.reg K2_screenWorks_r0)
  (.seq (.reg K2_screenWorks_r1)
  (.seq (.reg K2_screenWorks_r2)
  (.seq (.reg K2_screenWorks_r3)
  (.seq (.reg K2_screenWorks_r4)
  (.seq (.reg K2_screenWorks_r5)
  (.seq (.reg K2_screenWorks_r6)
  (.seq (.reg K2_screenWorks_r7)
  .ret)))))))), [.tmp 0]⟩
theorem K2_screenWorks_s : slimF Try.prog 43 = some K2_screenWorks_c := by kernel_rfl
abbrev K2_screenWorks_f : Nat := 43
/-- printworks/printworkskeep2.square -/
def K2_square_r0 : List SO := [⟨(some 0), .alloc 24, none⟩]
def K2_square_r1 : List SO := [⟨(some 1), .buildSlice 22 4 #[(0, (.const (.int .i64 0))), (1, (.const (.int .i64 10))), (2, (.const (.int .i64 20))), (3, (.const (.int .i64 60)))], none⟩,
  ⟨(some 2), .build 24 #[(0, (.const (.int .i64 2))), (1, (.const (.int .i64 1))), (2, (.const (.int .i64 2))), (3, (.tmp (1 : Nat)))], none⟩,
  ⟨none, .store 24 (.tmp (0 : Nat)) (.tmp (2 : Nat)), none⟩]
def K2_square_c : SF := ⟨3, (.seq (.reg K2_square_r0)
  (.seq (.reg K2_square_r1)
  .ret)), [.cell 0 24]⟩
theorem K2_square_s : slimF Try.prog 48 = some K2_square_c := by kernel_rfl
abbrev K2_square_f : Nat := 48
/-- printworks/printworkskeep2.one -/
def K2_one_r0 : List SO := [⟨(some 0), .alloc 45, none⟩]
def K2_one_r1 : List SO := [⟨(some 1), .buildSlice 42 1 #[(0, (.const (.string ⟨([98, 108, 97, 99, 107] : List UInt8).toArray⟩)))], none⟩,
  ⟨(some 2), .call ⟨(.value (.func (94 : Nat))), #[], #[]⟩, none⟩,
  ⟨(some 3), .buildSlice 43 1 #[(0, (.tmp (2 : Nat)))], none⟩,
  ⟨(some 4), .buildSlice 22 6 #[(0, (.const (.int .i64 10000))), (1, (.const (.int .i64 0))), (2, (.const (.int .i64 0))), (3, (.const (.int .i64 2000))), (4, (.const (.int .i64 100))), (5, (.const (.int .i64 (-100))))], none⟩,
  ⟨(some 5), .build 24 #[(0, (.const (.int .i64 1))), (1, (.const (.int .i64 3))), (2, (.const (.int .i64 2))), (3, (.tmp (4 : Nat)))], none⟩,
  ⟨(some 6), .build 45 #[(0, (.const (.string ⟨([112, 49] : List UInt8).toArray⟩))), (1, (.tmp (1 : Nat))), (2, (.tmp (3 : Nat))), (3, (.tmp (5 : Nat)))], none⟩,
  ⟨none, .store 45 (.tmp (0 : Nat)) (.tmp (6 : Nat)), none⟩]
def K2_one_c : SF := ⟨7, (.seq (.reg K2_one_r0)
  (.seq (.reg K2_one_r1)
  .ret)), [.cell 0 45]⟩
theorem K2_one_s : slimF Try.prog 58 = some K2_one_c := by kernel_rfl
abbrev K2_one_f : Nat := 58
/-- printworks/printworkskeep2.line -/
def K2_line_r0 : List SO := [⟨(some 0), .alloc 51, none⟩]
def K2_line_r1 : List SO := [⟨(some 1), .build 160 #[], none⟩,
  ⟨(some 2), .build 160 #[(0, (.const (.int .i64 65280))), (1, (.const (.int .i64 65280)))], none⟩,
  ⟨(some 3), .buildSlice 49 2 #[(0, (.tmp (1 : Nat))), (1, (.tmp (2 : Nat)))], none⟩,
  ⟨(some 4), .build 51 #[(0, (.tmp (3 : Nat)))], none⟩,
  ⟨none, .store 51 (.tmp (0 : Nat)) (.tmp (4 : Nat)), none⟩]
def K2_line_c : SF := ⟨5, (.seq (.reg K2_line_r0)
  (.seq (.reg K2_line_r1)
  .ret)), [.cell 0 51]⟩
theorem K2_line_s : slimF Try.prog 94 = some K2_line_c := by kernel_rfl
abbrev K2_line_f : Nat := 94

def tbl_K2 : List (Nat × SF) := [(15, K2_gridWorks_c), (26, K2_profileWorks_c), (30, K2_rangecoderWorks_c), (39, K2_reedsolomonWorks_c), (43, K2_screenWorks_c), (48, K2_square_c), (58, K2_one_c), (94, K2_line_c)]
theorem tbl_K2_ok : okT Try.prog tbl_K2 := ⟨K2_gridWorks_s, K2_profileWorks_s, K2_rangecoderWorks_s, K2_reedsolomonWorks_s, K2_screenWorks_s, K2_square_s, K2_one_s, K2_line_s, trivial⟩

end Go.Proofs.Ythnfbdihihhoiaa
namespace Go.Proofs.Ythnfbdihihhoiaa
open Go Go.Lite
set_option linter.unusedVariables false

/-- printworks/printworkskeep2.ReedsolomonSums -/
def K2_ReedsolomonSums_r0 : List SO := [⟨(some 10), .assign (.const (.bool false)), none⟩]
def K2_ReedsolomonSums_r1 : List SO := [⟨(some 22), .call ⟨(.value (.func (39 : Nat))), #[], #[]⟩, none⟩,
  ⟨(some 23), .unOp .not 4 (.tmp (22 : Nat)), none⟩]
def K2_ReedsolomonSums_r2 : List SO := [⟨(some 10), .assign (.const (.bool false)), none⟩]
def K2_ReedsolomonSums_r3 : List SO := [⟨(some 24), .move (.tmp (0 : Nat)), none⟩,
  ⟨(some 25), .call ⟨(.builtin .len), #[(.tmp (24 : Nat))], #[57]⟩, none⟩,
  ⟨(some 26), .move (.tmp (1 : Nat)), none⟩,
  ⟨(some 27), .call ⟨(.builtin .len), #[(.tmp (26 : Nat))], #[57]⟩, none⟩,
  ⟨(some 28), .call ⟨(.builtin .min), #[(.tmp (25 : Nat)), (.tmp (27 : Nat)), (.const (.int .i64 100))], #[3, 3, 3]⟩, none⟩,
  ⟨(some 11), .assign (.tmp (28 : Nat)), none⟩]
def K2_ReedsolomonSums_r4 : List SO := [⟨(some 29), .move (.tmp (11 : Nat)), none⟩,
  ⟨(some 30), .binOp .eql 3 (.tmp (29 : Nat)) (.const (.int .i64 0)) 3, none⟩]
def K2_ReedsolomonSums_r5 : List SO := [⟨(some 10), .assign (.const (.bool true)), none⟩]
def K2_ReedsolomonSums_r6 : List SO := [⟨(some 31), .move (.tmp (2 : Nat)), none⟩,
  ⟨(some 32), .call ⟨(.value (.func (17 : Nat))), #[(.tmp (31 : Nat)), (.const (.int .i64 64))], #[3, 3]⟩, none⟩,
  ⟨(some 33), .binOp .add 3 (.const (.int .i64 1)) (.tmp (32 : Nat)) 3, none⟩,
  ⟨(some 2), .assign (.tmp (33 : Nat)), none⟩]
def K2_ReedsolomonSums_r7 : List SO := [⟨(some 35), .move (.tmp (0 : Nat)), none⟩,
  ⟨(some 36), .move (.tmp (11 : Nat)), none⟩,
  ⟨(some 37), .slice 57 (.tmp (35 : Nat)) none (some (.tmp (36 : Nat))) none, none⟩,
  ⟨(some 38), .move (.tmp (2 : Nat)), none⟩,
  ⟨(some 39), .call ⟨(.value (.func (40 : Nat))), #[(.tmp (37 : Nat)), (.tmp (38 : Nat))], #[57, 3]⟩, none⟩,
  ⟨(some 34), .move (.tmp (39 : Nat)), none⟩,
  ⟨(some 40), .extract (.tmp (34 : Nat)) 0, none⟩,
  ⟨(some 41), .extract (.tmp (34 : Nat)) 1, none⟩,
  ⟨(some 12), .assign (.tmp (40 : Nat)), none⟩,
  ⟨(some 13), .assign (.tmp (41 : Nat)), none⟩]
def K2_ReedsolomonSums_r8 : List SO := [⟨(some 43), .move (.tmp (1 : Nat)), none⟩,
  ⟨(some 44), .move (.tmp (11 : Nat)), none⟩,
  ⟨(some 45), .slice 57 (.tmp (43 : Nat)) none (some (.tmp (44 : Nat))) none, none⟩,
  ⟨(some 46), .move (.tmp (2 : Nat)), none⟩,
  ⟨(some 47), .call ⟨(.value (.func (40 : Nat))), #[(.tmp (45 : Nat)), (.tmp (46 : Nat))], #[57, 3]⟩, none⟩,
  ⟨(some 42), .move (.tmp (47 : Nat)), none⟩,
  ⟨(some 48), .extract (.tmp (42 : Nat)) 0, none⟩,
  ⟨(some 49), .extract (.tmp (42 : Nat)) 1, none⟩,
  ⟨(some 14), .assign (.tmp (48 : Nat)), none⟩,
  ⟨(some 15), .assign (.tmp (49 : Nat)), none⟩]
def K2_ReedsolomonSums_r9 : List SO := [⟨(some 50), .move (.tmp (13 : Nat)), none⟩,
  ⟨(some 51), .binOp .neq 26 (.tmp (50 : Nat)) (.const (.int .i64 0)) 26, none⟩,
  ⟨(some 52), .move (.tmp (51 : Nat)), none⟩,
  ⟨(some 53), .move (.tmp (15 : Nat)), (some (52, false))⟩,
  ⟨(some 54), .binOp .neq 26 (.tmp (53 : Nat)) (.const (.int .i64 0)) 26, (some (52, false))⟩,
  ⟨(some 55), .pick (.tmp (52 : Nat)) (.const (.bool true)) (.tmp (54 : Nat)), none⟩,
  ⟨(some 56), .move (.tmp (55 : Nat)), none⟩,
  ⟨(some 57), .move (.tmp (12 : Nat)), (some (56, false))⟩,
  ⟨(some 58), .call ⟨(.builtin .len), #[(.tmp (57 : Nat))], #[57]⟩, (some (56, false))⟩,
  ⟨(some 59), .move (.tmp (11 : Nat)), (some (56, false))⟩,
  ⟨(some 60), .move (.tmp (2 : Nat)), (some (56, false))⟩,
  ⟨(some 61), .binOp .add 3 (.tmp (59 : Nat)) (.tmp (60 : Nat)) 3, (some (56, false))⟩,
  ⟨(some 62), .binOp .neq 3 (.tmp (58 : Nat)) (.tmp (61 : Nat)) 3, (some (56, false))⟩,
  ⟨(some 63), .pick (.tmp (56 : Nat)) (.const (.bool true)) (.tmp (62 : Nat)), none⟩,
  ⟨(some 64), .move (.tmp (63 : Nat)), none⟩,
  ⟨(some 65), .move (.tmp (14 : Nat)), (some (64, false))⟩,
  ⟨(some 66), .call ⟨(.builtin .len), #[(.tmp (65 : Nat))], #[57]⟩, (some (64, false))⟩,
  ⟨(some 67), .move (.tmp (11 : Nat)), (some (64, false))⟩,
  ⟨(some 68), .move (.tmp (2 : Nat)), (some (64, false))⟩,
  ⟨(some 69), .binOp .add 3 (.tmp (67 : Nat)) (.tmp (68 : Nat)) 3, (some (64, false))⟩,
  ⟨(some 70), .binOp .neq 3 (.tmp (66 : Nat)) (.tmp (69 : Nat)) 3, (some (64, false))⟩,
  ⟨(some 71), .pick (.tmp (64 : Nat)) (.const (.bool true)) (.tmp (70 : Nat)), none⟩]
def K2_ReedsolomonSums_r10 : List SO := [⟨(some 10), .assign (.const (.bool false)), none⟩]
def K2_ReedsolomonSums_r11 : List SO := [⟨(some 72), .move (.tmp (12 : Nat)), none⟩,
  ⟨(some 73), .call ⟨(.builtin .len), #[(.tmp (72 : Nat))], #[57]⟩, none⟩,
  ⟨(some 74), .makeSlice 57 (.tmp (73 : Nat)) (.tmp (73 : Nat)), none⟩,
  ⟨(some 16), .assign (.tmp (74 : Nat)), none⟩]
def K2_ReedsolomonSums_r12 : List SO := [⟨(some 75), .move (.tmp (12 : Nat)), none⟩,
  ⟨(some 76), .call ⟨(.builtin .len), #[(.tmp (75 : Nat))], #[57]⟩, none⟩,
  ⟨(some 77), .move (.const (.int .i64 0)), none⟩]
def K2_ReedsolomonSums_r13 : List SO := [⟨(some 78), .binOp .lss 3 (.tmp (77 : Nat)) (.tmp (76 : Nat)) 3, none⟩]
def K2_ReedsolomonSums_r14 : List SO := [⟨(some 79), .move (.tmp (77 : Nat)), none⟩,
  ⟨(some 17), .assign (.tmp (79 : Nat)), none⟩]
def K2_ReedsolomonSums_r15 : List SO := [⟨(some 80), .move (.tmp (16 : Nat)), none⟩,
  ⟨(some 81), .move (.tmp (17 : Nat)), none⟩,
  ⟨(some 82), .move (.tmp (12 : Nat)), none⟩,
  ⟨(some 83), .move (.tmp (17 : Nat)), none⟩,
  ⟨(some 84), .indexAddr 57 (.tmp (82 : Nat)) (.tmp (83 : Nat)), none⟩,
  ⟨(some 85), .load 5 (.tmp (84 : Nat)), none⟩,
  ⟨(some 86), .move (.tmp (14 : Nat)), none⟩,
  ⟨(some 87), .move (.tmp (17 : Nat)), none⟩,
  ⟨(some 88), .indexAddr 57 (.tmp (86 : Nat)) (.tmp (87 : Nat)), none⟩,
  ⟨(some 89), .load 5 (.tmp (88 : Nat)), none⟩,
  ⟨(some 90), .binOp .xor 5 (.tmp (85 : Nat)) (.tmp (89 : Nat)) 5, none⟩,
  ⟨(some 91), .indexAddr 57 (.tmp (80 : Nat)) (.tmp (81 : Nat)), none⟩,
  ⟨none, .store 5 (.tmp (91 : Nat)) (.tmp (90 : Nat)), none⟩]
def K2_ReedsolomonSums_a15 : List (List Nat) := [[], [], [], [], [2, 3], [4], [], [], [6, 7], [8], [5, 9], [0, 1, 0, 1, 2, 3, 4, 5, 6, 7, 8, 9, 10], [11, 10, 0, 1, 2, 3, 4, 5, 6, 7, 8, 9, 10]]
def K2_ReedsolomonSums_r16 : List SO := [⟨(some 92), .binOp .add 3 (.tmp (77 : Nat)) (.const (.int .i64 1)) 3, none⟩,
  ⟨(some 77), .move (.tmp (92 : Nat)), none⟩]
def K2_ReedsolomonSums_r17 : List SO := [⟨(some 94), .move (.tmp (16 : Nat)), none⟩,
  ⟨(some 95), .move (.tmp (2 : Nat)), none⟩,
  ⟨(some 96), .call ⟨(.value (.func (41 : Nat))), #[(.tmp (94 : Nat)), (.tmp (95 : Nat))], #[57, 3]⟩, none⟩,
  ⟨(some 93), .move (.tmp (96 : Nat)), none⟩,
  ⟨(some 97), .extract (.tmp (93 : Nat)) 0, none⟩,
  ⟨(some 98), .extract (.tmp (93 : Nat)) 1, none⟩,
  ⟨(some 18), .assign (.tmp (97 : Nat)), none⟩,
  ⟨(some 19), .assign (.tmp (98 : Nat)), none⟩]
def K2_ReedsolomonSums_r18 : List SO := [⟨(some 99), .move (.tmp (16 : Nat)), none⟩,
  ⟨(some 100), .move (.tmp (3 : Nat)), none⟩,
  ⟨(some 101), .move (.tmp (16 : Nat)), none⟩,
  ⟨(some 102), .call ⟨(.builtin .len), #[(.tmp (101 : Nat))], #[57]⟩, none⟩,
  ⟨(some 103), .call ⟨(.value (.func (17 : Nat))), #[(.tmp (100 : Nat)), (.tmp (102 : Nat))], #[3, 3]⟩, none⟩,
  ⟨(some 104), .indexAddr 57 (.tmp (99 : Nat)) (.tmp (103 : Nat)), none⟩,
  ⟨(some 105), .load 5 (.tmp (104 : Nat)), none⟩,
  ⟨(some 106), .move (.tmp (4 : Nat)), none⟩,
  ⟨(some 107), .call ⟨(.value (.func (17 : Nat))), #[(.tmp (106 : Nat)), (.const (.int .i64 255))], #[3, 3]⟩, none⟩,
  ⟨(some 108), .binOp .add 3 (.const (.int .i64 1)) (.tmp (107 : Nat)) 3, none⟩,
  ⟨(some 109), .convert 3 5 (.tmp (108 : Nat)), none⟩,
  ⟨(some 110), .binOp .xor 5 (.tmp (105 : Nat)) (.tmp (109 : Nat)) 5, none⟩,
  ⟨(some 111), .indexAddr 57 (.tmp (99 : Nat)) (.tmp (103 : Nat)), none⟩,
  ⟨none, .store 5 (.tmp (111 : Nat)) (.tmp (110 : Nat)), none⟩]
def K2_ReedsolomonSums_a18 : List (List Nat) := [[], [], [], [2], [1, 3], [0, 4], [5], [], [7, 4], [8], [9], [6, 10], [0, 4, 0, 1, 2, 3, 4, 5, 6, 7, 8, 9, 10, 11], [12, 11, 8, 0, 1, 2, 3, 4, 5, 6, 7, 8, 9, 10, 11]]
def K2_ReedsolomonSums_r19 : List SO := [⟨(some 113), .move (.tmp (16 : Nat)), none⟩,
  ⟨(some 114), .move (.tmp (2 : Nat)), none⟩,
  ⟨(some 115), .call ⟨(.value (.func (41 : Nat))), #[(.tmp (113 : Nat)), (.tmp (114 : Nat))], #[57, 3]⟩, none⟩,
  ⟨(some 112), .move (.tmp (115 : Nat)), none⟩,
  ⟨(some 116), .extract (.tmp (112 : Nat)) 0, none⟩,
  ⟨(some 117), .extract (.tmp (112 : Nat)) 1, none⟩,
  ⟨(some 20), .assign (.tmp (116 : Nat)), none⟩,
  ⟨(some 21), .assign (.tmp (117 : Nat)), none⟩]
def K2_ReedsolomonSums_r20 : List SO := [⟨(some 118), .move (.tmp (19 : Nat)), none⟩,
  ⟨(some 119), .binOp .eql 26 (.tmp (118 : Nat)) (.const (.int .i64 0)) 26, none⟩,
  ⟨(some 120), .move (.tmp (119 : Nat)), none⟩,
  ⟨(some 121), .move (.tmp (18 : Nat)), (some (120, true))⟩,
  ⟨(some 122), .pick (.tmp (120 : Nat)) (.tmp (121 : Nat)) (.const (.bool false)), none⟩,
  ⟨(some 123), .move (.tmp (122 : Nat)), none⟩,
  ⟨(some 124), .move (.tmp (21 : Nat)), (some (123, true))⟩,
  ⟨(some 125), .binOp .eql 26 (.tmp (124 : Nat)) (.const (.int .i64 0)) 26, (some (123, true))⟩,
  ⟨(some 126), .pick (.tmp (123 : Nat)) (.tmp (125 : Nat)) (.const (.bool false)), none⟩,
  ⟨(some 127), .move (.tmp (126 : Nat)), none⟩,
  ⟨(some 128), .move (.tmp (20 : Nat)), (some (127, true))⟩,
  ⟨(some 129), .unOp .not 4 (.tmp (128 : Nat)), (some (127, true))⟩,
  ⟨(some 130), .pick (.tmp (127 : Nat)) (.tmp (129 : Nat)) (.const (.bool false)), none⟩,
  ⟨(some 10), .assign (.tmp (130 : Nat)), none⟩]
def K2_ReedsolomonSums_c : SF := ⟨131, (.seq (.reg K2_ReedsolomonSums_r0)
  (.seq (.seq (.reg K2_ReedsolomonSums_r1)
  (.cond (.tmp (23 : Nat)) (.seq (.reg K2_ReedsolomonSums_r2)
  .ret) .skip))
  (.seq (.reg K2_ReedsolomonSums_r3)
  (.seq (.seq (.reg K2_ReedsolomonSums_r4)
  (.cond (.tmp (30 : Nat)) (.seq (.reg K2_ReedsolomonSums_r5)
  .ret) .skip))
  (.seq (.reg K2_ReedsolomonSums_r6)
  (.seq (.reg K2_ReedsolomonSums_r7)
  (.seq (.reg K2_ReedsolomonSums_r8)
  (.seq (.seq (.reg K2_ReedsolomonSums_r9)
  (.cond (.tmp (71 : Nat)) (.seq (.reg K2_ReedsolomonSums_r10)
  .ret) .skip))
  (.seq (.reg K2_ReedsolomonSums_r11)
  (.seq (.seq (.reg K2_ReedsolomonSums_r12)
  (.block 0 (.loop (.seq (.reg K2_ReedsolomonSums_r13)
  (.seq (.cond (.tmp (78 : Nat)) .skip (.exit 0))
  (.seq (.block 1 (.seq (.reg K2_ReedsolomonSums_r14)
  (.regd K2_ReedsolomonSums_r15 K2_ReedsolomonSums_a15)))
  (.reg K2_ReedsolomonSums_r16)))))))
  (.seq (.reg K2_ReedsolomonSums_r17)
  (.seq (.regd K2_ReedsolomonSums_r18 K2_ReedsolomonSums_a18)
  (.seq (.reg K2_ReedsolomonSums_r19)
  (.seq (.reg K2_ReedsolomonSums_r20)
  .ret)))))))))))))), [.tmp 10]⟩
theorem K2_ReedsolomonSums_s : slimF Try.prog 11 = some K2_ReedsolomonSums_c := by kernel_rfl
abbrev K2_ReedsolomonSums_f : Nat := 11

def tbl_ReedsolomonSums : List (Nat × SF) := [(11, K2_ReedsolomonSums_c)]
theorem tbl_ReedsolomonSums_ok : okT Try.prog tbl_ReedsolomonSums := ⟨K2_ReedsolomonSums_s, trivial⟩

end Go.Proofs.Ythnfbdihihhoiaa
