/- Printed by program: the functions' code in few words; the kernel checks it against the translation. -/
import Derived.Test.YthnfbdihihhoiaaRows
import Derived.Test.YthnfbdihihhoiaaLiteTP
namespace Go.Proofs.Ythnfbdihihhoiaa
open Go Go.Lite
set_option linter.unusedVariables false

/-- Int -/
abbrev Ei : Nat := 0
/-- Int × Int -/
abbrev E2i : Nat := 1
/-- List (Int × Int) -/
abbrev EL2iJ : Nat := 2
/-- Int -/
abbrev Ey : Nat := 3
/-- Bool -/
abbrev Eo : Nat := 4
/-- ByteArray -/
abbrev Es : Nat := 5
/-- ByteArray × List (Int) -/
abbrev EsLyJ : Nat := 6
/-- Int × Int -/
abbrev E2w : Nat := 7
@[reducible] def A (e : Nat) : Type := match e with
  | 0 => Int
  | 1 => Int × Int
  | 2 => List (Int × Int)
  | 3 => Int
  | 4 => Bool
  | 5 => ByteArray
  | 6 => ByteArray × List (Int)
  | 7 => Int × Int
  | _ => Unit
def eSz (e : Nat) : Nat := match e with
  | 0 => 1
  | 1 => 2
  | 2 => 1
  | 3 => 1
  | 4 => 1
  | 5 => 1
  | 6 => 2
  | 7 => 2
  | _ => 1
def eD (e : Nat) : A e := match e with
  | 0 => (0 : Int)
  | 1 => ((0 : Int), (0 : Int))
  | 2 => ([] : List (Int × Int))
  | 3 => (0 : Int)
  | 4 => false
  | 5 => (⟨#[]⟩ : ByteArray)
  | 6 => ((⟨#[]⟩ : ByteArray), ([] : List (Int)))
  | 7 => ((0 : Int), (0 : Int))
  | _ + 8 => ()
def encL0 (x : Int) : List LV := [.int .i64 (x)]
def enc0 (x : Int) : List (TV A) := [.int .i64 (x)]
def dec0 (cs : List (TV A)) : Option (Int) := match cs with
  | [.int .i64 x0] => some x0
  | _ => none
def encL1 (x : Int × Int) : List LV := [.int .i64 (x.1), .int .i64 (x.2)]
def enc1 (x : Int × Int) : List (TV A) := [.int .i64 (x.1), .int .i64 (x.2)]
def dec1 (cs : List (TV A)) : Option (Int × Int) := match cs with
  | [.int .i64 x0, .int .i64 x1] => some (x0, x1)
  | _ => none
def encL2 (x : List (Int × Int)) : List LV := [.ps 2 (List.length (x)) (List.flatMap encL1 (x))]
def enc2 (x : List (Int × Int)) : List (TV A) := [.lst 1 (x)]
def dec2 (cs : List (TV A)) : Option (List (Int × Int)) := match cs with
  | [.lst 1 x0] => some x0
  | _ => none
def encL3 (x : Int) : List LV := [.int .u8 (x)]
def enc3 (x : Int) : List (TV A) := [.int .u8 (x)]
def dec3 (cs : List (TV A)) : Option (Int) := match cs with
  | [.int .u8 x0] => some x0
  | _ => none
def encL4 (x : Bool) : List LV := [.bool (x)]
def enc4 (x : Bool) : List (TV A) := [.bool (x)]
def dec4 (cs : List (TV A)) : Option (Bool) := match cs with
  | [.bool x0] => some x0
  | _ => none
def encL5 (x : ByteArray) : List LV := [.str (x)]
def enc5 (x : ByteArray) : List (TV A) := [.str (x)]
def dec5 (cs : List (TV A)) : Option (ByteArray) := match cs with
  | [.str x0] => some x0
  | _ => none
def encL6 (x : ByteArray × List (Int)) : List LV := [.str (x.1), .ps 1 (List.length (x.2)) (List.flatMap encL3 (x.2))]
def enc6 (x : ByteArray × List (Int)) : List (TV A) := [.str (x.1), .lst 3 (x.2)]
def dec6 (cs : List (TV A)) : Option (ByteArray × List (Int)) := match cs with
  | [.str x0, .lst 3 x1] => some (x0, x1)
  | _ => none
def encL7 (x : Int × Int) : List LV := [.int .u32 (x.1), .int .u32 (x.2)]
def enc7 (x : Int × Int) : List (TV A) := [.int .u32 (x.1), .int .u32 (x.2)]
def dec7 (cs : List (TV A)) : Option (Int × Int) := match cs with
  | [.int .u32 x0, .int .u32 x1] => some (x0, x1)
  | _ => none
def eEncL (e : Nat) (a : A e) : List LV := match e, a with
  | 0, a => encL0 a
  | 1, a => encL1 a
  | 2, a => encL2 a
  | 3, a => encL3 a
  | 4, a => encL4 a
  | 5, a => encL5 a
  | 6, a => encL6 a
  | 7, a => encL7 a
  | _ + 8, _ => [.nilp]
def eEnc (e : Nat) (a : A e) : List (TV A) := match e, a with
  | 0, a => enc0 a
  | 1, a => enc1 a
  | 2, a => enc2 a
  | 3, a => enc3 a
  | 4, a => enc4 a
  | 5, a => enc5 a
  | 6, a => enc6 a
  | 7, a => enc7 a
  | _ + 8, _ => [.nilp]
def eDec (e : Nat) (cs : List (TV A)) : Option (A e) := match e with
  | 0 => dec0 cs
  | 1 => dec1 cs
  | 2 => dec2 cs
  | 3 => dec3 cs
  | 4 => dec4 cs
  | 5 => dec5 cs
  | 6 => dec6 cs
  | 7 => dec7 cs
  | _ + 8 => none
def eEl (t : Nat) : Option Nat := match t with
  | 22 => some 0
  | 43 => some 2
  | 57 => some 3
  | 79 => some 4
  | 42 => some 5
  | 136 => some 3
  | 49 => some 1
  | 164 => some 6
  | 118 => some 7
  | _ => none
def fl (e : Nat) : Bool := match e with
  | 0 => true
  | 1 => true
  | 2 => false
  | 3 => true
  | 4 => true
  | 5 => true
  | 6 => false
  | 7 => true
  | _ => false
def eByt (e : Nat) : Option (List (A e) → List Int) := match e with
  | 3 => some fun xs => xs
  | _ => none
theorem flat1 : ∀ xs : List Int, xs.flatMap (fun x => [LV.int .u8 x]) = xs.map (LV.int .u8)
  | [] => rfl
  | x :: r => congrArg (LV.int .u8 x :: ·) (flat1 r)
def R : Reg A := ⟨eSz, eD, eEncL, eEnc, eDec, eEl, eByt⟩
theorem R_ok : R.Ok where
  pos e := by show 0 < eSz e; unfold eSz; split <;> decide
  len e a := match e, a with
    | 0, a => rfl
    | 1, a => rfl
    | 2, a => rfl
    | 3, a => rfl
    | 4, a => rfl
    | 5, a => rfl
    | 6, a => rfl
    | 7, a => rfl
    | e + 8, a => rfl
  ok e a := match e, a with
    | 0, a => rfl
    | 1, a => rfl
    | 2, a => rfl
    | 3, a => rfl
    | 4, a => rfl
    | 5, a => rfl
    | 6, a => rfl
    | 7, a => rfl
    | e + 8, a => rfl
  dec e cs a h := match e, a, h with
    | 0, a, h => by
      replace h : dec0 cs = some a := h
      unfold dec0 at h
      split at h
      · cases h; rfl
      · cases h
    | 1, a, h => by
      replace h : dec1 cs = some a := h
      unfold dec1 at h
      split at h
      · cases h; rfl
      · cases h
    | 2, a, h => by
      replace h : dec2 cs = some a := h
      unfold dec2 at h
      split at h
      · cases h; rfl
      · cases h
    | 3, a, h => by
      replace h : dec3 cs = some a := h
      unfold dec3 at h
      split at h
      · cases h; rfl
      · cases h
    | 4, a, h => by
      replace h : dec4 cs = some a := h
      unfold dec4 at h
      split at h
      · cases h; rfl
      · cases h
    | 5, a, h => by
      replace h : dec5 cs = some a := h
      unfold dec5 at h
      split at h
      · cases h; rfl
      · cases h
    | 6, a, h => by
      replace h : dec6 cs = some a := h
      unfold dec6 at h
      split at h
      · cases h; rfl
      · cases h
    | 7, a, h => by
      replace h : dec7 cs = some a := h
      unfold dec7 at h
      split at h
      · cases h; rfl
      · cases h
    | e + 8, a, h => by cases h
  free e a := match e, a with
    | 0, a => rfl
    | 1, a => rfl
    | 2, a => rfl
    | 3, a => rfl
    | 4, a => rfl
    | 5, a => rfl
    | 6, a => rfl
    | 7, a => rfl
    | e + 8, a => rfl
  sol e a := match e, a with
    | 0, a => rfl
    | 1, a => rfl
    | 2, a => rfl
    | 3, a => rfl
    | 4, a => rfl
    | 5, a => rfl
    | 6, a => rfl
    | 7, a => rfl
    | e + 8, a => rfl
  byt e f h xs := match e, f, h with
    | 0, f, h => by cases h
    | 1, f, h => by cases h
    | 2, f, h => by cases h
    | 3, f, h => by cases h; exact flat1 xs
    | 4, f, h => by cases h
    | 5, f, h => by cases h
    | 6, f, h => by cases h
    | 7, f, h => by cases h
    | e + 8, f, h => by cases h
theorem fl_ok : ∀ e, fl e = true → ∀ a, psfreeL (R.encL e a) = true := fun e h a => match e, h, a with
  | 0, h, a => rfl
  | 1, h, a => rfl
  | 2, h, a => by cases h
  | 3, h, a => rfl
  | 4, h, a => rfl
  | 5, h, a => rfl
  | 6, h, a => by cases h
  | 7, h, a => rfl
  | e + 8, h, a => rfl

def tyL : List (Nat × TI) := [(0, ⟨.other, 1, false, [.dead]⟩),
  (24, ⟨.struct [(0, 1, false), (1, 1, false), (2, 1, false), (3, 1, false)], 4, true, [.int .i64 0, .int .i64 0, .int .i64 0, .nils]⟩),
  (26, ⟨.int .i64, 1, false, [.int .i64 0]⟩),
  (22, ⟨.slice 1 8 [.int .i64 0], 1, false, [.nils]⟩),
  (3, ⟨.int .i64, 1, false, [.int .i64 0]⟩),
  (34, ⟨.arr 3 1 false, 3, true, [.int .i64 0, .int .i64 0, .int .i64 0]⟩),
  (4, ⟨.bool, 1, false, [.bool false]⟩),
  (45, ⟨.struct [(0, 1, false), (1, 1, false), (2, 1, false), (3, 4, true)], 7, true, [.str ⟨([] : List UInt8).toArray⟩, .nils, .nils, .int .i64 0, .int .i64 0, .int .i64 0, .nils]⟩),
  (43, ⟨.slice 1 24 [.nils], 1, false, [.nils]⟩),
  (51, ⟨.struct [(0, 1, false)], 1, true, [.nils]⟩),
  (53, ⟨.struct [(0, 1, false), (1, 1, false), (2, 1, false)], 3, true, [.int .i64 0, .int .i64 0, .int .i64 0]⟩),
  (57, ⟨.slice 1 1 [.int .u8 0], 1, false, [.nils]⟩),
  (61, ⟨.other, 1, false, [.nilp]⟩),
  (68, ⟨.int .u64, 1, false, [.int .u64 0]⟩),
  (70, ⟨.other, 1, false, [.nilp]⟩),
  (5, ⟨.int .u8, 1, false, [.int .u8 0]⟩),
  (79, ⟨.slice 1 1 [.bool false], 1, false, [.nils]⟩),
  (84, ⟨.struct [(0, 1, false), (1, 1, false), (2, 1, false)], 3, true, [.int .i64 0, .int .i64 0, .int .i64 0]⟩),
  (87, ⟨.arr 2 1 false, 2, true, [.int .i64 0, .int .i64 0]⟩),
  (88, ⟨.arr 4 2 true, 8, true, [.int .i64 0, .int .i64 0, .int .i64 0, .int .i64 0, .int .i64 0, .int .i64 0, .int .i64 0, .int .i64 0]⟩),
  (91, ⟨.struct [(0, 1, false), (1, 1, false), (2, 1, false)], 3, true, [.int .i64 0, .int .i64 0, .int .i64 0]⟩),
  (94, ⟨.arr 2 3 true, 6, true, [.int .i64 0, .int .i64 0, .int .i64 0, .int .i64 0, .int .i64 0, .int .i64 0]⟩),
  (99, ⟨.other, 1, false, [.nilp]⟩),
  (104, ⟨.other, 1, false, [.nilf]⟩),
  (42, ⟨.slice 1 16 [.str ⟨([] : List UInt8).toArray⟩], 1, false, [.nils]⟩),
  (114, ⟨.other, 1, false, [.nilp]⟩),
  (121, ⟨.struct [(0, 1, false), (1, 1, false), (2, 1, false)], 3, true, [.nils, .int .u32 0, .int .i64 0]⟩),
  (125, ⟨.struct [(0, 3, true), (3, 1, false), (4, 1, false), (5, 1, false)], 6, true, [.nils, .int .u32 0, .int .i64 0, .int .u32 0, .nils, .bool false]⟩),
  (119, ⟨.int .u32, 1, false, [.int .u32 0]⟩),
  (9, ⟨.str, 1, false, [.str ⟨([] : List UInt8).toArray⟩]⟩),
  (131, ⟨.struct [(0, 3, true), (3, 1, false), (4, 1, false)], 5, true, [.nils, .int .u32 0, .int .i64 0, .int .u32 0, .nils]⟩),
  (136, ⟨.slice 1 1 [.int .u8 0], 1, false, [.nils]⟩),
  (150, ⟨.struct [(0, 1, false), (1, 1, false), (2, 1, false)], 3, true, [.int .i64 0, .int .i64 0, .int .i64 0]⟩),
  (156, ⟨.arr 4 1 false, 4, true, [.int .i64 0, .int .i64 0, .int .i64 0, .int .i64 0]⟩),
  (158, ⟨.arr 4 1 false, 4, true, [.nils, .nils, .nils, .nils]⟩),
  (49, ⟨.slice 2 16 [.int .i64 0, .int .i64 0], 1, false, [.nils]⟩),
  (160, ⟨.struct [(0, 1, false), (1, 1, false)], 2, true, [.int .i64 0, .int .i64 0]⟩),
  (162, ⟨.arr 4 1 false, 4, true, [.str ⟨([] : List UInt8).toArray⟩, .str ⟨([] : List UInt8).toArray⟩, .str ⟨([] : List UInt8).toArray⟩, .str ⟨([] : List UInt8).toArray⟩]⟩),
  (164, ⟨.slice 2 40 [.str ⟨([] : List UInt8).toArray⟩, .nils], 1, false, [.nils]⟩),
  (168, ⟨.struct [(0, 1, false), (1, 1, false)], 2, true, [.str ⟨([] : List UInt8).toArray⟩, .nils]⟩),
  (118, ⟨.slice 2 8 [.int .u32 0, .int .u32 0], 1, false, [.nils]⟩),
  (173, ⟨.other, 1, false, [.nilp]⟩),
  (175, ⟨.struct [(0, 1, false), (1, 1, false)], 2, true, [.int .u32 0, .int .u32 0]⟩),
  (181, ⟨.other, 1, false, [.nilf]⟩),
  (28, ⟨.other, 1, false, [.nilf]⟩),
  (128, ⟨.int .u64, 1, false, [.int .u64 0]⟩),
  (187, ⟨.int .i64, 1, false, [.int .i64 0]⟩),
  (196, ⟨.int .u64, 1, false, [.int .u64 0]⟩),
  (200, ⟨.other, 1, false, [.nilp]⟩),
  (202, ⟨.other, 1, false, [.nilp]⟩)]
theorem tyL_ok : okL (tiOf Try.prog) tyL := ⟨by kernel_rfl, by kernel_rfl, by kernel_rfl, by kernel_rfl, by kernel_rfl, by kernel_rfl, by kernel_rfl, by kernel_rfl, by kernel_rfl, by kernel_rfl, by kernel_rfl, by kernel_rfl, by kernel_rfl, by kernel_rfl, by kernel_rfl, by kernel_rfl, by kernel_rfl, by kernel_rfl, by kernel_rfl, by kernel_rfl, by kernel_rfl, by kernel_rfl, by kernel_rfl, by kernel_rfl, by kernel_rfl, by kernel_rfl, by kernel_rfl, by kernel_rfl, by kernel_rfl, by kernel_rfl, by kernel_rfl, by kernel_rfl, by kernel_rfl, by kernel_rfl, by kernel_rfl, by kernel_rfl, by kernel_rfl, by kernel_rfl, by kernel_rfl, by kernel_rfl, by kernel_rfl, by kernel_rfl, by kernel_rfl, by kernel_rfl, by kernel_rfl, by kernel_rfl, by kernel_rfl, by kernel_rfl, by kernel_rfl, by kernel_rfl, trivial⟩
def eqL : List (Nat × List Nat) := [(91, [0, 0, 0]), (53, [0, 0, 0])]
theorem eqL_ok : okL (eqOf Try.prog) eqL := ⟨by kernel_rfl, by kernel_rfl, trivial⟩
def nlL : List (Nat × Nat) := [(26, 0), (3, 0), (61, 2), (70, 2), (5, 0), (91, 0), (53, 0), (9, 0), (119, 0), (187, 0), (57, 3), (128, 0), (68, 0)]
theorem nlL_ok : okN (nilOf Try.prog) nlL := ⟨by kernel_rfl, by kernel_rfl, by kernel_rfl, by kernel_rfl, by kernel_rfl, by kernel_rfl, by kernel_rfl, by kernel_rfl, by kernel_rfl, by kernel_rfl, by kernel_rfl, by kernel_rfl, by kernel_rfl, trivial⟩
noncomputable def ty : TT := ⟨lookT tyL (tiOf Try.prog), lookT eqL (eqOf Try.prog), lookN nlL (nilOf Try.prog)⟩
theorem ty_ok : ty = ttOf Try.prog := by
  unfold ty ttOf
  rw [lookT_eq tyL_ok, lookT_eq eqL_ok, lookN_eq nlL_ok]
def Wi (x : Int) : Prop := rng .i64 x
def W2i (x : Int × Int) : Prop := rng .i64 x.1 ∧ rng .i64 x.2
def WL2iJ (x : List (Int × Int)) : Prop := (List.length x ≤ 9223372036854775807 ∧ ∀ y ∈ x, W2i y)
def Wy (x : Int) : Prop := rng .u8 x
def Wo (x : Bool) : Prop := True
def Ws (x : ByteArray) : Prop := ByteArray.size x ≤ 9223372036854775807
def WsLyJ (x : ByteArray × List (Int)) : Prop := ByteArray.size x.1 ≤ 9223372036854775807 ∧ (List.length x.2 ≤ 9223372036854775807 ∧ ∀ y ∈ x.2, Wy y)
def W2w (x : Int × Int) : Prop := rng .u32 x.1 ∧ rng .u32 x.2
theorem rdi : R.d Ei = (0 : Int) := rfl
theorem rd2i : R.d E2i = ((0 : Int), (0 : Int)) := rfl
theorem rdL2iJ : R.d EL2iJ = ([] : List (Int × Int)) := rfl
theorem rdy : R.d Ey = (0 : Int) := rfl
theorem rdo : R.d Eo = false := rfl
theorem rds : R.d Es = (⟨#[]⟩ : ByteArray) := rfl
theorem rdsLyJ : R.d EsLyJ = ((⟨#[]⟩ : ByteArray), ([] : List (Int))) := rfl
theorem rd2w : R.d E2w = ((0 : Int), (0 : Int)) := rfl
theorem env : Env A R Try.prog ty fl := ⟨R_ok, ty_ok, fl_ok, by kernel_rfl⟩

end Go.Proofs.Ythnfbdihihhoiaa
namespace Go.Proofs.Ythnfbdihihhoiaa
open Go Go.Lite
set_option linter.unusedVariables false

/-- printworks/screen.Period -/
def screen_Period_r0 : List SO := [⟨(some 1), .box 84 (.tmp (0 : Nat)), none⟩,
  ⟨(some 2), .assign (.const (.int .i64 0)), none⟩,
  ⟨(some 3), .assign (.const (.int .i64 0)), none⟩]
def screen_Period_r1 : List SO := [⟨(some 5), .load 84 (.tmp (1 : Nat)), none⟩,
  ⟨(some 6), .call ⟨(.value (.func (86 : Nat))), #[(.tmp (5 : Nat))], #[84]⟩, none⟩,
  ⟨(some 4), .assign (.tmp (6 : Nat)), none⟩]
def screen_Period_r2 : List SO := [⟨(some 7), .move (.tmp (4 : Nat)), none⟩,
  ⟨(some 8), .binOp .neq 26 (.tmp (7 : Nat)) (.const (.int .i64 0)) 26, none⟩]
def screen_Period_r3 : List SO := [⟨(some 9), .move (.tmp (4 : Nat)), none⟩,
  ⟨(some 2), .assign (.const (.int .i64 0)), none⟩,
  ⟨(some 3), .assign (.tmp (9 : Nat)), none⟩]
def screen_Period_r4 : List SO := [⟨(some 10), .load 84 (.tmp (1 : Nat)), none⟩,
  ⟨(some 11), .call ⟨(.value (.func (87 : Nat))), #[(.tmp (10 : Nat))], #[84]⟩, none⟩,
  ⟨(some 12), .field 150 (.tmp (11 : Nat)) 0, none⟩,
  ⟨(some 2), .assign (.tmp (12 : Nat)), none⟩,
  ⟨(some 3), .assign (.const (.int .i64 0)), none⟩]
def screen_Period_c : SF := ⟨13, (.seq (.reg screen_Period_r0)
  (.seq (.seq (.reg screen_Period_r1)
  (.seq (.reg screen_Period_r2)
  (.cond (.tmp (8 : Nat)) (.seq (.reg screen_Period_r3)
  .ret) .skip)))
  (.seq (.reg screen_Period_r4)
  .ret))), [.tmp 2, .tmp 3]⟩
theorem screen_Period_s : slimF Try.prog 44 = some screen_Period_c := by kernel_rfl
abbrev screen_Period_f : Nat := 44
/-- printworks/screen.Cell -/
def screen_Cell_r0 : List SO := [⟨(some 3), .box 84 (.tmp (0 : Nat)), none⟩,
  ⟨(some 6), .assign (.const (.int .i64 0)), none⟩,
  ⟨(some 7), .assign (.const (.int .i64 0)), none⟩]
def screen_Cell_r1 : List SO := [⟨(some 9), .load 84 (.tmp (3 : Nat)), none⟩,
  ⟨(some 10), .call ⟨(.value (.func (86 : Nat))), #[(.tmp (9 : Nat))], #[84]⟩, none⟩,
  ⟨(some 8), .assign (.tmp (10 : Nat)), none⟩]
def screen_Cell_r2 : List SO := [⟨(some 11), .move (.tmp (8 : Nat)), none⟩,
  ⟨(some 12), .binOp .neq 26 (.tmp (11 : Nat)) (.const (.int .i64 0)) 26, none⟩]
def screen_Cell_r3 : List SO := [⟨(some 13), .move (.tmp (8 : Nat)), none⟩,
  ⟨(some 6), .assign (.const (.int .i64 0)), none⟩,
  ⟨(some 7), .assign (.tmp (13 : Nat)), none⟩]
def screen_Cell_r4 : List SO := [⟨(some 14), .move (.tmp (1 : Nat)), none⟩,
  ⟨(some 15), .move (.tmp (2 : Nat)), none⟩,
  ⟨(some 16), .call ⟨(.value (.func (88 : Nat))), #[(.tmp (14 : Nat)), (.tmp (15 : Nat))], #[3, 3]⟩, none⟩]
def screen_Cell_r5 : List SO := [⟨(some 6), .assign (.const (.int .i64 0)), none⟩,
  ⟨(some 7), .assign (.const (.int .i64 3)), none⟩]
def screen_Cell_r6 : List SO := [⟨(some 17), .load 84 (.tmp (3 : Nat)), none⟩,
  ⟨(some 18), .call ⟨(.value (.func (87 : Nat))), #[(.tmp (17 : Nat))], #[84]⟩, none⟩,
  ⟨(some 19), .move (.tmp (1 : Nat)), none⟩,
  ⟨(some 20), .move (.tmp (2 : Nat)), none⟩,
  ⟨(some 21), .call ⟨(.value (.func (89 : Nat))), #[(.tmp (18 : Nat)), (.tmp (19 : Nat)), (.tmp (20 : Nat))], #[150, 3, 3]⟩, none⟩,
  ⟨(some 6), .assign (.tmp (21 : Nat)), none⟩,
  ⟨(some 7), .assign (.const (.int .i64 0)), none⟩]
def screen_Cell_c : SF := ⟨22, (.seq (.reg screen_Cell_r0)
  (.seq (.seq (.reg screen_Cell_r1)
  (.seq (.reg screen_Cell_r2)
  (.cond (.tmp (12 : Nat)) (.seq (.reg screen_Cell_r3)
  .ret) .skip)))
  (.seq (.seq (.reg screen_Cell_r4)
  (.cond (.tmp (16 : Nat)) (.seq (.reg screen_Cell_r5)
  .ret) .skip))
  (.seq (.reg screen_Cell_r6)
  .ret)))), [.tmp 6, .tmp 7]⟩
theorem screen_Cell_s : slimF Try.prog 45 = some screen_Cell_c := by kernel_rfl
abbrev screen_Cell_f : Nat := 45
/-- printworks/screen.Common -/
def screen_Common_r0 : List SO := [⟨(some 2), .box 84 (.tmp (0 : Nat)), none⟩,
  ⟨(some 3), .box 84 (.tmp (1 : Nat)), none⟩,
  ⟨(some 4), .alloc 91, none⟩,
  ⟨(some 5), .assign (.const (.int .i64 0)), none⟩]
def screen_Common_r1 : List SO := [⟨(some 25), .load 84 (.tmp (2 : Nat)), none⟩,
  ⟨(some 26), .call ⟨(.value (.func (86 : Nat))), #[(.tmp (25 : Nat))], #[84]⟩, none⟩,
  ⟨(some 6), .assign (.tmp (26 : Nat)), none⟩]
def screen_Common_r2 : List SO := [⟨(some 27), .move (.tmp (6 : Nat)), none⟩,
  ⟨(some 28), .binOp .neq 26 (.tmp (27 : Nat)) (.const (.int .i64 0)) 26, none⟩]
def screen_Common_r3 : List SO := [⟨(some 29), .build 91 #[], none⟩,
  ⟨(some 30), .move (.tmp (6 : Nat)), none⟩,
  ⟨none, .store 91 (.tmp (4 : Nat)) (.tmp (29 : Nat)), none⟩,
  ⟨(some 5), .assign (.tmp (30 : Nat)), none⟩]
def screen_Common_r4 : List SO := [⟨(some 31), .load 84 (.tmp (3 : Nat)), none⟩,
  ⟨(some 32), .call ⟨(.value (.func (86 : Nat))), #[(.tmp (31 : Nat))], #[84]⟩, none⟩,
  ⟨(some 7), .assign (.tmp (32 : Nat)), none⟩]
def screen_Common_r5 : List SO := [⟨(some 33), .move (.tmp (7 : Nat)), none⟩,
  ⟨(some 34), .binOp .neq 26 (.tmp (33 : Nat)) (.const (.int .i64 0)) 26, none⟩]
def screen_Common_r6 : List SO := [⟨(some 35), .build 91 #[], none⟩,
  ⟨(some 36), .move (.tmp (7 : Nat)), none⟩,
  ⟨none, .store 91 (.tmp (4 : Nat)) (.tmp (35 : Nat)), none⟩,
  ⟨(some 5), .assign (.tmp (36 : Nat)), none⟩]
def screen_Common_r7 : List SO := [⟨(some 37), .load 84 (.tmp (2 : Nat)), none⟩,
  ⟨(some 38), .call ⟨(.value (.func (87 : Nat))), #[(.tmp (37 : Nat))], #[84]⟩, none⟩,
  ⟨(some 39), .load 84 (.tmp (3 : Nat)), none⟩,
  ⟨(some 40), .call ⟨(.value (.func (87 : Nat))), #[(.tmp (39 : Nat))], #[84]⟩, none⟩,
  ⟨(some 8), .alloc 150, none⟩,
  ⟨(some 9), .alloc 150, none⟩,
  ⟨none, .store 150 (.tmp (8 : Nat)) (.tmp (38 : Nat)), none⟩,
  ⟨none, .store 150 (.tmp (9 : Nat)) (.tmp (40 : Nat)), none⟩]
def screen_Common_a7 : List (List Nat) := [[], [0], [], [2, 1], [], [], [4, 1, 3, 0, 1, 4, 5], [5, 3, 6, 0, 1, 2, 3, 4, 5, 6]]
def screen_Common_r8 : List SO := [⟨(some 42), .fieldAddr 150 (.tmp (8 : Nat)) 0, none⟩,
  ⟨(some 43), .load 3 (.tmp (42 : Nat)), none⟩,
  ⟨(some 44), .fieldAddr 150 (.tmp (9 : Nat)) 0, none⟩,
  ⟨(some 45), .load 3 (.tmp (44 : Nat)), none⟩,
  ⟨(some 46), .call ⟨(.value (.func (90 : Nat))), #[(.tmp (43 : Nat)), (.tmp (45 : Nat))], #[3, 3]⟩, none⟩,
  ⟨(some 41), .move (.tmp (46 : Nat)), none⟩,
  ⟨(some 47), .extract (.tmp (41 : Nat)) 0, none⟩,
  ⟨(some 48), .extract (.tmp (41 : Nat)) 1, none⟩,
  ⟨(some 49), .extract (.tmp (41 : Nat)) 2, none⟩,
  ⟨(some 10), .assign (.tmp (47 : Nat)), none⟩,
  ⟨(some 11), .assign (.tmp (48 : Nat)), none⟩,
  ⟨(some 12), .assign (.tmp (49 : Nat)), none⟩]
def screen_Common_r9 : List SO := [⟨(some 51), .fieldAddr 150 (.tmp (8 : Nat)) 2, none⟩,
  ⟨(some 52), .load 3 (.tmp (51 : Nat)), none⟩,
  ⟨(some 53), .fieldAddr 150 (.tmp (9 : Nat)) 2, none⟩,
  ⟨(some 54), .load 3 (.tmp (53 : Nat)), none⟩,
  ⟨(some 55), .call ⟨(.value (.func (90 : Nat))), #[(.tmp (52 : Nat)), (.tmp (54 : Nat))], #[3, 3]⟩, none⟩,
  ⟨(some 50), .move (.tmp (55 : Nat)), none⟩,
  ⟨(some 56), .extract (.tmp (50 : Nat)) 0, none⟩,
  ⟨(some 57), .extract (.tmp (50 : Nat)) 1, none⟩,
  ⟨(some 58), .extract (.tmp (50 : Nat)) 2, none⟩,
  ⟨(some 13), .assign (.tmp (56 : Nat)), none⟩,
  ⟨(some 14), .assign (.tmp (57 : Nat)), none⟩,
  ⟨(some 15), .assign (.tmp (58 : Nat)), none⟩]
def screen_Common_r10 : List SO := [⟨(some 59), .fieldAddr 150 (.tmp (8 : Nat)) 2, none⟩,
  ⟨(some 60), .load 3 (.tmp (59 : Nat)), none⟩,
  ⟨(some 61), .move (.tmp (13 : Nat)), none⟩,
  ⟨(some 62), .binOp .quo 3 (.tmp (60 : Nat)) (.tmp (61 : Nat)) 3, none⟩,
  ⟨(some 63), .fieldAddr 150 (.tmp (9 : Nat)) 2, none⟩,
  ⟨(some 64), .load 3 (.tmp (63 : Nat)), none⟩,
  ⟨(some 65), .binOp .mul 3 (.tmp (62 : Nat)) (.tmp (64 : Nat)) 3, none⟩,
  ⟨(some 16), .assign (.tmp (65 : Nat)), none⟩]
def screen_Common_a10 : List (List Nat) := [[], [0], [], [1, 2], [], [4], [3, 5], [6, 0, 1, 2, 3, 4, 5, 6]]
def screen_Common_r11 : List SO := [⟨(some 66), .move (.tmp (16 : Nat)), none⟩,
  ⟨(some 67), .fieldAddr 150 (.tmp (8 : Nat)) 2, none⟩,
  ⟨(some 68), .load 3 (.tmp (67 : Nat)), none⟩,
  ⟨(some 69), .binOp .quo 3 (.tmp (66 : Nat)) (.tmp (68 : Nat)) 3, none⟩,
  ⟨(some 70), .fieldAddr 150 (.tmp (8 : Nat)) 1, none⟩,
  ⟨(some 71), .load 3 (.tmp (70 : Nat)), none⟩,
  ⟨(some 72), .binOp .mul 3 (.tmp (69 : Nat)) (.tmp (71 : Nat)) 3, none⟩,
  ⟨(some 73), .fieldAddr 150 (.tmp (8 : Nat)) 0, none⟩,
  ⟨(some 74), .load 3 (.tmp (73 : Nat)), none⟩,
  ⟨(some 75), .call ⟨(.value (.func (91 : Nat))), #[(.tmp (72 : Nat)), (.tmp (74 : Nat))], #[3, 3]⟩, none⟩,
  ⟨(some 76), .move (.tmp (16 : Nat)), none⟩,
  ⟨(some 77), .fieldAddr 150 (.tmp (9 : Nat)) 2, none⟩,
  ⟨(some 78), .load 3 (.tmp (77 : Nat)), none⟩,
  ⟨(some 79), .binOp .quo 3 (.tmp (76 : Nat)) (.tmp (78 : Nat)) 3, none⟩,
  ⟨(some 80), .fieldAddr 150 (.tmp (9 : Nat)) 1, none⟩,
  ⟨(some 81), .load 3 (.tmp (80 : Nat)), none⟩,
  ⟨(some 82), .binOp .mul 3 (.tmp (79 : Nat)) (.tmp (81 : Nat)) 3, none⟩,
  ⟨(some 83), .fieldAddr 150 (.tmp (9 : Nat)) 0, none⟩,
  ⟨(some 84), .load 3 (.tmp (83 : Nat)), none⟩,
  ⟨(some 85), .call ⟨(.value (.func (91 : Nat))), #[(.tmp (82 : Nat)), (.tmp (84 : Nat))], #[3, 3]⟩, none⟩,
  ⟨(some 17), .assign (.tmp (75 : Nat)), none⟩,
  ⟨(some 18), .assign (.tmp (85 : Nat)), none⟩]
def screen_Common_a11 : List (List Nat) := [[], [], [1], [0, 2], [], [4], [3, 5], [], [7], [6, 8], [], [], [11], [10, 12], [], [14], [13, 15], [], [17], [16, 18, 9], [9, 19, 0, 1, 2, 3, 4, 5, 6, 7, 8, 9], [19, 20, 0, 1, 2, 3, 4, 5, 6, 7, 8, 9, 10, 11, 12, 13, 14, 15, 16, 17, 18, 19, 20]]
def screen_Common_r12 : List SO := [⟨(some 87), .move (.tmp (10 : Nat)), none⟩,
  ⟨(some 88), .move (.tmp (17 : Nat)), none⟩,
  ⟨(some 89), .move (.tmp (18 : Nat)), none⟩,
  ⟨(some 90), .binOp .sub 3 (.tmp (88 : Nat)) (.tmp (89 : Nat)) 3, none⟩,
  ⟨(some 91), .move (.tmp (10 : Nat)), none⟩,
  ⟨(some 92), .call ⟨(.value (.func (91 : Nat))), #[(.tmp (90 : Nat)), (.tmp (91 : Nat))], #[3, 3]⟩, none⟩,
  ⟨(some 93), .call ⟨(.value (.func (90 : Nat))), #[(.tmp (87 : Nat)), (.tmp (92 : Nat))], #[3, 3]⟩, none⟩,
  ⟨(some 86), .move (.tmp (93 : Nat)), none⟩,
  ⟨(some 94), .extract (.tmp (86 : Nat)) 0, none⟩,
  ⟨(some 95), .extract (.tmp (86 : Nat)) 1, none⟩,
  ⟨(some 96), .extract (.tmp (86 : Nat)) 2, none⟩,
  ⟨(some 19), .assign (.tmp (94 : Nat)), none⟩,
  ⟨(some 20), .assign (.tmp (95 : Nat)), none⟩,
  ⟨(some 21), .assign (.tmp (96 : Nat)), none⟩]
def screen_Common_r13 : List SO := [⟨(some 97), .move (.tmp (10 : Nat)), none⟩,
  ⟨(some 98), .move (.tmp (19 : Nat)), none⟩,
  ⟨(some 99), .binOp .quo 3 (.tmp (97 : Nat)) (.tmp (98 : Nat)) 3, none⟩,
  ⟨(some 22), .assign (.tmp (99 : Nat)), none⟩]
def screen_Common_r14 : List SO := [⟨(some 100), .fieldAddr 150 (.tmp (8 : Nat)) 0, none⟩,
  ⟨(some 101), .load 3 (.tmp (100 : Nat)), none⟩,
  ⟨(some 102), .move (.tmp (10 : Nat)), none⟩,
  ⟨(some 103), .binOp .quo 3 (.tmp (101 : Nat)) (.tmp (102 : Nat)) 3, none⟩,
  ⟨(some 104), .fieldAddr 150 (.tmp (9 : Nat)) 0, none⟩,
  ⟨(some 105), .load 3 (.tmp (104 : Nat)), none⟩,
  ⟨(some 106), .binOp .mul 3 (.tmp (103 : Nat)) (.tmp (105 : Nat)) 3, none⟩,
  ⟨(some 23), .assign (.tmp (106 : Nat)), none⟩]
def screen_Common_a14 : List (List Nat) := [[], [0], [], [1, 2], [], [4], [3, 5], [6, 0, 1, 2, 3, 4, 5, 6]]
def screen_Common_r15 : List SO := [⟨(some 107), .move (.tmp (17 : Nat)), none⟩,
  ⟨(some 108), .move (.tmp (22 : Nat)), none⟩,
  ⟨(some 109), .binOp .mul 3 (.tmp (107 : Nat)) (.tmp (108 : Nat)) 3, none⟩,
  ⟨(some 110), .fieldAddr 150 (.tmp (8 : Nat)) 0, none⟩,
  ⟨(some 111), .load 3 (.tmp (110 : Nat)), none⟩,
  ⟨(some 112), .call ⟨(.value (.func (91 : Nat))), #[(.tmp (109 : Nat)), (.tmp (111 : Nat))], #[3, 3]⟩, none⟩,
  ⟨(some 113), .move (.tmp (18 : Nat)), none⟩,
  ⟨(some 114), .move (.tmp (22 : Nat)), none⟩,
  ⟨(some 115), .binOp .mul 3 (.tmp (113 : Nat)) (.tmp (114 : Nat)) 3, none⟩,
  ⟨(some 116), .fieldAddr 150 (.tmp (9 : Nat)) 0, none⟩,
  ⟨(some 117), .load 3 (.tmp (116 : Nat)), none⟩,
  ⟨(some 118), .call ⟨(.value (.func (91 : Nat))), #[(.tmp (115 : Nat)), (.tmp (117 : Nat))], #[3, 3]⟩, none⟩,
  ⟨(some 17), .assign (.tmp (112 : Nat)), none⟩,
  ⟨(some 18), .assign (.tmp (118 : Nat)), none⟩]
def screen_Common_a15 : List (List Nat) := [[], [], [0, 1], [], [3], [2, 4], [], [], [6, 7], [], [9], [8, 10, 5], [5, 11, 0, 1, 2, 3, 4, 5], [11, 12, 0, 1, 2, 3, 4, 5, 6, 7, 8, 9, 10, 11, 12]]
def screen_Common_r16 : List SO := [⟨(some 119), .move (.tmp (18 : Nat)), none⟩,
  ⟨(some 120), .move (.tmp (17 : Nat)), none⟩,
  ⟨(some 121), .binOp .sub 3 (.tmp (119 : Nat)) (.tmp (120 : Nat)) 3, none⟩,
  ⟨(some 122), .move (.tmp (10 : Nat)), none⟩,
  ⟨(some 123), .binOp .quo 3 (.tmp (121 : Nat)) (.tmp (122 : Nat)) 3, none⟩,
  ⟨(some 124), .move (.tmp (11 : Nat)), none⟩,
  ⟨(some 125), .binOp .mul 3 (.tmp (123 : Nat)) (.tmp (124 : Nat)) 3, none⟩,
  ⟨(some 126), .fieldAddr 150 (.tmp (9 : Nat)) 0, none⟩,
  ⟨(some 127), .load 3 (.tmp (126 : Nat)), none⟩,
  ⟨(some 128), .move (.tmp (10 : Nat)), none⟩,
  ⟨(some 129), .binOp .quo 3 (.tmp (127 : Nat)) (.tmp (128 : Nat)) 3, none⟩,
  ⟨(some 130), .call ⟨(.value (.func (91 : Nat))), #[(.tmp (125 : Nat)), (.tmp (129 : Nat))], #[3, 3]⟩, none⟩,
  ⟨(some 24), .assign (.tmp (130 : Nat)), none⟩]
def screen_Common_a16 : List (List Nat) := [[], [], [0, 1], [], [2, 3], [], [4, 5], [], [7], [], [8, 9], [6, 10], [11, 11, 0, 1, 2, 3, 4, 5, 6, 7, 8, 9, 10, 11]]
def screen_Common_r17 : List SO := [⟨(some 131), .move (.tmp (23 : Nat)), none⟩,
  ⟨(some 132), .move (.tmp (17 : Nat)), none⟩,
  ⟨(some 133), .fieldAddr 150 (.tmp (8 : Nat)) 0, none⟩,
  ⟨(some 134), .load 3 (.tmp (133 : Nat)), none⟩,
  ⟨(some 135), .move (.tmp (24 : Nat)), none⟩,
  ⟨(some 136), .binOp .mul 3 (.tmp (134 : Nat)) (.tmp (135 : Nat)) 3, none⟩,
  ⟨(some 137), .binOp .add 3 (.tmp (132 : Nat)) (.tmp (136 : Nat)) 3, none⟩,
  ⟨(some 138), .move (.tmp (23 : Nat)), none⟩,
  ⟨(some 139), .call ⟨(.value (.func (91 : Nat))), #[(.tmp (137 : Nat)), (.tmp (138 : Nat))], #[3, 3]⟩, none⟩,
  ⟨(some 140), .move (.tmp (16 : Nat)), none⟩,
  ⟨(some 141), .move (.tmp (22 : Nat)), none⟩,
  ⟨(some 142), .binOp .mul 3 (.tmp (140 : Nat)) (.tmp (141 : Nat)) 3, none⟩,
  ⟨(some 143), .build 91 #[(0, (.tmp (131 : Nat))), (1, (.tmp (139 : Nat))), (2, (.tmp (142 : Nat)))], none⟩,
  ⟨none, .store 91 (.tmp (4 : Nat)) (.tmp (143 : Nat)), none⟩,
  ⟨(some 5), .assign (.const (.int .i64 0)), none⟩]
def screen_Common_c : SF := ⟨144, (.seq (.reg screen_Common_r0)
  (.seq (.seq (.reg screen_Common_r1)
  (.seq (.reg screen_Common_r2)
  (.cond (.tmp (28 : Nat)) (.seq (.reg screen_Common_r3)
  .ret) .skip)))
  (.seq (.seq (.reg screen_Common_r4)
  (.seq (.reg screen_Common_r5)
  (.cond (.tmp (34 : Nat)) (.seq (.reg screen_Common_r6)
  .ret) .skip)))
  (.seq (.regd screen_Common_r7 screen_Common_a7)
  (.seq (.reg screen_Common_r8)
  (.seq (.reg screen_Common_r9)
  (.seq (.regd screen_Common_r10 screen_Common_a10)
  (.seq (.regd screen_Common_r11 screen_Common_a11)
  (.seq (.reg screen_Common_r12)
  (.seq (.reg screen_Common_r13)
  (.seq (.regd screen_Common_r14 screen_Common_a14)
  (.seq (.regd screen_Common_r15 screen_Common_a15)
  (.seq (.regd screen_Common_r16 screen_Common_a16)
  (.seq (.reg screen_Common_r17)
  .ret)))))))))))))), [.cell 4 91, .tmp 5]⟩
theorem screen_Common_s : slimF Try.prog 46 = some screen_Common_c := by kernel_rfl
abbrev screen_Common_f : Nat := 46
/-- printworks/screen.Order -/
def screen_Order_r0 : List SO := [⟨(some 1), .box 84 (.tmp (0 : Nat)), none⟩,
  ⟨(some 2), .assign (.const (.slice none 0 0)), none⟩,
  ⟨(some 3), .assign (.const (.int .i64 0)), none⟩]
def screen_Order_r1 : List SO := [⟨(some 5), .load 84 (.tmp (1 : Nat)), none⟩,
  ⟨(some 6), .call ⟨(.value (.func (86 : Nat))), #[(.tmp (5 : Nat))], #[84]⟩, none⟩,
  ⟨(some 4), .assign (.tmp (6 : Nat)), none⟩]
def screen_Order_r2 : List SO := [⟨(some 7), .move (.tmp (4 : Nat)), none⟩,
  ⟨(some 8), .binOp .neq 26 (.tmp (7 : Nat)) (.const (.int .i64 0)) 26, none⟩]
def screen_Order_r3 : List SO := [⟨(some 9), .move (.tmp (4 : Nat)), none⟩,
  ⟨(some 2), .assign (.const (.slice none 0 0)), none⟩,
  ⟨(some 3), .assign (.tmp (9 : Nat)), none⟩]
def screen_Order_r4 : List SO := [⟨(some 10), .load 84 (.tmp (1 : Nat)), none⟩,
  ⟨(some 11), .call ⟨(.value (.func (104 : Nat))), #[(.tmp (10 : Nat))], #[84]⟩, none⟩,
  ⟨(some 2), .assign (.tmp (11 : Nat)), none⟩,
  ⟨(some 3), .assign (.const (.int .i64 0)), none⟩]
def screen_Order_c : SF := ⟨12, (.seq (.reg screen_Order_r0)
  (.seq (.seq (.reg screen_Order_r1)
  (.seq (.reg screen_Order_r2)
  (.cond (.tmp (8 : Nat)) (.seq (.reg screen_Order_r3)
  .ret) .skip)))
  (.seq (.reg screen_Order_r4)
  .ret))), [.tmp 2, .tmp 3]⟩
theorem screen_Order_s : slimF Try.prog 83 = some screen_Order_c := by kernel_rfl
abbrev screen_Order_f : Nat := 83
/-- printworks/screen.Dots -/
def screen_Dots_r0 : List SO := [⟨(some 2), .box 84 (.tmp (0 : Nat)), none⟩,
  ⟨(some 4), .assign (.const (.int .i64 0)), none⟩,
  ⟨(some 5), .assign (.const (.int .i64 0)), none⟩]
def screen_Dots_r1 : List SO := [⟨(some 7), .load 84 (.tmp (2 : Nat)), none⟩,
  ⟨(some 8), .call ⟨(.value (.func (86 : Nat))), #[(.tmp (7 : Nat))], #[84]⟩, none⟩,
  ⟨(some 6), .assign (.tmp (8 : Nat)), none⟩]
def screen_Dots_r2 : List SO := [⟨(some 9), .move (.tmp (6 : Nat)), none⟩,
  ⟨(some 10), .binOp .neq 26 (.tmp (9 : Nat)) (.const (.int .i64 0)) 26, none⟩]
def screen_Dots_r3 : List SO := [⟨(some 11), .move (.tmp (6 : Nat)), none⟩,
  ⟨(some 4), .assign (.const (.int .i64 0)), none⟩,
  ⟨(some 5), .assign (.tmp (11 : Nat)), none⟩]
def screen_Dots_r4 : List SO := [⟨(some 12), .move (.tmp (1 : Nat)), none⟩,
  ⟨(some 13), .binOp .lss 3 (.tmp (12 : Nat)) (.const (.int .i64 0)) 3, none⟩,
  ⟨(some 14), .move (.tmp (13 : Nat)), none⟩,
  ⟨(some 15), .move (.tmp (1 : Nat)), (some (14, false))⟩,
  ⟨(some 16), .binOp .gtr 3 (.tmp (15 : Nat)) (.const (.int .i64 255)) 3, (some (14, false))⟩,
  ⟨(some 17), .pick (.tmp (14 : Nat)) (.const (.bool true)) (.tmp (16 : Nat)), none⟩]
def screen_Dots_r5 : List SO := [⟨(some 4), .assign (.const (.int .i64 0)), none⟩,
  ⟨(some 5), .assign (.const (.int .i64 3)), none⟩]
def screen_Dots_r6 : List SO := [⟨(some 18), .move (.tmp (1 : Nat)), none⟩,
  ⟨(some 19), .fieldAddr 84 (.tmp (2 : Nat)) 0, none⟩,
  ⟨(some 20), .load 3 (.tmp (19 : Nat)), none⟩,
  ⟨(some 21), .fieldAddr 84 (.tmp (2 : Nat)) 0, none⟩,
  ⟨(some 22), .load 3 (.tmp (21 : Nat)), none⟩,
  ⟨(some 23), .binOp .mul 3 (.tmp (20 : Nat)) (.tmp (22 : Nat)) 3, none⟩,
  ⟨(some 24), .fieldAddr 84 (.tmp (2 : Nat)) 1, none⟩,
  ⟨(some 25), .load 3 (.tmp (24 : Nat)), none⟩,
  ⟨(some 26), .fieldAddr 84 (.tmp (2 : Nat)) 1, none⟩,
  ⟨(some 27), .load 3 (.tmp (26 : Nat)), none⟩,
  ⟨(some 28), .binOp .mul 3 (.tmp (25 : Nat)) (.tmp (27 : Nat)) 3, none⟩,
  ⟨(some 29), .binOp .add 3 (.tmp (23 : Nat)) (.tmp (28 : Nat)) 3, none⟩,
  ⟨(some 30), .binOp .mul 3 (.tmp (18 : Nat)) (.tmp (29 : Nat)) 3, none⟩,
  ⟨(some 31), .call ⟨(.value (.func (93 : Nat))), #[(.tmp (30 : Nat)), (.const (.int .i64 255))], #[3, 3]⟩, none⟩,
  ⟨(some 4), .assign (.tmp (31 : Nat)), none⟩,
  ⟨(some 5), .assign (.const (.int .i64 0)), none⟩]
def screen_Dots_c : SF := ⟨32, (.seq (.reg screen_Dots_r0)
  (.seq (.seq (.reg screen_Dots_r1)
  (.seq (.reg screen_Dots_r2)
  (.cond (.tmp (10 : Nat)) (.seq (.reg screen_Dots_r3)
  .ret) .skip)))
  (.seq (.seq (.reg screen_Dots_r4)
  (.cond (.tmp (17 : Nat)) (.seq (.reg screen_Dots_r5)
  .ret) .skip))
  (.seq (.reg screen_Dots_r6)
  .ret)))), [.tmp 4, .tmp 5]⟩
theorem screen_Dots_s : slimF Try.prog 84 = some screen_Dots_c := by kernel_rfl
abbrev screen_Dots_f : Nat := 84
/-- printworks/screen.Moire -/
def screen_Moire_r0 : List SO := [⟨(some 2), .box 84 (.tmp (0 : Nat)), none⟩,
  ⟨(some 3), .box 84 (.tmp (1 : Nat)), none⟩,
  ⟨(some 4), .assign (.const (.int .i64 0)), none⟩,
  ⟨(some 5), .assign (.const (.int .i64 0)), none⟩,
  ⟨(some 6), .assign (.const (.int .i64 0)), none⟩]
def screen_Moire_r1 : List SO := [⟨(some 20), .load 84 (.tmp (2 : Nat)), none⟩,
  ⟨(some 21), .call ⟨(.value (.func (86 : Nat))), #[(.tmp (20 : Nat))], #[84]⟩, none⟩,
  ⟨(some 7), .assign (.tmp (21 : Nat)), none⟩]
def screen_Moire_r2 : List SO := [⟨(some 22), .move (.tmp (7 : Nat)), none⟩,
  ⟨(some 23), .binOp .neq 26 (.tmp (22 : Nat)) (.const (.int .i64 0)) 26, none⟩]
def screen_Moire_r3 : List SO := [⟨(some 24), .move (.tmp (7 : Nat)), none⟩,
  ⟨(some 4), .assign (.const (.int .i64 0)), none⟩,
  ⟨(some 5), .assign (.const (.int .i64 0)), none⟩,
  ⟨(some 6), .assign (.tmp (24 : Nat)), none⟩]
def screen_Moire_r4 : List SO := [⟨(some 25), .load 84 (.tmp (3 : Nat)), none⟩,
  ⟨(some 26), .call ⟨(.value (.func (86 : Nat))), #[(.tmp (25 : Nat))], #[84]⟩, none⟩,
  ⟨(some 8), .assign (.tmp (26 : Nat)), none⟩]
def screen_Moire_r5 : List SO := [⟨(some 27), .move (.tmp (8 : Nat)), none⟩,
  ⟨(some 28), .binOp .neq 26 (.tmp (27 : Nat)) (.const (.int .i64 0)) 26, none⟩]
def screen_Moire_r6 : List SO := [⟨(some 29), .move (.tmp (8 : Nat)), none⟩,
  ⟨(some 4), .assign (.const (.int .i64 0)), none⟩,
  ⟨(some 5), .assign (.const (.int .i64 0)), none⟩,
  ⟨(some 6), .assign (.tmp (29 : Nat)), none⟩]
def screen_Moire_r7 : List SO := [⟨(some 30), .fieldAddr 84 (.tmp (2 : Nat)) 0, none⟩,
  ⟨(some 31), .load 3 (.tmp (30 : Nat)), none⟩,
  ⟨(some 32), .fieldAddr 84 (.tmp (2 : Nat)) 0, none⟩,
  ⟨(some 33), .load 3 (.tmp (32 : Nat)), none⟩,
  ⟨(some 34), .binOp .mul 3 (.tmp (31 : Nat)) (.tmp (33 : Nat)) 3, none⟩,
  ⟨(some 35), .fieldAddr 84 (.tmp (2 : Nat)) 1, none⟩,
  ⟨(some 36), .load 3 (.tmp (35 : Nat)), none⟩,
  ⟨(some 37), .fieldAddr 84 (.tmp (2 : Nat)) 1, none⟩,
  ⟨(some 38), .load 3 (.tmp (37 : Nat)), none⟩,
  ⟨(some 39), .binOp .mul 3 (.tmp (36 : Nat)) (.tmp (38 : Nat)) 3, none⟩,
  ⟨(some 40), .binOp .add 3 (.tmp (34 : Nat)) (.tmp (39 : Nat)) 3, none⟩,
  ⟨(some 41), .fieldAddr 84 (.tmp (3 : Nat)) 0, none⟩,
  ⟨(some 42), .load 3 (.tmp (41 : Nat)), none⟩,
  ⟨(some 43), .fieldAddr 84 (.tmp (3 : Nat)) 0, none⟩,
  ⟨(some 44), .load 3 (.tmp (43 : Nat)), none⟩,
  ⟨(some 45), .binOp .mul 3 (.tmp (42 : Nat)) (.tmp (44 : Nat)) 3, none⟩,
  ⟨(some 46), .fieldAddr 84 (.tmp (3 : Nat)) 1, none⟩,
  ⟨(some 47), .load 3 (.tmp (46 : Nat)), none⟩,
  ⟨(some 48), .fieldAddr 84 (.tmp (3 : Nat)) 1, none⟩,
  ⟨(some 49), .load 3 (.tmp (48 : Nat)), none⟩,
  ⟨(some 50), .binOp .mul 3 (.tmp (47 : Nat)) (.tmp (49 : Nat)) 3, none⟩,
  ⟨(some 51), .binOp .add 3 (.tmp (45 : Nat)) (.tmp (50 : Nat)) 3, none⟩,
  ⟨(some 9), .assign (.tmp (40 : Nat)), none⟩,
  ⟨(some 10), .assign (.tmp (51 : Nat)), none⟩]
def screen_Moire_a7 : List (List Nat) := [[], [0], [], [2], [1, 3], [], [5], [], [7], [6, 8], [4, 9], [], [11], [], [13], [12, 14], [], [16], [], [18], [17, 19], [15, 20], [10, 0, 1, 2, 3, 4, 5, 6, 7, 8, 9, 10], [21, 22, 0, 1, 2, 3, 4, 5, 6, 7, 8, 9, 10, 11, 12, 13, 14, 15, 16, 17, 18, 19, 20, 21, 22]]
def screen_Moire_r8 : List SO := [⟨(some 11), .assign (.const (.int .i64 (-1))), none⟩]
def screen_Moire_r9 : List SO := [⟨(some 52), .fieldAddr 84 (.tmp (3 : Nat)) 0, none⟩,
  ⟨(some 53), .load 3 (.tmp (52 : Nat)), none⟩,
  ⟨(some 54), .fieldAddr 84 (.tmp (3 : Nat)) 1, none⟩,
  ⟨(some 55), .load 3 (.tmp (54 : Nat)), none⟩,
  ⟨(some 12), .assign (.tmp (53 : Nat)), none⟩,
  ⟨(some 13), .assign (.tmp (55 : Nat)), none⟩]
def screen_Moire_a9 : List (List Nat) := [[], [0], [], [2], [1, 0, 1], [3, 4, 0, 1, 2, 3, 4]]
def screen_Moire_r10 : List SO := [⟨(some 56), .move (.const (.int .i64 0)), none⟩]
def screen_Moire_r11 : List SO := [⟨(some 57), .binOp .lss 3 (.tmp (56 : Nat)) (.const (.int .i64 4)) 3, none⟩]
def screen_Moire_r12 : List SO := [⟨(some 58), .fieldAddr 84 (.tmp (2 : Nat)) 0, none⟩,
  ⟨(some 59), .load 3 (.tmp (58 : Nat)), none⟩,
  ⟨(some 60), .move (.tmp (10 : Nat)), none⟩,
  ⟨(some 61), .binOp .mul 3 (.tmp (59 : Nat)) (.tmp (60 : Nat)) 3, none⟩,
  ⟨(some 62), .move (.tmp (12 : Nat)), none⟩,
  ⟨(some 63), .move (.tmp (9 : Nat)), none⟩,
  ⟨(some 64), .binOp .mul 3 (.tmp (62 : Nat)) (.tmp (63 : Nat)) 3, none⟩,
  ⟨(some 65), .binOp .sub 3 (.tmp (61 : Nat)) (.tmp (64 : Nat)) 3, none⟩,
  ⟨(some 66), .fieldAddr 84 (.tmp (2 : Nat)) 1, none⟩,
  ⟨(some 67), .load 3 (.tmp (66 : Nat)), none⟩,
  ⟨(some 68), .move (.tmp (10 : Nat)), none⟩,
  ⟨(some 69), .binOp .mul 3 (.tmp (67 : Nat)) (.tmp (68 : Nat)) 3, none⟩,
  ⟨(some 70), .move (.tmp (13 : Nat)), none⟩,
  ⟨(some 71), .move (.tmp (9 : Nat)), none⟩,
  ⟨(some 72), .binOp .mul 3 (.tmp (70 : Nat)) (.tmp (71 : Nat)) 3, none⟩,
  ⟨(some 73), .binOp .sub 3 (.tmp (69 : Nat)) (.tmp (72 : Nat)) 3, none⟩,
  ⟨(some 14), .assign (.tmp (65 : Nat)), none⟩,
  ⟨(some 15), .assign (.tmp (73 : Nat)), none⟩]
def screen_Moire_a12 : List (List Nat) := [[], [0], [], [1, 2], [], [], [4, 5], [3, 6], [], [8], [], [9, 10], [], [], [12, 13], [11, 14], [7, 0, 1, 2, 3, 4, 5, 6, 7], [15, 16, 0, 1, 2, 3, 4, 5, 6, 7, 8, 9, 10, 11, 12, 13, 14, 15, 16]]
def screen_Moire_r13 : List SO := [⟨(some 74), .move (.tmp (14 : Nat)), none⟩,
  ⟨(some 75), .move (.tmp (14 : Nat)), none⟩,
  ⟨(some 76), .binOp .mul 3 (.tmp (74 : Nat)) (.tmp (75 : Nat)) 3, none⟩,
  ⟨(some 77), .move (.tmp (15 : Nat)), none⟩,
  ⟨(some 78), .move (.tmp (15 : Nat)), none⟩,
  ⟨(some 79), .binOp .mul 3 (.tmp (77 : Nat)) (.tmp (78 : Nat)) 3, none⟩,
  ⟨(some 80), .binOp .add 3 (.tmp (76 : Nat)) (.tmp (79 : Nat)) 3, none⟩,
  ⟨(some 16), .assign (.tmp (80 : Nat)), none⟩]
def screen_Moire_r14 : List SO := [⟨(some 81), .move (.tmp (11 : Nat)), none⟩,
  ⟨(some 82), .binOp .lss 3 (.tmp (81 : Nat)) (.const (.int .i64 0)) 3, none⟩,
  ⟨(some 83), .move (.tmp (82 : Nat)), none⟩,
  ⟨(some 84), .move (.tmp (16 : Nat)), (some (83, false))⟩,
  ⟨(some 85), .move (.tmp (11 : Nat)), (some (83, false))⟩,
  ⟨(some 86), .binOp .lss 3 (.tmp (84 : Nat)) (.tmp (85 : Nat)) 3, (some (83, false))⟩,
  ⟨(some 87), .pick (.tmp (83 : Nat)) (.const (.bool true)) (.tmp (86 : Nat)), none⟩]
def screen_Moire_r15 : List SO := [⟨(some 88), .move (.tmp (16 : Nat)), none⟩,
  ⟨(some 11), .assign (.tmp (88 : Nat)), none⟩]
def screen_Moire_r16 : List SO := [⟨(some 89), .move (.tmp (13 : Nat)), none⟩,
  ⟨(some 90), .unOp .neg 3 (.tmp (89 : Nat)), none⟩,
  ⟨(some 91), .move (.tmp (12 : Nat)), none⟩,
  ⟨(some 12), .assign (.tmp (90 : Nat)), none⟩,
  ⟨(some 13), .assign (.tmp (91 : Nat)), none⟩]
def screen_Moire_r17 : List SO := [⟨(some 92), .binOp .add 3 (.tmp (56 : Nat)) (.const (.int .i64 1)) 3, none⟩,
  ⟨(some 56), .move (.tmp (92 : Nat)), none⟩]
def screen_Moire_r18 : List SO := [⟨(some 94), .move (.tmp (9 : Nat)), none⟩,
  ⟨(some 95), .move (.tmp (10 : Nat)), none⟩,
  ⟨(some 96), .binOp .mul 3 (.tmp (94 : Nat)) (.tmp (95 : Nat)) 3, none⟩,
  ⟨(some 97), .move (.tmp (9 : Nat)), none⟩,
  ⟨(some 98), .binOp .mul 3 (.tmp (96 : Nat)) (.tmp (97 : Nat)) 3, none⟩,
  ⟨(some 99), .move (.tmp (10 : Nat)), none⟩,
  ⟨(some 100), .binOp .mul 3 (.tmp (98 : Nat)) (.tmp (99 : Nat)) 3, none⟩,
  ⟨(some 101), .move (.tmp (11 : Nat)), none⟩,
  ⟨(some 102), .call ⟨(.value (.func (90 : Nat))), #[(.tmp (100 : Nat)), (.tmp (101 : Nat))], #[3, 3]⟩, none⟩,
  ⟨(some 93), .move (.tmp (102 : Nat)), none⟩,
  ⟨(some 103), .extract (.tmp (93 : Nat)) 0, none⟩,
  ⟨(some 104), .extract (.tmp (93 : Nat)) 1, none⟩,
  ⟨(some 105), .extract (.tmp (93 : Nat)) 2, none⟩,
  ⟨(some 17), .assign (.tmp (103 : Nat)), none⟩,
  ⟨(some 18), .assign (.tmp (104 : Nat)), none⟩,
  ⟨(some 19), .assign (.tmp (105 : Nat)), none⟩]
def screen_Moire_r19 : List SO := [⟨(some 106), .move (.tmp (11 : Nat)), none⟩,
  ⟨(some 107), .move (.tmp (17 : Nat)), none⟩,
  ⟨(some 108), .binOp .quo 3 (.tmp (106 : Nat)) (.tmp (107 : Nat)) 3, none⟩,
  ⟨(some 109), .move (.tmp (9 : Nat)), none⟩,
  ⟨(some 110), .move (.tmp (10 : Nat)), none⟩,
  ⟨(some 111), .binOp .mul 3 (.tmp (109 : Nat)) (.tmp (110 : Nat)) 3, none⟩,
  ⟨(some 112), .move (.tmp (9 : Nat)), none⟩,
  ⟨(some 113), .binOp .mul 3 (.tmp (111 : Nat)) (.tmp (112 : Nat)) 3, none⟩,
  ⟨(some 114), .move (.tmp (10 : Nat)), none⟩,
  ⟨(some 115), .binOp .mul 3 (.tmp (113 : Nat)) (.tmp (114 : Nat)) 3, none⟩,
  ⟨(some 116), .move (.tmp (17 : Nat)), none⟩,
  ⟨(some 117), .binOp .quo 3 (.tmp (115 : Nat)) (.tmp (116 : Nat)) 3, none⟩,
  ⟨(some 4), .assign (.tmp (108 : Nat)), none⟩,
  ⟨(some 5), .assign (.tmp (117 : Nat)), none⟩,
  ⟨(some 6), .assign (.const (.int .i64 0)), none⟩]
def screen_Moire_a19 : List (List Nat) := [[], [], [0, 1], [], [], [3, 4], [], [5, 6], [], [7, 8], [], [9, 10], [2, 0, 1, 2], [11, 12, 0, 1, 2, 3, 4, 5, 6, 7, 8, 9, 10, 11, 12], [13, 0, 1, 2, 3, 4, 5, 6, 7, 8, 9, 10, 11, 12, 13]]
def screen_Moire_c : SF := ⟨118, (.seq (.reg screen_Moire_r0)
  (.seq (.seq (.reg screen_Moire_r1)
  (.seq (.reg screen_Moire_r2)
  (.cond (.tmp (23 : Nat)) (.seq (.reg screen_Moire_r3)
  .ret) .skip)))
  (.seq (.seq (.reg screen_Moire_r4)
  (.seq (.reg screen_Moire_r5)
  (.cond (.tmp (28 : Nat)) (.seq (.reg screen_Moire_r6)
  .ret) .skip)))
  (.seq (.regd screen_Moire_r7 screen_Moire_a7)
  (.seq (.reg screen_Moire_r8)
  (.seq (.regd screen_Moire_r9 screen_Moire_a9)
  (.seq (.seq (.reg screen_Moire_r10)
  (.block 0 (.loop (.seq (.reg screen_Moire_r11)
  (.seq (.cond (.tmp (57 : Nat)) .skip (.exit 0))
  (.seq (.block 1 (.seq (.regd screen_Moire_r12 screen_Moire_a12)
  (.seq (.seq (.reg screen_Moire_r13)
  (.seq (.reg screen_Moire_r14)
  (.cond (.tmp (87 : Nat)) (.reg screen_Moire_r15) .skip)))
  (.reg screen_Moire_r16))))
  (.reg screen_Moire_r17)))))))
  (.seq (.reg screen_Moire_r18)
  (.seq (.regd screen_Moire_r19 screen_Moire_a19)
  .ret))))))))), [.tmp 4, .tmp 5, .tmp 6]⟩
theorem screen_Moire_s : slimF Try.prog 85 = some screen_Moire_c := by kernel_rfl
abbrev screen_Moire_f : Nat := 85
/-- printworks/screen.Check -/
def screen_Check_r0 : List SO := [⟨(some 1), .box 84 (.tmp (0 : Nat)), none⟩,
  ⟨(some 2), .assign (.const (.int .i64 0)), none⟩]
def screen_Check_r1 : List SO := [⟨(some 4), .fieldAddr 84 (.tmp (1 : Nat)) 0, none⟩,
  ⟨(some 5), .load 3 (.tmp (4 : Nat)), none⟩,
  ⟨(some 6), .binOp .lss 3 (.tmp (5 : Nat)) (.const (.int .i64 0)) 3, none⟩,
  ⟨(some 7), .move (.tmp (6 : Nat)), none⟩,
  ⟨(some 8), .fieldAddr 84 (.tmp (1 : Nat)) 0, (some (7, false))⟩,
  ⟨(some 9), .load 3 (.tmp (8 : Nat)), (some (7, false))⟩,
  ⟨(some 10), .binOp .gtr 3 (.tmp (9 : Nat)) (.const (.int .i64 20)) 3, (some (7, false))⟩,
  ⟨(some 11), .pick (.tmp (7 : Nat)) (.const (.bool true)) (.tmp (10 : Nat)), none⟩,
  ⟨(some 12), .move (.tmp (11 : Nat)), none⟩,
  ⟨(some 13), .fieldAddr 84 (.tmp (1 : Nat)) 1, (some (12, false))⟩,
  ⟨(some 14), .load 3 (.tmp (13 : Nat)), (some (12, false))⟩,
  ⟨(some 15), .binOp .lss 3 (.tmp (14 : Nat)) (.const (.int .i64 0)) 3, (some (12, false))⟩,
  ⟨(some 16), .pick (.tmp (12 : Nat)) (.const (.bool true)) (.tmp (15 : Nat)), none⟩,
  ⟨(some 17), .move (.tmp (16 : Nat)), none⟩,
  ⟨(some 18), .fieldAddr 84 (.tmp (1 : Nat)) 1, (some (17, false))⟩,
  ⟨(some 19), .load 3 (.tmp (18 : Nat)), (some (17, false))⟩,
  ⟨(some 20), .binOp .gtr 3 (.tmp (19 : Nat)) (.const (.int .i64 20)) 3, (some (17, false))⟩,
  ⟨(some 21), .pick (.tmp (17 : Nat)) (.const (.bool true)) (.tmp (20 : Nat)), none⟩,
  ⟨(some 22), .move (.tmp (21 : Nat)), none⟩,
  ⟨(some 23), .fieldAddr 84 (.tmp (1 : Nat)) 2, (some (22, false))⟩,
  ⟨(some 24), .load 3 (.tmp (23 : Nat)), (some (22, false))⟩,
  ⟨(some 25), .binOp .lss 3 (.tmp (24 : Nat)) (.const (.int .i64 0)) 3, (some (22, false))⟩,
  ⟨(some 26), .pick (.tmp (22 : Nat)) (.const (.bool true)) (.tmp (25 : Nat)), none⟩,
  ⟨(some 27), .move (.tmp (26 : Nat)), none⟩,
  ⟨(some 28), .fieldAddr 84 (.tmp (1 : Nat)) 2, (some (27, false))⟩,
  ⟨(some 29), .load 3 (.tmp (28 : Nat)), (some (27, false))⟩,
  ⟨(some 30), .binOp .gtr 3 (.tmp (29 : Nat)) (.const (.int .i64 3)) 3, (some (27, false))⟩,
  ⟨(some 31), .pick (.tmp (27 : Nat)) (.const (.bool true)) (.tmp (30 : Nat)), none⟩]
def screen_Check_r2 : List SO := [⟨(some 2), .assign (.const (.int .i64 3)), none⟩]
def screen_Check_r3 : List SO := [⟨(some 32), .fieldAddr 84 (.tmp (1 : Nat)) 0, none⟩,
  ⟨(some 33), .load 3 (.tmp (32 : Nat)), none⟩,
  ⟨(some 34), .fieldAddr 84 (.tmp (1 : Nat)) 0, none⟩,
  ⟨(some 35), .load 3 (.tmp (34 : Nat)), none⟩,
  ⟨(some 36), .binOp .mul 3 (.tmp (33 : Nat)) (.tmp (35 : Nat)) 3, none⟩,
  ⟨(some 37), .fieldAddr 84 (.tmp (1 : Nat)) 1, none⟩,
  ⟨(some 38), .load 3 (.tmp (37 : Nat)), none⟩,
  ⟨(some 39), .fieldAddr 84 (.tmp (1 : Nat)) 1, none⟩,
  ⟨(some 40), .load 3 (.tmp (39 : Nat)), none⟩,
  ⟨(some 41), .binOp .mul 3 (.tmp (38 : Nat)) (.tmp (40 : Nat)) 3, none⟩,
  ⟨(some 42), .binOp .add 3 (.tmp (36 : Nat)) (.tmp (41 : Nat)) 3, none⟩,
  ⟨(some 3), .assign (.tmp (42 : Nat)), none⟩]
def screen_Check_r4 : List SO := [⟨(some 44), .move (.tmp (3 : Nat)), none⟩,
  ⟨(some 45), .binOp .eql 3 (.tmp (44 : Nat)) (.const (.int .i64 0)) 3, none⟩,
  ⟨(some 43), .assign (.tmp (45 : Nat)), none⟩]
def screen_Check_r5 : List SO := [⟨(some 2), .assign (.const (.int .i64 1)), none⟩]
def screen_Check_r6 : List SO := [⟨(some 47), .move (.tmp (3 : Nat)), none⟩,
  ⟨(some 48), .binOp .gtr 3 (.tmp (47 : Nat)) (.const (.int .i64 400)) 3, none⟩,
  ⟨(some 46), .assign (.tmp (48 : Nat)), none⟩]
def screen_Check_r7 : List SO := [⟨(some 2), .assign (.const (.int .i64 2)), none⟩]
def screen_Check_r8 : List SO := [⟨(some 2), .assign (.const (.int .i64 0)), none⟩]
def screen_Check_c : SF := ⟨49, (.seq (.reg screen_Check_r0)
  (.seq (.seq (.reg screen_Check_r1)
  (.cond (.tmp (31 : Nat)) (.seq (.reg screen_Check_r2)
  .ret) .skip))
  (.seq (.seq (.reg screen_Check_r3)
  (.block 0 (.seq (.reg screen_Check_r4)
  (.cond (.tmp (43 : Nat)) (.seq (.reg screen_Check_r5)
  .ret) (.seq (.reg screen_Check_r6)
  (.cond (.tmp (46 : Nat)) (.seq (.reg screen_Check_r7)
  .ret) .skip))))))
  (.seq (.reg screen_Check_r8)
  .ret)))), [.tmp 2]⟩
theorem screen_Check_s : slimF Try.prog 86 = some screen_Check_c := by kernel_rfl
abbrev screen_Check_f : Nat := 86
/-- printworks/screen.Of -/
def screen_Of_r0 : List SO := [⟨(some 1), .box 84 (.tmp (0 : Nat)), none⟩,
  ⟨(some 2), .alloc 150, none⟩]
def screen_Of_r1 : List SO := [⟨(some 8), .fieldAddr 84 (.tmp (1 : Nat)) 0, none⟩,
  ⟨(some 9), .load 3 (.tmp (8 : Nat)), none⟩,
  ⟨(some 10), .fieldAddr 84 (.tmp (1 : Nat)) 1, none⟩,
  ⟨(some 11), .load 3 (.tmp (10 : Nat)), none⟩,
  ⟨(some 12), .call ⟨(.value (.func (90 : Nat))), #[(.tmp (9 : Nat)), (.tmp (11 : Nat))], #[3, 3]⟩, none⟩,
  ⟨(some 7), .move (.tmp (12 : Nat)), none⟩,
  ⟨(some 13), .extract (.tmp (7 : Nat)) 0, none⟩,
  ⟨(some 14), .extract (.tmp (7 : Nat)) 1, none⟩,
  ⟨(some 15), .extract (.tmp (7 : Nat)) 2, none⟩,
  ⟨(some 3), .assign (.tmp (13 : Nat)), none⟩,
  ⟨(some 4), .assign (.tmp (14 : Nat)), none⟩,
  ⟨(some 5), .assign (.tmp (15 : Nat)), none⟩]
def screen_Of_r2 : List SO := [⟨(some 16), .fieldAddr 84 (.tmp (1 : Nat)) 0, none⟩,
  ⟨(some 17), .load 3 (.tmp (16 : Nat)), none⟩,
  ⟨(some 18), .fieldAddr 84 (.tmp (1 : Nat)) 0, none⟩,
  ⟨(some 19), .load 3 (.tmp (18 : Nat)), none⟩,
  ⟨(some 20), .binOp .mul 3 (.tmp (17 : Nat)) (.tmp (19 : Nat)) 3, none⟩,
  ⟨(some 21), .fieldAddr 84 (.tmp (1 : Nat)) 1, none⟩,
  ⟨(some 22), .load 3 (.tmp (21 : Nat)), none⟩,
  ⟨(some 23), .fieldAddr 84 (.tmp (1 : Nat)) 1, none⟩,
  ⟨(some 24), .load 3 (.tmp (23 : Nat)), none⟩,
  ⟨(some 25), .binOp .mul 3 (.tmp (22 : Nat)) (.tmp (24 : Nat)) 3, none⟩,
  ⟨(some 26), .binOp .add 3 (.tmp (20 : Nat)) (.tmp (25 : Nat)) 3, none⟩,
  ⟨(some 27), .move (.tmp (3 : Nat)), none⟩,
  ⟨(some 28), .binOp .quo 3 (.tmp (26 : Nat)) (.tmp (27 : Nat)) 3, none⟩,
  ⟨(some 6), .assign (.tmp (28 : Nat)), none⟩]
def screen_Of_r3 : List SO := [⟨(some 29), .move (.tmp (6 : Nat)), none⟩,
  ⟨(some 30), .move (.tmp (5 : Nat)), none⟩,
  ⟨(some 31), .fieldAddr 84 (.tmp (1 : Nat)) 0, none⟩,
  ⟨(some 32), .load 3 (.tmp (31 : Nat)), none⟩,
  ⟨(some 33), .binOp .mul 3 (.tmp (30 : Nat)) (.tmp (32 : Nat)) 3, none⟩,
  ⟨(some 34), .move (.tmp (4 : Nat)), none⟩,
  ⟨(some 35), .fieldAddr 84 (.tmp (1 : Nat)) 1, none⟩,
  ⟨(some 36), .load 3 (.tmp (35 : Nat)), none⟩,
  ⟨(some 37), .binOp .mul 3 (.tmp (34 : Nat)) (.tmp (36 : Nat)) 3, none⟩,
  ⟨(some 38), .binOp .sub 3 (.tmp (33 : Nat)) (.tmp (37 : Nat)) 3, none⟩,
  ⟨(some 39), .move (.tmp (6 : Nat)), none⟩,
  ⟨(some 40), .call ⟨(.value (.func (91 : Nat))), #[(.tmp (38 : Nat)), (.tmp (39 : Nat))], #[3, 3]⟩, none⟩,
  ⟨(some 41), .move (.tmp (3 : Nat)), none⟩,
  ⟨(some 42), .build 150 #[(0, (.tmp (29 : Nat))), (1, (.tmp (40 : Nat))), (2, (.tmp (41 : Nat)))], none⟩,
  ⟨none, .store 150 (.tmp (2 : Nat)) (.tmp (42 : Nat)), none⟩]
def screen_Of_c : SF := ⟨43, (.seq (.reg screen_Of_r0)
  (.seq (.reg screen_Of_r1)
  (.seq (.reg screen_Of_r2)
  (.seq (.reg screen_Of_r3)
  .ret)))), [.cell 2 150]⟩
theorem screen_Of_s : slimF Try.prog 87 = some screen_Of_c := by kernel_rfl
abbrev screen_Of_f : Nat := 87
/-- printworks/screen.far -/
def screen_far_r0 : List SO := [⟨(some 4), .assign (.const (.bool false)), none⟩]
def screen_far_r1 : List SO := [⟨(some 5), .move (.tmp (0 : Nat)), none⟩,
  ⟨(some 6), .binOp .lss 3 (.tmp (5 : Nat)) (.const (.int .i64 (-1048576))) 3, none⟩,
  ⟨(some 7), .move (.tmp (6 : Nat)), none⟩,
  ⟨(some 8), .move (.tmp (0 : Nat)), (some (7, false))⟩,
  ⟨(some 9), .binOp .gtr 3 (.tmp (8 : Nat)) (.const (.int .i64 1048576)) 3, (some (7, false))⟩,
  ⟨(some 10), .pick (.tmp (7 : Nat)) (.const (.bool true)) (.tmp (9 : Nat)), none⟩,
  ⟨(some 11), .move (.tmp (10 : Nat)), none⟩,
  ⟨(some 12), .move (.tmp (1 : Nat)), (some (11, false))⟩,
  ⟨(some 13), .binOp .lss 3 (.tmp (12 : Nat)) (.const (.int .i64 (-1048576))) 3, (some (11, false))⟩,
  ⟨(some 14), .pick (.tmp (11 : Nat)) (.const (.bool true)) (.tmp (13 : Nat)), none⟩,
  ⟨(some 15), .move (.tmp (14 : Nat)), none⟩,
  ⟨(some 16), .move (.tmp (1 : Nat)), (some (15, false))⟩,
  ⟨(some 17), .binOp .gtr 3 (.tmp (16 : Nat)) (.const (.int .i64 1048576)) 3, (some (15, false))⟩,
  ⟨(some 18), .pick (.tmp (15 : Nat)) (.const (.bool true)) (.tmp (17 : Nat)), none⟩,
  ⟨(some 4), .assign (.tmp (18 : Nat)), none⟩]
def screen_far_c : SF := ⟨19, (.seq (.reg screen_far_r0)
  (.seq (.reg screen_far_r1)
  .ret)), [.tmp 4]⟩
theorem screen_far_s : slimF Try.prog 88 = some screen_far_c := by kernel_rfl
abbrev screen_far_f : Nat := 88
/-- (printworks/screen.Form).Place -/
def _screen_Form__Place_r0 : List SO := [⟨(some 3), .box 150 (.tmp (0 : Nat)), none⟩,
  ⟨(some 6), .assign (.const (.int .i64 0)), none⟩]
def _screen_Form__Place_r1 : List SO := [⟨(some 9), .move (.tmp (2 : Nat)), none⟩,
  ⟨(some 10), .fieldAddr 150 (.tmp (3 : Nat)) 2, none⟩,
  ⟨(some 11), .load 3 (.tmp (10 : Nat)), none⟩,
  ⟨(some 12), .call ⟨(.value (.func (91 : Nat))), #[(.tmp (9 : Nat)), (.tmp (11 : Nat))], #[3, 3]⟩, none⟩,
  ⟨(some 7), .assign (.tmp (12 : Nat)), none⟩]
def _screen_Form__Place_r2 : List SO := [⟨(some 13), .move (.tmp (2 : Nat)), none⟩,
  ⟨(some 14), .move (.tmp (7 : Nat)), none⟩,
  ⟨(some 15), .binOp .sub 3 (.tmp (13 : Nat)) (.tmp (14 : Nat)) 3, none⟩,
  ⟨(some 16), .fieldAddr 150 (.tmp (3 : Nat)) 2, none⟩,
  ⟨(some 17), .load 3 (.tmp (16 : Nat)), none⟩,
  ⟨(some 18), .binOp .quo 3 (.tmp (15 : Nat)) (.tmp (17 : Nat)) 3, none⟩,
  ⟨(some 8), .assign (.tmp (18 : Nat)), none⟩]
def _screen_Form__Place_r3 : List SO := [⟨(some 19), .move (.tmp (7 : Nat)), none⟩,
  ⟨(some 20), .fieldAddr 150 (.tmp (3 : Nat)) 0, none⟩,
  ⟨(some 21), .load 3 (.tmp (20 : Nat)), none⟩,
  ⟨(some 22), .binOp .mul 3 (.tmp (19 : Nat)) (.tmp (21 : Nat)) 3, none⟩,
  ⟨(some 23), .move (.tmp (1 : Nat)), none⟩,
  ⟨(some 24), .move (.tmp (8 : Nat)), none⟩,
  ⟨(some 25), .fieldAddr 150 (.tmp (3 : Nat)) 0, none⟩,
  ⟨(some 26), .load 3 (.tmp (25 : Nat)), none⟩,
  ⟨(some 27), .call ⟨(.value (.func (91 : Nat))), #[(.tmp (24 : Nat)), (.tmp (26 : Nat))], #[3, 3]⟩, none⟩,
  ⟨(some 28), .fieldAddr 150 (.tmp (3 : Nat)) 1, none⟩,
  ⟨(some 29), .load 3 (.tmp (28 : Nat)), none⟩,
  ⟨(some 30), .binOp .mul 3 (.tmp (27 : Nat)) (.tmp (29 : Nat)) 3, none⟩,
  ⟨(some 31), .binOp .sub 3 (.tmp (23 : Nat)) (.tmp (30 : Nat)) 3, none⟩,
  ⟨(some 32), .fieldAddr 150 (.tmp (3 : Nat)) 0, none⟩,
  ⟨(some 33), .load 3 (.tmp (32 : Nat)), none⟩,
  ⟨(some 34), .call ⟨(.value (.func (91 : Nat))), #[(.tmp (31 : Nat)), (.tmp (33 : Nat))], #[3, 3]⟩, none⟩,
  ⟨(some 35), .binOp .add 3 (.tmp (22 : Nat)) (.tmp (34 : Nat)) 3, none⟩,
  ⟨(some 6), .assign (.tmp (35 : Nat)), none⟩]
def _screen_Form__Place_a3 : List (List Nat) := [[], [], [1], [0, 2], [], [], [], [6], [5, 7], [], [9], [8, 10], [4, 11], [], [13], [12, 14, 8], [3, 15], [16, 15, 0, 1, 2, 3, 4, 5, 6, 7, 8, 9, 10, 11, 12, 13, 14, 15, 16]]
def _screen_Form__Place_c : SF := ⟨36, (.seq (.reg _screen_Form__Place_r0)
  (.seq (.reg _screen_Form__Place_r1)
  (.seq (.reg _screen_Form__Place_r2)
  (.seq (.regd _screen_Form__Place_r3 _screen_Form__Place_a3)
  .ret)))), [.tmp 6]⟩
theorem _screen_Form__Place_s : slimF Try.prog 89 = some _screen_Form__Place_c := by kernel_rfl
abbrev _screen_Form__Place_f : Nat := 89
/-- printworks/screen.bezout -/
def screen_bezout_r0 : List SO := [⟨(some 4), .assign (.const (.int .i64 0)), none⟩,
  ⟨(some 5), .assign (.const (.int .i64 0)), none⟩,
  ⟨(some 6), .assign (.const (.int .i64 0)), none⟩]
def screen_bezout_r1 : List SO := [⟨(some 7), .move (.tmp (1 : Nat)), none⟩,
  ⟨(some 8), .binOp .eql 3 (.tmp (7 : Nat)) (.const (.int .i64 0)) 3, none⟩]
def screen_bezout_r2 : List SO := [⟨(some 9), .move (.tmp (0 : Nat)), none⟩,
  ⟨(some 4), .assign (.tmp (9 : Nat)), none⟩,
  ⟨(some 5), .assign (.const (.int .i64 1)), none⟩,
  ⟨(some 6), .assign (.const (.int .i64 0)), none⟩]
def screen_bezout_r3 : List SO := [⟨(some 11), .move (.tmp (1 : Nat)), none⟩,
  ⟨(some 12), .move (.tmp (0 : Nat)), none⟩,
  ⟨(some 13), .move (.tmp (1 : Nat)), none⟩,
  ⟨(some 14), .binOp .rem 3 (.tmp (12 : Nat)) (.tmp (13 : Nat)) 3, none⟩,
  ⟨(some 15), .call ⟨(.value (.func (90 : Nat))), #[(.tmp (11 : Nat)), (.tmp (14 : Nat))], #[3, 3]⟩, none⟩,
  ⟨(some 10), .move (.tmp (15 : Nat)), none⟩,
  ⟨(some 16), .extract (.tmp (10 : Nat)) 0, none⟩,
  ⟨(some 17), .extract (.tmp (10 : Nat)) 1, none⟩,
  ⟨(some 18), .extract (.tmp (10 : Nat)) 2, none⟩,
  ⟨(some 4), .assign (.tmp (16 : Nat)), none⟩,
  ⟨(some 5), .assign (.tmp (17 : Nat)), none⟩,
  ⟨(some 6), .assign (.tmp (18 : Nat)), none⟩]
def screen_bezout_r4 : List SO := [⟨(some 19), .move (.tmp (4 : Nat)), none⟩,
  ⟨(some 20), .move (.tmp (6 : Nat)), none⟩,
  ⟨(some 21), .move (.tmp (5 : Nat)), none⟩,
  ⟨(some 22), .move (.tmp (0 : Nat)), none⟩,
  ⟨(some 23), .move (.tmp (1 : Nat)), none⟩,
  ⟨(some 24), .binOp .quo 3 (.tmp (22 : Nat)) (.tmp (23 : Nat)) 3, none⟩,
  ⟨(some 25), .move (.tmp (6 : Nat)), none⟩,
  ⟨(some 26), .binOp .mul 3 (.tmp (24 : Nat)) (.tmp (25 : Nat)) 3, none⟩,
  ⟨(some 27), .binOp .sub 3 (.tmp (21 : Nat)) (.tmp (26 : Nat)) 3, none⟩,
  ⟨(some 4), .assign (.tmp (19 : Nat)), none⟩,
  ⟨(some 5), .assign (.tmp (20 : Nat)), none⟩,
  ⟨(some 6), .assign (.tmp (27 : Nat)), none⟩]
def screen_bezout_a4 : List (List Nat) := [[], [], [], [], [], [3, 4], [], [5, 6], [2, 7], [0, 0, 2], [1, 9, 0, 1, 2, 9], [8, 10, 0, 1, 2, 3, 4, 5, 6, 7, 8, 9, 10]]
def screen_bezout_c : SF := ⟨28, (.seq (.reg screen_bezout_r0)
  (.seq (.seq (.reg screen_bezout_r1)
  (.cond (.tmp (8 : Nat)) (.seq (.reg screen_bezout_r2)
  .ret) .skip))
  (.seq (.reg screen_bezout_r3)
  (.seq (.regd screen_bezout_r4 screen_bezout_a4)
  .ret)))), [.tmp 4, .tmp 5, .tmp 6]⟩
theorem screen_bezout_s : slimF Try.prog 90 = some screen_bezout_c := by kernel_rfl
abbrev screen_bezout_f : Nat := 90
/-- printworks/screen.mod -/
def screen_mod_r0 : List SO := [⟨(some 4), .assign (.const (.int .i64 0)), none⟩]
def screen_mod_r1 : List SO := [⟨(some 5), .move (.tmp (0 : Nat)), none⟩,
  ⟨(some 6), .move (.tmp (1 : Nat)), none⟩,
  ⟨(some 7), .binOp .rem 3 (.tmp (5 : Nat)) (.tmp (6 : Nat)) 3, none⟩,
  ⟨(some 0), .assign (.tmp (7 : Nat)), none⟩]
def screen_mod_r2 : List SO := [⟨(some 8), .move (.tmp (0 : Nat)), none⟩,
  ⟨(some 9), .binOp .lss 3 (.tmp (8 : Nat)) (.const (.int .i64 0)) 3, none⟩]
def screen_mod_r3 : List SO := [⟨(some 10), .move (.tmp (0 : Nat)), none⟩,
  ⟨(some 11), .move (.tmp (1 : Nat)), none⟩,
  ⟨(some 12), .binOp .add 3 (.tmp (10 : Nat)) (.tmp (11 : Nat)) 3, none⟩,
  ⟨(some 0), .assign (.tmp (12 : Nat)), none⟩]
def screen_mod_r4 : List SO := [⟨(some 13), .move (.tmp (0 : Nat)), none⟩,
  ⟨(some 4), .assign (.tmp (13 : Nat)), none⟩]
def screen_mod_c : SF := ⟨14, (.seq (.reg screen_mod_r0)
  (.seq (.seq (.reg screen_mod_r1)
  (.seq (.reg screen_mod_r2)
  (.cond (.tmp (9 : Nat)) (.reg screen_mod_r3) .skip)))
  (.seq (.reg screen_mod_r4)
  .ret))), [.tmp 4]⟩
theorem screen_mod_s : slimF Try.prog 91 = some screen_mod_c := by kernel_rfl
abbrev screen_mod_f : Nat := 91
/-- printworks/screen.Ranks -/
def screen_Ranks_r0 : List SO := [⟨(some 1), .box 84 (.tmp (0 : Nat)), none⟩,
  ⟨(some 2), .assign (.const (.slice none 0 0)), none⟩]
def screen_Ranks_r1 : List SO := [⟨(some 11), .load 84 (.tmp (1 : Nat)), none⟩,
  ⟨(some 12), .call ⟨(.value (.func (87 : Nat))), #[(.tmp (11 : Nat))], #[84]⟩, none⟩,
  ⟨(some 3), .alloc 150, none⟩,
  ⟨none, .store 150 (.tmp (3 : Nat)) (.tmp (12 : Nat)), none⟩]
def screen_Ranks_r2 : List SO := [⟨(some 13), .fieldAddr 84 (.tmp (1 : Nat)) 0, none⟩,
  ⟨(some 14), .load 3 (.tmp (13 : Nat)), none⟩,
  ⟨(some 15), .fieldAddr 84 (.tmp (1 : Nat)) 0, none⟩,
  ⟨(some 16), .load 3 (.tmp (15 : Nat)), none⟩,
  ⟨(some 17), .binOp .mul 3 (.tmp (14 : Nat)) (.tmp (16 : Nat)) 3, none⟩,
  ⟨(some 18), .fieldAddr 84 (.tmp (1 : Nat)) 1, none⟩,
  ⟨(some 19), .load 3 (.tmp (18 : Nat)), none⟩,
  ⟨(some 20), .fieldAddr 84 (.tmp (1 : Nat)) 1, none⟩,
  ⟨(some 21), .load 3 (.tmp (20 : Nat)), none⟩,
  ⟨(some 22), .binOp .mul 3 (.tmp (19 : Nat)) (.tmp (21 : Nat)) 3, none⟩,
  ⟨(some 23), .binOp .add 3 (.tmp (17 : Nat)) (.tmp (22 : Nat)) 3, none⟩,
  ⟨(some 4), .assign (.tmp (23 : Nat)), none⟩]
def screen_Ranks_r3 : List SO := [⟨(some 24), .move (.tmp (4 : Nat)), none⟩,
  ⟨(some 25), .makeSlice 22 (.tmp (24 : Nat)) (.tmp (24 : Nat)), none⟩,
  ⟨(some 5), .assign (.tmp (25 : Nat)), none⟩]
def screen_Ranks_r4 : List SO := [⟨(some 26), .move (.tmp (5 : Nat)), none⟩,
  ⟨(some 27), .call ⟨(.builtin .len), #[(.tmp (26 : Nat))], #[22]⟩, none⟩,
  ⟨(some 28), .move (.const (.int .i64 0)), none⟩]
def screen_Ranks_r5 : List SO := [⟨(some 29), .binOp .lss 3 (.tmp (28 : Nat)) (.tmp (27 : Nat)) 3, none⟩]
def screen_Ranks_r6 : List SO := [⟨(some 30), .move (.tmp (28 : Nat)), none⟩,
  ⟨(some 6), .assign (.tmp (30 : Nat)), none⟩]
def screen_Ranks_r7 : List SO := [⟨(some 31), .move (.tmp (5 : Nat)), none⟩,
  ⟨(some 32), .move (.tmp (6 : Nat)), none⟩,
  ⟨(some 33), .move (.tmp (6 : Nat)), none⟩,
  ⟨(some 34), .indexAddr 22 (.tmp (31 : Nat)) (.tmp (32 : Nat)), none⟩,
  ⟨none, .store 3 (.tmp (34 : Nat)) (.tmp (33 : Nat)), none⟩]
def screen_Ranks_r8 : List SO := [⟨(some 35), .binOp .add 3 (.tmp (28 : Nat)) (.const (.int .i64 1)) 3, none⟩,
  ⟨(some 28), .move (.tmp (35 : Nat)), none⟩]
def screen_Ranks_r9 : List SO := [⟨(some 36), .makeFunc (.func (107 : Nat)) #[] #[(.tmp (1 : Nat)), (.tmp (3 : Nat))], none⟩,
  ⟨(some 7), .alloc 181, none⟩,
  ⟨none, .store 181 (.tmp (7 : Nat)) (.tmp (36 : Nat)), none⟩]
def screen_Ranks_r10 : List SO := [⟨(some 37), .fieldAddr 84 (.tmp (1 : Nat)) 2, none⟩,
  ⟨(some 38), .load 3 (.tmp (37 : Nat)), none⟩,
  ⟨(some 39), .binOp .eql 3 (.tmp (38 : Nat)) (.const (.int .i64 3)) 3, none⟩]
def screen_Ranks_r11 : List SO := [⟨(some 40), .load 84 (.tmp (1 : Nat)), none⟩,
  ⟨(some 41), .load 150 (.tmp (3 : Nat)), none⟩,
  ⟨(some 42), .call ⟨(.value (.func (109 : Nat))), #[(.tmp (40 : Nat)), (.tmp (41 : Nat))], #[84, 150]⟩, none⟩,
  ⟨(some 5), .assign (.tmp (42 : Nat)), none⟩]
def screen_Ranks_r12 : List SO := [⟨(some 43), .move (.tmp (5 : Nat)), none⟩,
  ⟨(some 44), .makeFunc (.func (111 : Nat)) #[] #[(.tmp (7 : Nat))], none⟩,
  ⟨(some 45), .call ⟨(.value (.func (110 : Nat))), #[(.tmp (43 : Nat)), (.tmp (44 : Nat))], #[22, 28]⟩, none⟩]
def screen_Ranks_r13 : List SO := [⟨(some 46), .move (.tmp (4 : Nat)), none⟩,
  ⟨(some 47), .makeSlice 22 (.tmp (46 : Nat)) (.tmp (46 : Nat)), none⟩,
  ⟨(some 8), .assign (.tmp (47 : Nat)), none⟩]
def screen_Ranks_r14 : List SO := [⟨(some 48), .move (.tmp (5 : Nat)), none⟩,
  ⟨(some 49), .call ⟨(.builtin .len), #[(.tmp (48 : Nat))], #[22]⟩, none⟩,
  ⟨(some 50), .move (.const (.int .i64 0)), none⟩]
def screen_Ranks_r15 : List SO := [⟨(some 51), .binOp .lss 3 (.tmp (50 : Nat)) (.tmp (49 : Nat)) 3, none⟩]
def screen_Ranks_r16 : List SO := [⟨(some 52), .move (.tmp (50 : Nat)), none⟩,
  ⟨(some 53), .indexAddr 22 (.tmp (48 : Nat)) (.tmp (50 : Nat)), none⟩,
  ⟨(some 54), .load 3 (.tmp (53 : Nat)), none⟩,
  ⟨(some 9), .assign (.tmp (52 : Nat)), none⟩,
  ⟨(some 10), .assign (.tmp (54 : Nat)), none⟩]
def screen_Ranks_r17 : List SO := [⟨(some 55), .move (.tmp (8 : Nat)), none⟩,
  ⟨(some 56), .move (.tmp (10 : Nat)), none⟩,
  ⟨(some 57), .move (.tmp (9 : Nat)), none⟩,
  ⟨(some 58), .indexAddr 22 (.tmp (55 : Nat)) (.tmp (56 : Nat)), none⟩,
  ⟨none, .store 3 (.tmp (58 : Nat)) (.tmp (57 : Nat)), none⟩]
def screen_Ranks_r18 : List SO := [⟨(some 59), .binOp .add 3 (.tmp (50 : Nat)) (.const (.int .i64 1)) 3, none⟩,
  ⟨(some 50), .move (.tmp (59 : Nat)), none⟩]
def screen_Ranks_r19 : List SO := [⟨(some 60), .move (.tmp (8 : Nat)), none⟩,
  ⟨(some 2), .assign (.tmp (60 : Nat)), none⟩]
def screen_Ranks_c : SF := ⟨61, (.seq (.reg screen_Ranks_r0)
  (.seq (.reg screen_Ranks_r1)
  (.seq (.reg screen_Ranks_r2)
  (.seq (.reg screen_Ranks_r3)
  (.seq (.seq (.reg screen_Ranks_r4)
  (.block 0 (.loop (.seq (.reg screen_Ranks_r5)
  (.seq (.cond (.tmp (29 : Nat)) .skip (.exit 0))
  (.seq (.block 1 (.seq (.reg screen_Ranks_r6)
  (.reg screen_Ranks_r7)))
  (.reg screen_Ranks_r8)))))))
  (.seq (.reg screen_Ranks_r9)
  (.seq (.seq (.reg screen_Ranks_r10)
  (.cond (.tmp (39 : Nat)) (.reg screen_Ranks_r11) (.reg screen_Ranks_r12)))
  (.seq (.reg screen_Ranks_r13)
  (.seq (.seq (.reg screen_Ranks_r14)
  (.block 2 (.loop (.seq (.reg screen_Ranks_r15)
  (.seq (.cond (.tmp (51 : Nat)) .skip (.exit 2))
  (.seq (.block 3 (.seq (.reg screen_Ranks_r16)
  (.reg screen_Ranks_r17)))
  (.reg screen_Ranks_r18)))))))
  (.seq (.reg screen_Ranks_r19)
  .ret)))))))))), [.tmp 2]⟩
theorem screen_Ranks_s : slimF Try.prog 104 = some screen_Ranks_c := by kernel_rfl
abbrev screen_Ranks_f : Nat := 104
/-- printworks/screen.Ranks$1 -/
def screen_Ranks_1_r0 : List SO := [⟨(some 4), .assign (.const (.int .i64 0)), none⟩,
  ⟨(some 5), .assign (.const (.int .i64 0)), none⟩]
def screen_Ranks_1_r1 : List SO := [⟨(some 9), .load 84 (.tmp (1 : Nat)), none⟩,
  ⟨(some 10), .load 150 (.tmp (2 : Nat)), none⟩,
  ⟨(some 11), .move (.tmp (0 : Nat)), none⟩,
  ⟨(some 12), .call ⟨(.value (.func (108 : Nat))), #[(.tmp (9 : Nat)), (.tmp (10 : Nat)), (.tmp (11 : Nat))], #[84, 150, 3]⟩, none⟩,
  ⟨(some 8), .move (.tmp (12 : Nat)), none⟩,
  ⟨(some 13), .extract (.tmp (8 : Nat)) 0, none⟩,
  ⟨(some 14), .extract (.tmp (8 : Nat)) 1, none⟩,
  ⟨(some 6), .assign (.tmp (13 : Nat)), none⟩,
  ⟨(some 7), .assign (.tmp (14 : Nat)), none⟩]
def screen_Ranks_1_r2 : List SO := [⟨(some 15), .fieldAddr 84 (.tmp (1 : Nat)) 2, none⟩,
  ⟨(some 16), .load 3 (.tmp (15 : Nat)), none⟩]
def screen_Ranks_1_r3 : List SO := [⟨(some 18), .binOp .eql 3 (.tmp (16 : Nat)) (.const (.int .i64 1)) 3, none⟩,
  ⟨(some 17), .assign (.tmp (18 : Nat)), none⟩]
def screen_Ranks_1_r4 : List SO := [⟨(some 19), .move (.tmp (7 : Nat)), none⟩,
  ⟨(some 20), .move (.tmp (6 : Nat)), none⟩,
  ⟨(some 4), .assign (.tmp (19 : Nat)), none⟩,
  ⟨(some 5), .assign (.tmp (20 : Nat)), none⟩]
def screen_Ranks_1_r5 : List SO := [⟨(some 22), .binOp .eql 3 (.tmp (16 : Nat)) (.const (.int .i64 2)) 3, none⟩,
  ⟨(some 21), .assign (.tmp (22 : Nat)), none⟩]
def screen_Ranks_1_r6 : List SO := [⟨(some 23), .move (.tmp (6 : Nat)), none⟩,
  ⟨(some 24), .move (.tmp (6 : Nat)), none⟩,
  ⟨(some 25), .binOp .mul 3 (.tmp (23 : Nat)) (.tmp (24 : Nat)) 3, none⟩,
  ⟨(some 26), .move (.tmp (7 : Nat)), none⟩,
  ⟨(some 27), .binOp .mul 3 (.const (.int .i64 2)) (.tmp (26 : Nat)) 3, none⟩,
  ⟨(some 28), .move (.tmp (7 : Nat)), none⟩,
  ⟨(some 29), .binOp .mul 3 (.tmp (27 : Nat)) (.tmp (28 : Nat)) 3, none⟩,
  ⟨(some 30), .binOp .add 3 (.tmp (25 : Nat)) (.tmp (29 : Nat)) 3, none⟩,
  ⟨(some 4), .assign (.tmp (30 : Nat)), none⟩,
  ⟨(some 5), .assign (.const (.int .i64 0)), none⟩]
def screen_Ranks_1_r7 : List SO := [⟨(some 31), .move (.tmp (6 : Nat)), none⟩,
  ⟨(some 32), .move (.tmp (6 : Nat)), none⟩,
  ⟨(some 33), .binOp .mul 3 (.tmp (31 : Nat)) (.tmp (32 : Nat)) 3, none⟩,
  ⟨(some 34), .move (.tmp (7 : Nat)), none⟩,
  ⟨(some 35), .move (.tmp (7 : Nat)), none⟩,
  ⟨(some 36), .binOp .mul 3 (.tmp (34 : Nat)) (.tmp (35 : Nat)) 3, none⟩,
  ⟨(some 37), .binOp .add 3 (.tmp (33 : Nat)) (.tmp (36 : Nat)) 3, none⟩,
  ⟨(some 4), .assign (.tmp (37 : Nat)), none⟩,
  ⟨(some 5), .assign (.const (.int .i64 0)), none⟩]
def screen_Ranks_1_c : SF := ⟨38, (.seq (.reg screen_Ranks_1_r0)
  (.seq (.reg screen_Ranks_1_r1)
  (.seq (.seq (.reg screen_Ranks_1_r2)
  (.block 0 (.seq (.reg screen_Ranks_1_r3)
  (.cond (.tmp (17 : Nat)) (.seq (.reg screen_Ranks_1_r4)
  .ret) (.seq (.reg screen_Ranks_1_r5)
  (.cond (.tmp (21 : Nat)) (.seq (.reg screen_Ranks_1_r6)
  .ret) .skip))))))
  (.seq (.reg screen_Ranks_1_r7)
  .ret)))), [.tmp 4, .tmp 5]⟩
theorem screen_Ranks_1_s : slimF Try.prog 107 = some screen_Ranks_1_c := by kernel_rfl
abbrev screen_Ranks_1_f : Nat := 107
/-- printworks/screen.scatter -/
def screen_scatter_r0 : List SO := [⟨(some 2), .box 84 (.tmp (0 : Nat)), none⟩,
  ⟨(some 3), .box 150 (.tmp (1 : Nat)), none⟩,
  ⟨(some 4), .assign (.const (.slice none 0 0)), none⟩]
def screen_scatter_r1 : List SO := [⟨(some 15), .fieldAddr 84 (.tmp (2 : Nat)) 0, none⟩,
  ⟨(some 16), .load 3 (.tmp (15 : Nat)), none⟩,
  ⟨(some 17), .fieldAddr 84 (.tmp (2 : Nat)) 0, none⟩,
  ⟨(some 18), .load 3 (.tmp (17 : Nat)), none⟩,
  ⟨(some 19), .binOp .mul 3 (.tmp (16 : Nat)) (.tmp (18 : Nat)) 3, none⟩,
  ⟨(some 20), .fieldAddr 84 (.tmp (2 : Nat)) 1, none⟩,
  ⟨(some 21), .load 3 (.tmp (20 : Nat)), none⟩,
  ⟨(some 22), .fieldAddr 84 (.tmp (2 : Nat)) 1, none⟩,
  ⟨(some 23), .load 3 (.tmp (22 : Nat)), none⟩,
  ⟨(some 24), .binOp .mul 3 (.tmp (21 : Nat)) (.tmp (23 : Nat)) 3, none⟩,
  ⟨(some 25), .binOp .add 3 (.tmp (19 : Nat)) (.tmp (24 : Nat)) 3, none⟩,
  ⟨(some 5), .assign (.tmp (25 : Nat)), none⟩]
def screen_scatter_r2 : List SO := [⟨(some 26), .move (.tmp (5 : Nat)), none⟩,
  ⟨(some 27), .makeSlice 22 (.tmp (26 : Nat)) (.tmp (26 : Nat)), none⟩,
  ⟨(some 6), .assign (.tmp (27 : Nat)), none⟩]
def screen_scatter_r3 : List SO := [⟨(some 28), .move (.tmp (6 : Nat)), none⟩,
  ⟨(some 29), .call ⟨(.builtin .len), #[(.tmp (28 : Nat))], #[22]⟩, none⟩,
  ⟨(some 30), .move (.const (.int .i64 0)), none⟩]
def screen_scatter_r4 : List SO := [⟨(some 31), .binOp .lss 3 (.tmp (30 : Nat)) (.tmp (29 : Nat)) 3, none⟩]
def screen_scatter_r5 : List SO := [⟨(some 32), .move (.tmp (30 : Nat)), none⟩,
  ⟨(some 7), .assign (.tmp (32 : Nat)), none⟩]
def screen_scatter_r6 : List SO := [⟨(some 33), .move (.tmp (6 : Nat)), none⟩,
  ⟨(some 34), .move (.tmp (7 : Nat)), none⟩,
  ⟨(some 35), .indexAddr 22 (.tmp (33 : Nat)) (.tmp (34 : Nat)), none⟩,
  ⟨none, .store 3 (.tmp (35 : Nat)) (.const (.int .i64 1099511627776)), none⟩]
def screen_scatter_r7 : List SO := [⟨(some 36), .binOp .add 3 (.tmp (30 : Nat)) (.const (.int .i64 1)) 3, none⟩,
  ⟨(some 30), .move (.tmp (36 : Nat)), none⟩]
def screen_scatter_r8 : List SO := [⟨(some 8), .assign (.const (.slice none 0 0)), none⟩]
def screen_scatter_r9 : List SO := [⟨(some 37), .move (.tmp (5 : Nat)), none⟩,
  ⟨(some 38), .move (.const (.int .i64 0)), none⟩]
def screen_scatter_r10 : List SO := [⟨(some 39), .binOp .lss 3 (.tmp (38 : Nat)) (.tmp (37 : Nat)) 3, none⟩]
def screen_scatter_r11 : List SO := [⟨(some 9), .assign (.const (.int .i64 (-1))), none⟩]
def screen_scatter_r12 : List SO := [⟨(some 40), .move (.tmp (6 : Nat)), none⟩,
  ⟨(some 41), .call ⟨(.builtin .len), #[(.tmp (40 : Nat))], #[22]⟩, none⟩,
  ⟨(some 42), .move (.const (.int .i64 0)), none⟩]
def screen_scatter_r13 : List SO := [⟨(some 43), .binOp .lss 3 (.tmp (42 : Nat)) (.tmp (41 : Nat)) 3, none⟩]
def screen_scatter_r14 : List SO := [⟨(some 44), .move (.tmp (42 : Nat)), none⟩,
  ⟨(some 45), .indexAddr 22 (.tmp (40 : Nat)) (.tmp (42 : Nat)), none⟩,
  ⟨(some 46), .load 3 (.tmp (45 : Nat)), none⟩,
  ⟨(some 10), .assign (.tmp (44 : Nat)), none⟩,
  ⟨(some 11), .assign (.tmp (46 : Nat)), none⟩]
def screen_scatter_r15 : List SO := [⟨(some 47), .move (.tmp (11 : Nat)), none⟩,
  ⟨(some 48), .binOp .gtr 3 (.tmp (47 : Nat)) (.const (.int .i64 0)) 3, none⟩,
  ⟨(some 49), .move (.tmp (48 : Nat)), none⟩,
  ⟨(some 50), .move (.tmp (9 : Nat)), (some (49, true))⟩,
  ⟨(some 51), .binOp .lss 3 (.tmp (50 : Nat)) (.const (.int .i64 0)) 3, (some (49, true))⟩,
  ⟨(some 52), .move (.tmp (51 : Nat)), (some (49, true))⟩,
  ⟨(some 53), .move (.tmp (11 : Nat)), (some (52, false))⟩,
  ⟨(some 54), .move (.tmp (6 : Nat)), (some (52, false))⟩,
  ⟨(some 55), .move (.tmp (9 : Nat)), (some (52, false))⟩,
  ⟨(some 56), .indexAddr 22 (.tmp (54 : Nat)) (.tmp (55 : Nat)), (some (52, false))⟩,
  ⟨(some 57), .load 3 (.tmp (56 : Nat)), (some (52, false))⟩,
  ⟨(some 58), .binOp .gtr 3 (.tmp (53 : Nat)) (.tmp (57 : Nat)) 3, (some (52, false))⟩,
  ⟨(some 59), .pick (.tmp (52 : Nat)) (.const (.bool true)) (.tmp (58 : Nat)), (some (49, true))⟩,
  ⟨(some 60), .pick (.tmp (49 : Nat)) (.tmp (59 : Nat)) (.const (.bool false)), none⟩]
def screen_scatter_r16 : List SO := [⟨(some 61), .move (.tmp (10 : Nat)), none⟩,
  ⟨(some 9), .assign (.tmp (61 : Nat)), none⟩]
def screen_scatter_r17 : List SO := [⟨(some 62), .binOp .add 3 (.tmp (42 : Nat)) (.const (.int .i64 1)) 3, none⟩,
  ⟨(some 42), .move (.tmp (62 : Nat)), none⟩]
def screen_scatter_r18 : List SO := [⟨(some 63), .move (.tmp (8 : Nat)), none⟩,
  ⟨(some 64), .move (.tmp (9 : Nat)), none⟩,
  ⟨(some 65), .buildSlice 22 1 #[(0, (.tmp (64 : Nat)))], none⟩,
  ⟨(some 66), .call ⟨(.builtin .append), #[(.tmp (63 : Nat)), (.tmp (65 : Nat))], #[22, 22]⟩, none⟩,
  ⟨(some 8), .assign (.tmp (66 : Nat)), none⟩]
def screen_scatter_r19 : List SO := [⟨(some 67), .move (.tmp (6 : Nat)), none⟩,
  ⟨(some 68), .call ⟨(.builtin .len), #[(.tmp (67 : Nat))], #[22]⟩, none⟩,
  ⟨(some 69), .move (.const (.int .i64 0)), none⟩]
def screen_scatter_r20 : List SO := [⟨(some 70), .binOp .lss 3 (.tmp (69 : Nat)) (.tmp (68 : Nat)) 3, none⟩]
def screen_scatter_r21 : List SO := [⟨(some 71), .move (.tmp (69 : Nat)), none⟩,
  ⟨(some 12), .assign (.tmp (71 : Nat)), none⟩]
def screen_scatter_r22 : List SO := [⟨(some 73), .load 84 (.tmp (2 : Nat)), none⟩,
  ⟨(some 74), .load 150 (.tmp (3 : Nat)), none⟩,
  ⟨(some 75), .load 150 (.tmp (3 : Nat)), none⟩,
  ⟨(some 76), .move (.tmp (12 : Nat)), none⟩,
  ⟨(some 77), .fieldAddr 150 (.tmp (3 : Nat)) 0, none⟩,
  ⟨(some 78), .load 3 (.tmp (77 : Nat)), none⟩,
  ⟨(some 79), .binOp .rem 3 (.tmp (76 : Nat)) (.tmp (78 : Nat)) 3, none⟩,
  ⟨(some 80), .move (.tmp (9 : Nat)), none⟩,
  ⟨(some 81), .fieldAddr 150 (.tmp (3 : Nat)) 0, none⟩,
  ⟨(some 82), .load 3 (.tmp (81 : Nat)), none⟩,
  ⟨(some 83), .binOp .rem 3 (.tmp (80 : Nat)) (.tmp (82 : Nat)) 3, none⟩,
  ⟨(some 84), .binOp .sub 3 (.tmp (79 : Nat)) (.tmp (83 : Nat)) 3, none⟩,
  ⟨(some 85), .move (.tmp (12 : Nat)), none⟩,
  ⟨(some 86), .fieldAddr 150 (.tmp (3 : Nat)) 0, none⟩,
  ⟨(some 87), .load 3 (.tmp (86 : Nat)), none⟩,
  ⟨(some 88), .binOp .quo 3 (.tmp (85 : Nat)) (.tmp (87 : Nat)) 3, none⟩,
  ⟨(some 89), .move (.tmp (9 : Nat)), none⟩,
  ⟨(some 90), .fieldAddr 150 (.tmp (3 : Nat)) 0, none⟩,
  ⟨(some 91), .load 3 (.tmp (90 : Nat)), none⟩,
  ⟨(some 92), .binOp .quo 3 (.tmp (89 : Nat)) (.tmp (91 : Nat)) 3, none⟩,
  ⟨(some 93), .binOp .sub 3 (.tmp (88 : Nat)) (.tmp (92 : Nat)) 3, none⟩,
  ⟨(some 94), .call ⟨(.value (.func (89 : Nat))), #[(.tmp (75 : Nat)), (.tmp (84 : Nat)), (.tmp (93 : Nat))], #[150, 3, 3]⟩, none⟩,
  ⟨(some 95), .call ⟨(.value (.func (108 : Nat))), #[(.tmp (73 : Nat)), (.tmp (74 : Nat)), (.tmp (94 : Nat))], #[84, 150, 3]⟩, none⟩,
  ⟨(some 72), .move (.tmp (95 : Nat)), none⟩,
  ⟨(some 96), .extract (.tmp (72 : Nat)) 0, none⟩,
  ⟨(some 97), .extract (.tmp (72 : Nat)) 1, none⟩,
  ⟨(some 13), .assign (.tmp (96 : Nat)), none⟩,
  ⟨(some 14), .assign (.tmp (97 : Nat)), none⟩]
def screen_scatter_a22 : List (List Nat) := [[], [], [], [], [], [4], [3, 5], [], [], [8], [7, 9], [6, 10], [], [], [13], [12, 14], [], [], [17], [16, 18], [15, 19], [2, 11, 20], [0, 1, 21, 21], [22], [23], [23], [24, 22, 0, 1, 2, 3, 4, 5, 6, 7, 8, 9, 10, 11, 12, 13, 14, 15, 16, 17, 18, 19, 20, 21, 22, 23, 24], [25, 26, 0, 1, 2, 3, 4, 5, 6, 7, 8, 9, 10, 11, 12, 13, 14, 15, 16, 17, 18, 19, 20, 21, 22, 23, 24, 25, 26]]
def screen_scatter_r23 : List SO := [⟨(some 98), .move (.tmp (6 : Nat)), none⟩,
  ⟨(some 99), .move (.tmp (12 : Nat)), none⟩,
  ⟨(some 100), .move (.tmp (6 : Nat)), none⟩,
  ⟨(some 101), .move (.tmp (12 : Nat)), none⟩,
  ⟨(some 102), .indexAddr 22 (.tmp (100 : Nat)) (.tmp (101 : Nat)), none⟩,
  ⟨(some 103), .load 3 (.tmp (102 : Nat)), none⟩,
  ⟨(some 104), .move (.tmp (13 : Nat)), none⟩,
  ⟨(some 105), .move (.tmp (13 : Nat)), none⟩,
  ⟨(some 106), .binOp .mul 3 (.tmp (104 : Nat)) (.tmp (105 : Nat)) 3, none⟩,
  ⟨(some 107), .move (.tmp (14 : Nat)), none⟩,
  ⟨(some 108), .move (.tmp (14 : Nat)), none⟩,
  ⟨(some 109), .binOp .mul 3 (.tmp (107 : Nat)) (.tmp (108 : Nat)) 3, none⟩,
  ⟨(some 110), .binOp .add 3 (.tmp (106 : Nat)) (.tmp (109 : Nat)) 3, none⟩,
  ⟨(some 111), .call ⟨(.builtin .min), #[(.tmp (103 : Nat)), (.tmp (110 : Nat))], #[3, 3]⟩, none⟩,
  ⟨(some 112), .indexAddr 22 (.tmp (98 : Nat)) (.tmp (99 : Nat)), none⟩,
  ⟨none, .store 3 (.tmp (112 : Nat)) (.tmp (111 : Nat)), none⟩]
def screen_scatter_r24 : List SO := [⟨(some 113), .binOp .add 3 (.tmp (69 : Nat)) (.const (.int .i64 1)) 3, none⟩,
  ⟨(some 69), .move (.tmp (113 : Nat)), none⟩]
def screen_scatter_r25 : List SO := [⟨(some 114), .binOp .add 3 (.tmp (38 : Nat)) (.const (.int .i64 1)) 3, none⟩,
  ⟨(some 38), .move (.tmp (114 : Nat)), none⟩]
def screen_scatter_r26 : List SO := [⟨(some 115), .move (.tmp (8 : Nat)), none⟩,
  ⟨(some 4), .assign (.tmp (115 : Nat)), none⟩]
def screen_scatter_c : SF := ⟨116, (.seq (.reg screen_scatter_r0)
  (.seq (.reg screen_scatter_r1)
  (.seq (.reg screen_scatter_r2)
  (.seq (.seq (.reg screen_scatter_r3)
  (.block 0 (.loop (.seq (.reg screen_scatter_r4)
  (.seq (.cond (.tmp (31 : Nat)) .skip (.exit 0))
  (.seq (.block 1 (.seq (.reg screen_scatter_r5)
  (.reg screen_scatter_r6)))
  (.reg screen_scatter_r7)))))))
  (.seq (.reg screen_scatter_r8)
  (.seq (.seq (.reg screen_scatter_r9)
  (.block 2 (.loop (.seq (.reg screen_scatter_r10)
  (.seq (.cond (.tmp (39 : Nat)) .skip (.exit 2))
  (.seq (.block 3 (.seq (.reg screen_scatter_r11)
  (.seq (.seq (.reg screen_scatter_r12)
  (.block 4 (.loop (.seq (.reg screen_scatter_r13)
  (.seq (.cond (.tmp (43 : Nat)) .skip (.exit 4))
  (.seq (.block 5 (.seq (.reg screen_scatter_r14)
  (.seq (.reg screen_scatter_r15)
  (.cond (.tmp (60 : Nat)) (.reg screen_scatter_r16) .skip))))
  (.reg screen_scatter_r17)))))))
  (.seq (.reg screen_scatter_r18)
  (.seq (.reg screen_scatter_r19)
  (.block 6 (.loop (.seq (.reg screen_scatter_r20)
  (.seq (.cond (.tmp (70 : Nat)) .skip (.exit 6))
  (.seq (.block 7 (.seq (.reg screen_scatter_r21)
  (.seq (.regd screen_scatter_r22 screen_scatter_a22)
  (.reg screen_scatter_r23))))
  (.reg screen_scatter_r24)))))))))))
  (.reg screen_scatter_r25)))))))
  (.seq (.reg screen_scatter_r26)
  .ret))))))), [.tmp 4]⟩
theorem screen_scatter_s : slimF Try.prog 109 = some screen_scatter_c := by kernel_rfl
abbrev screen_scatter_f : Nat := 109
/-- printworks/screen.Ranks$2 -/
def screen_Ranks_2_r0 : List SO := [⟨(some 5), .assign (.const (.int .i64 0)), none⟩]
def screen_Ranks_2_r1 : List SO := [⟨(some 11), .load 181 (.tmp (2 : Nat)), none⟩,
  ⟨(some 12), .move (.tmp (0 : Nat)), none⟩,
  ⟨(some 13), .call ⟨(.value (.tmp (11 : Nat))), #[(.tmp (12 : Nat))], #[3]⟩, none⟩,
  ⟨(some 10), .move (.tmp (13 : Nat)), none⟩,
  ⟨(some 14), .extract (.tmp (10 : Nat)) 0, none⟩,
  ⟨(some 15), .extract (.tmp (10 : Nat)) 1, none⟩,
  ⟨(some 6), .assign (.tmp (14 : Nat)), none⟩,
  ⟨(some 7), .assign (.tmp (15 : Nat)), none⟩]
def screen_Ranks_2_r2 : List SO := [⟨(some 17), .load 181 (.tmp (2 : Nat)), none⟩,
  ⟨(some 18), .move (.tmp (1 : Nat)), none⟩,
  ⟨(some 19), .call ⟨(.value (.tmp (17 : Nat))), #[(.tmp (18 : Nat))], #[3]⟩, none⟩,
  ⟨(some 16), .move (.tmp (19 : Nat)), none⟩,
  ⟨(some 20), .extract (.tmp (16 : Nat)) 0, none⟩,
  ⟨(some 21), .extract (.tmp (16 : Nat)) 1, none⟩,
  ⟨(some 8), .assign (.tmp (20 : Nat)), none⟩,
  ⟨(some 9), .assign (.tmp (21 : Nat)), none⟩]
def screen_Ranks_2_r3 : List SO := [⟨(some 23), .move (.tmp (6 : Nat)), none⟩,
  ⟨(some 24), .move (.tmp (8 : Nat)), none⟩,
  ⟨(some 25), .binOp .neq 3 (.tmp (23 : Nat)) (.tmp (24 : Nat)) 3, none⟩,
  ⟨(some 22), .assign (.tmp (25 : Nat)), none⟩]
def screen_Ranks_2_r4 : List SO := [⟨(some 26), .move (.tmp (6 : Nat)), none⟩,
  ⟨(some 27), .move (.tmp (8 : Nat)), none⟩,
  ⟨(some 28), .binOp .sub 3 (.tmp (26 : Nat)) (.tmp (27 : Nat)) 3, none⟩,
  ⟨(some 5), .assign (.tmp (28 : Nat)), none⟩]
def screen_Ranks_2_r5 : List SO := [⟨(some 30), .move (.tmp (7 : Nat)), none⟩,
  ⟨(some 31), .move (.tmp (9 : Nat)), none⟩,
  ⟨(some 32), .binOp .neq 3 (.tmp (30 : Nat)) (.tmp (31 : Nat)) 3, none⟩,
  ⟨(some 29), .assign (.tmp (32 : Nat)), none⟩]
def screen_Ranks_2_r6 : List SO := [⟨(some 33), .move (.tmp (7 : Nat)), none⟩,
  ⟨(some 34), .move (.tmp (9 : Nat)), none⟩,
  ⟨(some 35), .binOp .sub 3 (.tmp (33 : Nat)) (.tmp (34 : Nat)) 3, none⟩,
  ⟨(some 5), .assign (.tmp (35 : Nat)), none⟩]
def screen_Ranks_2_r7 : List SO := [⟨(some 36), .move (.tmp (0 : Nat)), none⟩,
  ⟨(some 37), .move (.tmp (1 : Nat)), none⟩,
  ⟨(some 38), .binOp .sub 3 (.tmp (36 : Nat)) (.tmp (37 : Nat)) 3, none⟩,
  ⟨(some 5), .assign (.tmp (38 : Nat)), none⟩]
def screen_Ranks_2_c : SF := ⟨39, (.seq (.reg screen_Ranks_2_r0)
  (.seq (.reg screen_Ranks_2_r1)
  (.seq (.reg screen_Ranks_2_r2)
  (.seq (.block 0 (.seq (.reg screen_Ranks_2_r3)
  (.cond (.tmp (22 : Nat)) (.seq (.reg screen_Ranks_2_r4)
  .ret) (.seq (.reg screen_Ranks_2_r5)
  (.cond (.tmp (29 : Nat)) (.seq (.reg screen_Ranks_2_r6)
  .ret) .skip)))))
  (.seq (.reg screen_Ranks_2_r7)
  .ret))))), [.tmp 5]⟩
theorem screen_Ranks_2_s : slimF Try.prog 111 = some screen_Ranks_2_c := by kernel_rfl
abbrev screen_Ranks_2_f : Nat := 111
/-- printworks/screen.offset -/
def screen_offset_r0 : List SO := [⟨(some 3), .box 84 (.tmp (0 : Nat)), none⟩,
  ⟨(some 4), .box 150 (.tmp (1 : Nat)), none⟩,
  ⟨(some 6), .assign (.const (.int .i64 0)), none⟩,
  ⟨(some 7), .assign (.const (.int .i64 0)), none⟩]
def screen_offset_r1 : List SO := [⟨(some 13), .fieldAddr 84 (.tmp (3 : Nat)) 0, none⟩,
  ⟨(some 14), .load 3 (.tmp (13 : Nat)), none⟩,
  ⟨(some 15), .fieldAddr 84 (.tmp (3 : Nat)) 0, none⟩,
  ⟨(some 16), .load 3 (.tmp (15 : Nat)), none⟩,
  ⟨(some 17), .binOp .mul 3 (.tmp (14 : Nat)) (.tmp (16 : Nat)) 3, none⟩,
  ⟨(some 18), .fieldAddr 84 (.tmp (3 : Nat)) 1, none⟩,
  ⟨(some 19), .load 3 (.tmp (18 : Nat)), none⟩,
  ⟨(some 20), .fieldAddr 84 (.tmp (3 : Nat)) 1, none⟩,
  ⟨(some 21), .load 3 (.tmp (20 : Nat)), none⟩,
  ⟨(some 22), .binOp .mul 3 (.tmp (19 : Nat)) (.tmp (21 : Nat)) 3, none⟩,
  ⟨(some 23), .binOp .add 3 (.tmp (17 : Nat)) (.tmp (22 : Nat)) 3, none⟩,
  ⟨(some 8), .assign (.tmp (23 : Nat)), none⟩]
def screen_offset_r2 : List SO := [⟨(some 24), .move (.tmp (2 : Nat)), none⟩,
  ⟨(some 25), .fieldAddr 150 (.tmp (4 : Nat)) 0, none⟩,
  ⟨(some 26), .load 3 (.tmp (25 : Nat)), none⟩,
  ⟨(some 27), .binOp .rem 3 (.tmp (24 : Nat)) (.tmp (26 : Nat)) 3, none⟩,
  ⟨(some 28), .move (.tmp (2 : Nat)), none⟩,
  ⟨(some 29), .fieldAddr 150 (.tmp (4 : Nat)) 0, none⟩,
  ⟨(some 30), .load 3 (.tmp (29 : Nat)), none⟩,
  ⟨(some 31), .binOp .quo 3 (.tmp (28 : Nat)) (.tmp (30 : Nat)) 3, none⟩,
  ⟨(some 9), .assign (.tmp (27 : Nat)), none⟩,
  ⟨(some 10), .assign (.tmp (31 : Nat)), none⟩]
def screen_offset_a2 : List (List Nat) := [[], [], [1], [0, 2], [], [], [5], [4, 6], [3, 0, 1, 2, 3], [7, 8, 0, 1, 2, 3, 4, 5, 6, 7, 8]]
def screen_offset_r3 : List SO := [⟨(some 32), .move (.tmp (9 : Nat)), none⟩,
  ⟨(some 33), .fieldAddr 84 (.tmp (3 : Nat)) 0, none⟩,
  ⟨(some 34), .load 3 (.tmp (33 : Nat)), none⟩,
  ⟨(some 35), .binOp .mul 3 (.tmp (32 : Nat)) (.tmp (34 : Nat)) 3, none⟩,
  ⟨(some 36), .move (.tmp (10 : Nat)), none⟩,
  ⟨(some 37), .fieldAddr 84 (.tmp (3 : Nat)) 1, none⟩,
  ⟨(some 38), .load 3 (.tmp (37 : Nat)), none⟩,
  ⟨(some 39), .binOp .mul 3 (.tmp (36 : Nat)) (.tmp (38 : Nat)) 3, none⟩,
  ⟨(some 40), .binOp .add 3 (.tmp (35 : Nat)) (.tmp (39 : Nat)) 3, none⟩,
  ⟨(some 41), .move (.tmp (8 : Nat)), none⟩,
  ⟨(some 42), .call ⟨(.value (.func (91 : Nat))), #[(.tmp (40 : Nat)), (.tmp (41 : Nat))], #[3, 3]⟩, none⟩,
  ⟨(some 43), .move (.tmp (10 : Nat)), none⟩,
  ⟨(some 44), .fieldAddr 84 (.tmp (3 : Nat)) 0, none⟩,
  ⟨(some 45), .load 3 (.tmp (44 : Nat)), none⟩,
  ⟨(some 46), .binOp .mul 3 (.tmp (43 : Nat)) (.tmp (45 : Nat)) 3, none⟩,
  ⟨(some 47), .move (.tmp (9 : Nat)), none⟩,
  ⟨(some 48), .fieldAddr 84 (.tmp (3 : Nat)) 1, none⟩,
  ⟨(some 49), .load 3 (.tmp (48 : Nat)), none⟩,
  ⟨(some 50), .binOp .mul 3 (.tmp (47 : Nat)) (.tmp (49 : Nat)) 3, none⟩,
  ⟨(some 51), .binOp .sub 3 (.tmp (46 : Nat)) (.tmp (50 : Nat)) 3, none⟩,
  ⟨(some 52), .move (.tmp (8 : Nat)), none⟩,
  ⟨(some 53), .call ⟨(.value (.func (91 : Nat))), #[(.tmp (51 : Nat)), (.tmp (52 : Nat))], #[3, 3]⟩, none⟩,
  ⟨(some 11), .assign (.tmp (42 : Nat)), none⟩,
  ⟨(some 12), .assign (.tmp (53 : Nat)), none⟩]
def screen_offset_a3 : List (List Nat) := [[], [], [1], [0, 2], [], [], [5], [4, 6], [3, 7], [], [8, 9], [], [], [12], [11, 13], [], [], [16], [15, 17], [14, 18], [], [19, 20, 10], [10, 21, 0, 1, 2, 3, 4, 5, 6, 7, 8, 9, 10], [21, 22, 0, 1, 2, 3, 4, 5, 6, 7, 8, 9, 10, 11, 12, 13, 14, 15, 16, 17, 18, 19, 20, 21, 22]]
def screen_offset_r4 : List SO := [⟨(some 54), .move (.tmp (11 : Nat)), none⟩,
  ⟨(some 55), .move (.tmp (8 : Nat)), none⟩,
  ⟨(some 56), .move (.tmp (11 : Nat)), none⟩,
  ⟨(some 57), .binOp .sub 3 (.tmp (55 : Nat)) (.tmp (56 : Nat)) 3, none⟩,
  ⟨(some 58), .call ⟨(.builtin .min), #[(.tmp (54 : Nat)), (.tmp (57 : Nat))], #[3, 3]⟩, none⟩,
  ⟨(some 59), .move (.tmp (12 : Nat)), none⟩,
  ⟨(some 60), .move (.tmp (8 : Nat)), none⟩,
  ⟨(some 61), .move (.tmp (12 : Nat)), none⟩,
  ⟨(some 62), .binOp .sub 3 (.tmp (60 : Nat)) (.tmp (61 : Nat)) 3, none⟩,
  ⟨(some 63), .call ⟨(.builtin .min), #[(.tmp (59 : Nat)), (.tmp (62 : Nat))], #[3, 3]⟩, none⟩,
  ⟨(some 6), .assign (.tmp (58 : Nat)), none⟩,
  ⟨(some 7), .assign (.tmp (63 : Nat)), none⟩]
def screen_offset_c : SF := ⟨64, (.seq (.reg screen_offset_r0)
  (.seq (.reg screen_offset_r1)
  (.seq (.regd screen_offset_r2 screen_offset_a2)
  (.seq (.regd screen_offset_r3 screen_offset_a3)
  (.seq (.reg screen_offset_r4)
  .ret))))), [.tmp 6, .tmp 7]⟩
theorem screen_offset_s : slimF Try.prog 108 = some screen_offset_c := by kernel_rfl
abbrev screen_offset_f : Nat := 108

def tbl_screen : List (Nat × SF) := [(44, screen_Period_c), (45, screen_Cell_c), (46, screen_Common_c), (83, screen_Order_c), (84, screen_Dots_c), (85, screen_Moire_c), (86, screen_Check_c), (87, screen_Of_c), (88, screen_far_c), (89, _screen_Form__Place_c), (90, screen_bezout_c), (91, screen_mod_c), (104, screen_Ranks_c), (107, screen_Ranks_1_c), (109, screen_scatter_c), (111, screen_Ranks_2_c), (108, screen_offset_c)]
theorem tbl_screen_ok : okT Try.prog tbl_screen := ⟨screen_Period_s, screen_Cell_s, screen_Common_s, screen_Order_s, screen_Dots_s, screen_Moire_s, screen_Check_s, screen_Of_s, screen_far_s, _screen_Form__Place_s, screen_bezout_s, screen_mod_s, screen_Ranks_s, screen_Ranks_1_s, screen_scatter_s, screen_Ranks_2_s, screen_offset_s, trivial⟩

end Go.Proofs.Ythnfbdihihhoiaa
namespace Go.Proofs.Ythnfbdihihhoiaa
open Go Go.Lite
set_option linter.unusedVariables false

/-- printworks/printworksref2.Mod -/
def R2_Mod_r0 : List SO := [⟨(some 4), .assign (.const (.int .i64 0)), none⟩]
def R2_Mod_r1 : List SO := [⟨(some 5), .move (.tmp (0 : Nat)), none⟩,
  ⟨(some 6), .move (.tmp (1 : Nat)), none⟩,
  ⟨(some 7), .move (.tmp (0 : Nat)), none⟩,
  ⟨(some 8), .move (.tmp (1 : Nat)), none⟩,
  ⟨(some 9), .call ⟨(.value (.func (51 : Nat))), #[(.tmp (7 : Nat)), (.tmp (8 : Nat))], #[3, 3]⟩, none⟩,
  ⟨(some 10), .binOp .mul 3 (.tmp (6 : Nat)) (.tmp (9 : Nat)) 3, none⟩,
  ⟨(some 11), .binOp .sub 3 (.tmp (5 : Nat)) (.tmp (10 : Nat)) 3, none⟩,
  ⟨(some 4), .assign (.tmp (11 : Nat)), none⟩]
def R2_Mod_c : SF := ⟨12, (.seq (.reg R2_Mod_r0)
  (.seq (.reg R2_Mod_r1)
  .ret)), [.tmp 4]⟩
theorem R2_Mod_s : slimF Try.prog 17 = some R2_Mod_c := by kernel_rfl
abbrev R2_Mod_f : Nat := 17
/-- printworks/printworksref2.Power -/
def R2_Power_r0 : List SO := [⟨(some 4), .assign (.const (.int .i64 0)), none⟩]
def R2_Power_r1 : List SO := [⟨(some 5), .assign (.const (.int .i64 1)), none⟩]
def R2_Power_r2 : List SO := [⟨(some 6), .move (.tmp (1 : Nat)), none⟩,
  ⟨(some 7), .move (.const (.int .i64 0)), none⟩]
def R2_Power_r3 : List SO := [⟨(some 8), .binOp .lss 3 (.tmp (7 : Nat)) (.tmp (6 : Nat)) 3, none⟩]
def R2_Power_r4 : List SO := [⟨(some 9), .move (.tmp (5 : Nat)), none⟩,
  ⟨(some 10), .move (.tmp (0 : Nat)), none⟩,
  ⟨(some 11), .binOp .mul 3 (.tmp (9 : Nat)) (.tmp (10 : Nat)) 3, none⟩,
  ⟨(some 5), .assign (.tmp (11 : Nat)), none⟩]
def R2_Power_r5 : List SO := [⟨(some 12), .binOp .add 3 (.tmp (7 : Nat)) (.const (.int .i64 1)) 3, none⟩,
  ⟨(some 7), .move (.tmp (12 : Nat)), none⟩]
def R2_Power_r6 : List SO := [⟨(some 13), .move (.tmp (5 : Nat)), none⟩,
  ⟨(some 4), .assign (.tmp (13 : Nat)), none⟩]
def R2_Power_c : SF := ⟨14, (.seq (.reg R2_Power_r0)
  (.seq (.reg R2_Power_r1)
  (.seq (.seq (.reg R2_Power_r2)
  (.block 0 (.loop (.seq (.reg R2_Power_r3)
  (.seq (.cond (.tmp (8 : Nat)) .skip (.exit 0))
  (.seq (.block 1 (.reg R2_Power_r4))
  (.reg R2_Power_r5)))))))
  (.seq (.reg R2_Power_r6)
  .ret)))), [.tmp 4]⟩
theorem R2_Power_s : slimF Try.prog 20 = some R2_Power_c := by kernel_rfl
abbrev R2_Power_f : Nat := 20
/-- printworks/printworksref2.Index -/
def R2_Index_r0 : List SO := [⟨(some 2), .box 24 (.tmp (0 : Nat)), none⟩,
  ⟨(some 4), .assign (.const (.slice none 0 0)), none⟩]
def R2_Index_r1 : List SO := [⟨(some 7), .fieldAddr 24 (.tmp (2 : Nat)) 0, none⟩,
  ⟨(some 8), .load 3 (.tmp (7 : Nat)), none⟩,
  ⟨(some 9), .makeSlice 22 (.tmp (8 : Nat)) (.tmp (8 : Nat)), none⟩,
  ⟨(some 5), .assign (.tmp (9 : Nat)), none⟩]
def R2_Index_r2 : List SO := [⟨(some 10), .fieldAddr 24 (.tmp (2 : Nat)) 0, none⟩,
  ⟨(some 11), .load 3 (.tmp (10 : Nat)), none⟩,
  ⟨(some 12), .binOp .sub 3 (.tmp (11 : Nat)) (.const (.int .i64 1)) 3, none⟩,
  ⟨(some 6), .assign (.tmp (12 : Nat)), none⟩]
def R2_Index_r3 : List SO := [⟨(some 13), .move (.tmp (6 : Nat)), none⟩,
  ⟨(some 14), .binOp .geq 3 (.tmp (13 : Nat)) (.const (.int .i64 0)) 3, none⟩]
def R2_Index_r4 : List SO := [⟨(some 17), .move (.tmp (5 : Nat)), none⟩,
  ⟨(some 18), .move (.tmp (6 : Nat)), none⟩,
  ⟨(some 19), .move (.tmp (1 : Nat)), none⟩,
  ⟨(some 20), .fieldAddr 24 (.tmp (2 : Nat)) 2, none⟩,
  ⟨(some 21), .load 3 (.tmp (20 : Nat)), none⟩,
  ⟨(some 22), .binOp .rem 3 (.tmp (19 : Nat)) (.tmp (21 : Nat)) 3, none⟩,
  ⟨(some 23), .indexAddr 22 (.tmp (17 : Nat)) (.tmp (18 : Nat)), none⟩,
  ⟨none, .store 3 (.tmp (23 : Nat)) (.tmp (22 : Nat)), none⟩]
def R2_Index_r5 : List SO := [⟨(some 24), .move (.tmp (1 : Nat)), none⟩,
  ⟨(some 25), .fieldAddr 24 (.tmp (2 : Nat)) 2, none⟩,
  ⟨(some 26), .load 3 (.tmp (25 : Nat)), none⟩,
  ⟨(some 27), .binOp .quo 3 (.tmp (24 : Nat)) (.tmp (26 : Nat)) 3, none⟩,
  ⟨(some 1), .assign (.tmp (27 : Nat)), none⟩]
def R2_Index_r6 : List SO := [⟨(some 15), .move (.tmp (6 : Nat)), none⟩,
  ⟨(some 16), .binOp .sub 3 (.tmp (15 : Nat)) (.const (.int .i64 1)) 3, none⟩,
  ⟨(some 6), .assign (.tmp (16 : Nat)), none⟩]
def R2_Index_r7 : List SO := [⟨(some 28), .move (.tmp (5 : Nat)), none⟩,
  ⟨(some 4), .assign (.tmp (28 : Nat)), none⟩]
def R2_Index_c : SF := ⟨29, (.seq (.reg R2_Index_r0)
  (.seq (.reg R2_Index_r1)
  (.seq (.seq (.reg R2_Index_r2)
  (.block 0 (.loop (.seq (.seq (.reg R2_Index_r3)
  (.cond (.tmp (14 : Nat)) .skip (.exit 0)))
  (.seq (.block 1 (.seq (.reg R2_Index_r4)
  (.reg R2_Index_r5)))
  (.reg R2_Index_r6))))))
  (.seq (.reg R2_Index_r7)
  .ret)))), [.tmp 4]⟩
theorem R2_Index_s : slimF Try.prog 21 = some R2_Index_c := by kernel_rfl
abbrev R2_Index_f : Nat := 21
/-- printworks/printworksref2.SameInts -/
def R2_SameInts_r0 : List SO := [⟨(some 4), .assign (.const (.bool false)), none⟩]
def R2_SameInts_r1 : List SO := [⟨(some 6), .move (.tmp (0 : Nat)), none⟩,
  ⟨(some 7), .call ⟨(.builtin .len), #[(.tmp (6 : Nat))], #[22]⟩, none⟩,
  ⟨(some 8), .move (.tmp (1 : Nat)), none⟩,
  ⟨(some 9), .call ⟨(.builtin .len), #[(.tmp (8 : Nat))], #[22]⟩, none⟩,
  ⟨(some 10), .binOp .neq 3 (.tmp (7 : Nat)) (.tmp (9 : Nat)) 3, none⟩]
def R2_SameInts_r2 : List SO := [⟨(some 4), .assign (.const (.bool false)), none⟩]
def R2_SameInts_r3 : List SO := [⟨(some 11), .move (.tmp (0 : Nat)), none⟩,
  ⟨(some 12), .call ⟨(.builtin .len), #[(.tmp (11 : Nat))], #[22]⟩, none⟩,
  ⟨(some 13), .move (.const (.int .i64 0)), none⟩]
def R2_SameInts_r4 : List SO := [⟨(some 14), .binOp .lss 3 (.tmp (13 : Nat)) (.tmp (12 : Nat)) 3, none⟩]
def R2_SameInts_r5 : List SO := [⟨(some 15), .move (.tmp (13 : Nat)), none⟩,
  ⟨(some 5), .assign (.tmp (15 : Nat)), none⟩]
def R2_SameInts_r6 : List SO := [⟨(some 16), .move (.tmp (0 : Nat)), none⟩,
  ⟨(some 17), .move (.tmp (5 : Nat)), none⟩,
  ⟨(some 18), .indexAddr 22 (.tmp (16 : Nat)) (.tmp (17 : Nat)), none⟩,
  ⟨(some 19), .load 3 (.tmp (18 : Nat)), none⟩,
  ⟨(some 20), .move (.tmp (1 : Nat)), none⟩,
  ⟨(some 21), .move (.tmp (5 : Nat)), none⟩,
  ⟨(some 22), .indexAddr 22 (.tmp (20 : Nat)) (.tmp (21 : Nat)), none⟩,
  ⟨(some 23), .load 3 (.tmp (22 : Nat)), none⟩,
  ⟨(some 24), .binOp .neq 3 (.tmp (19 : Nat)) (.tmp (23 : Nat)) 3, none⟩]
def R2_SameInts_a6 : List (List Nat) := [[], [], [0, 1], [2], [], [], [4, 5], [6], [3, 7]]
def R2_SameInts_r7 : List SO := [⟨(some 4), .assign (.const (.bool false)), none⟩]
def R2_SameInts_r8 : List SO := [⟨(some 25), .binOp .add 3 (.tmp (13 : Nat)) (.const (.int .i64 1)) 3, none⟩,
  ⟨(some 13), .move (.tmp (25 : Nat)), none⟩]
def R2_SameInts_r9 : List SO := [⟨(some 4), .assign (.const (.bool true)), none⟩]
def R2_SameInts_c : SF := ⟨26, (.seq (.reg R2_SameInts_r0)
  (.seq (.seq (.reg R2_SameInts_r1)
  (.cond (.tmp (10 : Nat)) (.seq (.reg R2_SameInts_r2)
  .ret) .skip))
  (.seq (.seq (.reg R2_SameInts_r3)
  (.block 0 (.loop (.seq (.reg R2_SameInts_r4)
  (.seq (.cond (.tmp (14 : Nat)) .skip (.exit 0))
  (.seq (.block 1 (.seq (.reg R2_SameInts_r5)
  (.seq (.regd R2_SameInts_r6 R2_SameInts_a6)
  (.cond (.tmp (24 : Nat)) (.seq (.reg R2_SameInts_r7)
  .ret) .skip))))
  (.reg R2_SameInts_r8)))))))
  (.seq (.reg R2_SameInts_r9)
  .ret)))), [.tmp 4]⟩
theorem R2_SameInts_s : slimF Try.prog 23 = some R2_SameInts_c := by kernel_rfl
abbrev R2_SameInts_f : Nat := 23
/-- printworks/printworksref2.Round -/
def R2_Round_r0 : List SO := [⟨(some 4), .assign (.const (.int .i64 0)), none⟩]
def R2_Round_r1 : List SO := [⟨(some 6), .move (.tmp (0 : Nat)), none⟩,
  ⟨(some 7), .move (.tmp (1 : Nat)), none⟩,
  ⟨(some 8), .call ⟨(.value (.func (51 : Nat))), #[(.tmp (6 : Nat)), (.tmp (7 : Nat))], #[3, 3]⟩, none⟩,
  ⟨(some 5), .assign (.tmp (8 : Nat)), none⟩]
def R2_Round_r2 : List SO := [⟨(some 9), .move (.tmp (0 : Nat)), none⟩,
  ⟨(some 10), .move (.tmp (5 : Nat)), none⟩,
  ⟨(some 11), .move (.tmp (1 : Nat)), none⟩,
  ⟨(some 12), .binOp .mul 3 (.tmp (10 : Nat)) (.tmp (11 : Nat)) 3, none⟩,
  ⟨(some 13), .binOp .sub 3 (.tmp (9 : Nat)) (.tmp (12 : Nat)) 3, none⟩,
  ⟨(some 14), .binOp .mul 3 (.const (.int .i64 2)) (.tmp (13 : Nat)) 3, none⟩,
  ⟨(some 15), .move (.tmp (1 : Nat)), none⟩,
  ⟨(some 16), .binOp .geq 3 (.tmp (14 : Nat)) (.tmp (15 : Nat)) 3, none⟩]
def R2_Round_r3 : List SO := [⟨(some 17), .move (.tmp (5 : Nat)), none⟩,
  ⟨(some 18), .binOp .add 3 (.tmp (17 : Nat)) (.const (.int .i64 1)) 3, none⟩,
  ⟨(some 5), .assign (.tmp (18 : Nat)), none⟩]
def R2_Round_r4 : List SO := [⟨(some 19), .move (.tmp (5 : Nat)), none⟩,
  ⟨(some 4), .assign (.tmp (19 : Nat)), none⟩]
def R2_Round_c : SF := ⟨20, (.seq (.reg R2_Round_r0)
  (.seq (.reg R2_Round_r1)
  (.seq (.seq (.reg R2_Round_r2)
  (.cond (.tmp (16 : Nat)) (.reg R2_Round_r3) .skip))
  (.seq (.reg R2_Round_r4)
  .ret)))), [.tmp 4]⟩
theorem R2_Round_s : slimF Try.prog 24 = some R2_Round_c := by kernel_rfl
abbrev R2_Round_f : Nat := 24
/-- printworks/printworksref2.SameBytes -/
def R2_SameBytes_r0 : List SO := [⟨(some 4), .assign (.const (.bool false)), none⟩]
def R2_SameBytes_r1 : List SO := [⟨(some 5), .move (.tmp (0 : Nat)), none⟩,
  ⟨(some 6), .convert 57 9 (.tmp (5 : Nat)), none⟩,
  ⟨(some 7), .move (.tmp (1 : Nat)), none⟩,
  ⟨(some 8), .convert 57 9 (.tmp (7 : Nat)), none⟩,
  ⟨(some 9), .binOp .eql 9 (.tmp (6 : Nat)) (.tmp (8 : Nat)) 9, none⟩,
  ⟨(some 4), .assign (.tmp (9 : Nat)), none⟩]
def R2_SameBytes_c : SF := ⟨10, (.seq (.reg R2_SameBytes_r0)
  (.seq (.reg R2_SameBytes_r1)
  .ret)), [.tmp 4]⟩
theorem R2_SameBytes_s : slimF Try.prog 36 = some R2_SameBytes_c := by kernel_rfl
abbrev R2_SameBytes_f : Nat := 36
/-- printworks/printworksref2.Gcd -/
def R2_Gcd_r0 : List SO := [⟨(some 4), .assign (.const (.int .i64 0)), none⟩]
def R2_Gcd_r1 : List SO := [⟨(some 6), .move (.tmp (0 : Nat)), none⟩,
  ⟨(some 7), .binOp .lss 3 (.tmp (6 : Nat)) (.const (.int .i64 0)) 3, none⟩]
def R2_Gcd_r2 : List SO := [⟨(some 8), .move (.tmp (0 : Nat)), none⟩,
  ⟨(some 9), .unOp .neg 3 (.tmp (8 : Nat)), none⟩,
  ⟨(some 0), .assign (.tmp (9 : Nat)), none⟩]
def R2_Gcd_r3 : List SO := [⟨(some 10), .move (.tmp (1 : Nat)), none⟩,
  ⟨(some 11), .binOp .lss 3 (.tmp (10 : Nat)) (.const (.int .i64 0)) 3, none⟩]
def R2_Gcd_r4 : List SO := [⟨(some 12), .move (.tmp (1 : Nat)), none⟩,
  ⟨(some 13), .unOp .neg 3 (.tmp (12 : Nat)), none⟩,
  ⟨(some 1), .assign (.tmp (13 : Nat)), none⟩]
def R2_Gcd_r5 : List SO := [⟨(some 14), .move (.tmp (0 : Nat)), none⟩,
  ⟨(some 15), .move (.tmp (1 : Nat)), none⟩,
  ⟨(some 16), .call ⟨(.builtin .max), #[(.tmp (14 : Nat)), (.tmp (15 : Nat))], #[3, 3]⟩, none⟩,
  ⟨(some 5), .assign (.tmp (16 : Nat)), none⟩]
def R2_Gcd_r6 : List SO := [⟨(some 19), .move (.tmp (0 : Nat)), none⟩,
  ⟨(some 20), .move (.tmp (5 : Nat)), none⟩,
  ⟨(some 21), .binOp .rem 3 (.tmp (19 : Nat)) (.tmp (20 : Nat)) 3, none⟩,
  ⟨(some 22), .binOp .eql 3 (.tmp (21 : Nat)) (.const (.int .i64 0)) 3, none⟩,
  ⟨(some 23), .move (.tmp (22 : Nat)), none⟩,
  ⟨(some 24), .move (.tmp (1 : Nat)), (some (23, true))⟩,
  ⟨(some 25), .move (.tmp (5 : Nat)), (some (23, true))⟩,
  ⟨(some 26), .binOp .rem 3 (.tmp (24 : Nat)) (.tmp (25 : Nat)) 3, (some (23, true))⟩,
  ⟨(some 27), .binOp .eql 3 (.tmp (26 : Nat)) (.const (.int .i64 0)) 3, (some (23, true))⟩,
  ⟨(some 28), .pick (.tmp (23 : Nat)) (.tmp (27 : Nat)) (.const (.bool false)), none⟩]
def R2_Gcd_r7 : List SO := [⟨(some 29), .move (.tmp (5 : Nat)), none⟩,
  ⟨(some 4), .assign (.tmp (29 : Nat)), none⟩]
def R2_Gcd_r8 : List SO := [⟨(some 17), .move (.tmp (5 : Nat)), none⟩,
  ⟨(some 18), .binOp .sub 3 (.tmp (17 : Nat)) (.const (.int .i64 1)) 3, none⟩,
  ⟨(some 5), .assign (.tmp (18 : Nat)), none⟩]
def R2_Gcd_c : SF := ⟨30, (.seq (.reg R2_Gcd_r0)
  (.seq (.seq (.reg R2_Gcd_r1)
  (.cond (.tmp (7 : Nat)) (.reg R2_Gcd_r2) .skip))
  (.seq (.seq (.reg R2_Gcd_r3)
  (.cond (.tmp (11 : Nat)) (.reg R2_Gcd_r4) .skip))
  (.seq (.reg R2_Gcd_r5)
  (.block 0 (.loop (.seq (.block 1 (.seq (.reg R2_Gcd_r6)
  (.cond (.tmp (28 : Nat)) (.seq (.reg R2_Gcd_r7)
  .ret) .skip)))
  (.reg R2_Gcd_r8)))))))), [.tmp 4]⟩
theorem R2_Gcd_s : slimF Try.prog 47 = some R2_Gcd_c := by kernel_rfl
abbrev R2_Gcd_f : Nat := 47
/-- printworks/printworksref2.Floor -/
def R2_Floor_r0 : List SO := [⟨(some 4), .assign (.const (.int .i64 0)), none⟩]
def R2_Floor_r1 : List SO := [⟨(some 6), .move (.tmp (0 : Nat)), none⟩,
  ⟨(some 7), .move (.tmp (1 : Nat)), none⟩,
  ⟨(some 8), .binOp .quo 3 (.tmp (6 : Nat)) (.tmp (7 : Nat)) 3, none⟩,
  ⟨(some 5), .assign (.tmp (8 : Nat)), none⟩]
def R2_Floor_r2 : List SO := [⟨(some 9), .move (.tmp (5 : Nat)), none⟩,
  ⟨(some 10), .move (.tmp (1 : Nat)), none⟩,
  ⟨(some 11), .binOp .mul 3 (.tmp (9 : Nat)) (.tmp (10 : Nat)) 3, none⟩,
  ⟨(some 12), .move (.tmp (0 : Nat)), none⟩,
  ⟨(some 13), .binOp .gtr 3 (.tmp (11 : Nat)) (.tmp (12 : Nat)) 3, none⟩]
def R2_Floor_r3 : List SO := [⟨(some 14), .move (.tmp (5 : Nat)), none⟩,
  ⟨(some 15), .binOp .sub 3 (.tmp (14 : Nat)) (.const (.int .i64 1)) 3, none⟩,
  ⟨(some 5), .assign (.tmp (15 : Nat)), none⟩]
def R2_Floor_r4 : List SO := [⟨(some 16), .move (.tmp (5 : Nat)), none⟩,
  ⟨(some 4), .assign (.tmp (16 : Nat)), none⟩]
def R2_Floor_c : SF := ⟨17, (.seq (.reg R2_Floor_r0)
  (.seq (.reg R2_Floor_r1)
  (.seq (.seq (.reg R2_Floor_r2)
  (.cond (.tmp (13 : Nat)) (.reg R2_Floor_r3) .skip))
  (.seq (.reg R2_Floor_r4)
  .ret)))), [.tmp 4]⟩
theorem R2_Floor_s : slimF Try.prog 51 = some R2_Floor_c := by kernel_rfl
abbrev R2_Floor_f : Nat := 51
/-- printworks/printworksref2.SameTexts -/
def R2_SameTexts_r0 : List SO := [⟨(some 4), .assign (.const (.bool false)), none⟩]
def R2_SameTexts_r1 : List SO := [⟨(some 6), .move (.tmp (0 : Nat)), none⟩,
  ⟨(some 7), .call ⟨(.builtin .len), #[(.tmp (6 : Nat))], #[42]⟩, none⟩,
  ⟨(some 8), .move (.tmp (1 : Nat)), none⟩,
  ⟨(some 9), .call ⟨(.builtin .len), #[(.tmp (8 : Nat))], #[42]⟩, none⟩,
  ⟨(some 10), .binOp .neq 3 (.tmp (7 : Nat)) (.tmp (9 : Nat)) 3, none⟩]
def R2_SameTexts_r2 : List SO := [⟨(some 4), .assign (.const (.bool false)), none⟩]
def R2_SameTexts_r3 : List SO := [⟨(some 11), .move (.tmp (0 : Nat)), none⟩,
  ⟨(some 12), .call ⟨(.builtin .len), #[(.tmp (11 : Nat))], #[42]⟩, none⟩,
  ⟨(some 13), .move (.const (.int .i64 0)), none⟩]
def R2_SameTexts_r4 : List SO := [⟨(some 14), .binOp .lss 3 (.tmp (13 : Nat)) (.tmp (12 : Nat)) 3, none⟩]
def R2_SameTexts_r5 : List SO := [⟨(some 15), .move (.tmp (13 : Nat)), none⟩,
  ⟨(some 5), .assign (.tmp (15 : Nat)), none⟩]
def R2_SameTexts_r6 : List SO := [⟨(some 16), .move (.tmp (0 : Nat)), none⟩,
  ⟨(some 17), .move (.tmp (5 : Nat)), none⟩,
  ⟨(some 18), .indexAddr 42 (.tmp (16 : Nat)) (.tmp (17 : Nat)), none⟩,
  ⟨(some 19), .load 9 (.tmp (18 : Nat)), none⟩,
  ⟨(some 20), .move (.tmp (1 : Nat)), none⟩,
  ⟨(some 21), .move (.tmp (5 : Nat)), none⟩,
  ⟨(some 22), .indexAddr 42 (.tmp (20 : Nat)) (.tmp (21 : Nat)), none⟩,
  ⟨(some 23), .load 9 (.tmp (22 : Nat)), none⟩,
  ⟨(some 24), .binOp .neq 9 (.tmp (19 : Nat)) (.tmp (23 : Nat)) 9, none⟩]
def R2_SameTexts_a6 : List (List Nat) := [[], [], [0, 1], [2], [], [], [4, 5], [6], [3, 7]]
def R2_SameTexts_r7 : List SO := [⟨(some 4), .assign (.const (.bool false)), none⟩]
def R2_SameTexts_r8 : List SO := [⟨(some 25), .binOp .add 3 (.tmp (13 : Nat)) (.const (.int .i64 1)) 3, none⟩,
  ⟨(some 13), .move (.tmp (25 : Nat)), none⟩]
def R2_SameTexts_r9 : List SO := [⟨(some 4), .assign (.const (.bool true)), none⟩]
def R2_SameTexts_c : SF := ⟨26, (.seq (.reg R2_SameTexts_r0)
  (.seq (.seq (.reg R2_SameTexts_r1)
  (.cond (.tmp (10 : Nat)) (.seq (.reg R2_SameTexts_r2)
  .ret) .skip))
  (.seq (.seq (.reg R2_SameTexts_r3)
  (.block 0 (.loop (.seq (.reg R2_SameTexts_r4)
  (.seq (.cond (.tmp (14 : Nat)) .skip (.exit 0))
  (.seq (.block 1 (.seq (.reg R2_SameTexts_r5)
  (.seq (.regd R2_SameTexts_r6 R2_SameTexts_a6)
  (.cond (.tmp (24 : Nat)) (.seq (.reg R2_SameTexts_r7)
  .ret) .skip))))
  (.reg R2_SameTexts_r8)))))))
  (.seq (.reg R2_SameTexts_r9)
  .ret)))), [.tmp 4]⟩
theorem R2_SameTexts_s : slimF Try.prog 61 = some R2_SameTexts_c := by kernel_rfl
abbrev R2_SameTexts_f : Nat := 61

def tbl_R2 : List (Nat × SF) := [(17, R2_Mod_c), (20, R2_Power_c), (21, R2_Index_c), (23, R2_SameInts_c), (24, R2_Round_c), (36, R2_SameBytes_c), (47, R2_Gcd_c), (51, R2_Floor_c), (61, R2_SameTexts_c)]
theorem tbl_R2_ok : okT Try.prog tbl_R2 := ⟨R2_Mod_s, R2_Power_s, R2_Index_s, R2_SameInts_s, R2_Round_s, R2_SameBytes_s, R2_Gcd_s, R2_Floor_s, R2_SameTexts_s, trivial⟩

end Go.Proofs.Ythnfbdihihhoiaa
namespace Go.Proofs.Ythnfbdihihhoiaa
open Go Go.Lite
set_option linter.unusedVariables false

/-- printworks/printworkskeep2.gridWorks -/
def K2_gridWorks_r0 : List SO := [⟨(some 0), .assign (.const (.bool false)), none⟩]
def K2_gridWorks_r1 : List SO := [⟨(some 9), .call ⟨(.value (.func (48 : Nat))), #[], #[]⟩, none⟩,
  ⟨(some 10), .buildSlice 22 2 #[(0, (.const (.int .i64 48960))), (1, (.const (.int .i64 16320)))], none⟩,
  ⟨(some 11), .call ⟨(.value (.func (19 : Nat))), #[(.tmp (9 : Nat)), (.tmp (10 : Nat))], #[24, 22]⟩, none⟩,
  ⟨(some 8), .move (.tmp (11 : Nat)), none⟩,
  ⟨(some 12), .extract (.tmp (8 : Nat)) 0, none⟩,
  ⟨(some 13), .extract (.tmp (8 : Nat)) 1, none⟩,
  ⟨(some 1), .assign (.tmp (12 : Nat)), none⟩,
  ⟨(some 2), .assign (.tmp (13 : Nat)), none⟩]
def K2_gridWorks_r2 : List SO := [⟨(some 15), .call ⟨(.value (.func (48 : Nat))), #[], #[]⟩, none⟩,
  ⟨(some 16), .buildSlice 22 2 #[(0, (.const (.int .i64 1))), (1, (.const (.int .i64 0)))], none⟩,
  ⟨(some 17), .call ⟨(.value (.func (49 : Nat))), #[(.tmp (15 : Nat)), (.tmp (16 : Nat))], #[24, 22]⟩, none⟩,
  ⟨(some 14), .move (.tmp (17 : Nat)), none⟩,
  ⟨(some 18), .extract (.tmp (14 : Nat)) 0, none⟩,
  ⟨(some 19), .extract (.tmp (14 : Nat)) 1, none⟩,
  ⟨(some 3), .assign (.tmp (18 : Nat)), none⟩,
  ⟨(some 4), .assign (.tmp (19 : Nat)), none⟩]
def K2_gridWorks_r3 : List SO := [⟨(some 21), .call ⟨(.value (.func (48 : Nat))), #[], #[]⟩, none⟩,
  ⟨(some 22), .buildSlice 22 2 #[(0, (.const (.int .i64 0))), (1, (.const (.int .i64 0)))], none⟩,
  ⟨(some 23), .buildSlice 22 2 #[(0, (.const (.int .i64 0))), (1, (.const (.int .i64 65280)))], none⟩,
  ⟨(some 24), .call ⟨(.value (.func (18 : Nat))), #[(.tmp (21 : Nat)), (.tmp (22 : Nat)), (.tmp (23 : Nat))], #[24, 22, 22]⟩, none⟩,
  ⟨(some 20), .move (.tmp (24 : Nat)), none⟩,
  ⟨(some 25), .extract (.tmp (20 : Nat)) 0, none⟩,
  ⟨(some 26), .extract (.tmp (20 : Nat)) 1, none⟩,
  ⟨(some 27), .extract (.tmp (20 : Nat)) 2, none⟩,
  ⟨(some 5), .assign (.tmp (25 : Nat)), none⟩,
  ⟨(some 6), .assign (.tmp (26 : Nat)), none⟩,
  ⟨(some 7), .assign (.tmp (27 : Nat)), none⟩]
def K2_gridWorks_r4 : List SO := [⟨(some 28), .move (.tmp (2 : Nat)), none⟩,
  ⟨(some 29), .binOp .eql 26 (.tmp (28 : Nat)) (.const (.int .i64 0)) 26, none⟩,
  ⟨(some 30), .move (.tmp (29 : Nat)), none⟩,
  ⟨(some 31), .move (.tmp (1 : Nat)), (some (30, true))⟩,
  ⟨(some 32), .buildSlice 22 1 #[(0, (.const (.int .i64 25)))], (some (30, true))⟩,
  ⟨(some 33), .call ⟨(.value (.func (23 : Nat))), #[(.tmp (31 : Nat)), (.tmp (32 : Nat))], #[22, 22]⟩, (some (30, true))⟩,
  ⟨(some 34), .pick (.tmp (30 : Nat)) (.tmp (33 : Nat)) (.const (.bool false)), none⟩,
  ⟨(some 35), .move (.tmp (34 : Nat)), none⟩,
  ⟨(some 36), .move (.tmp (4 : Nat)), (some (35, true))⟩,
  ⟨(some 37), .binOp .eql 26 (.tmp (36 : Nat)) (.const (.int .i64 0)) 26, (some (35, true))⟩,
  ⟨(some 38), .pick (.tmp (35 : Nat)) (.tmp (37 : Nat)) (.const (.bool false)), none⟩,
  ⟨(some 39), .move (.tmp (38 : Nat)), none⟩,
  ⟨(some 40), .move (.tmp (3 : Nat)), (some (39, true))⟩,
  ⟨(some 41), .buildSlice 22 1 #[(0, (.const (.int .i64 20)))], (some (39, true))⟩,
  ⟨(some 42), .call ⟨(.value (.func (23 : Nat))), #[(.tmp (40 : Nat)), (.tmp (41 : Nat))], #[22, 22]⟩, (some (39, true))⟩,
  ⟨(some 43), .pick (.tmp (39 : Nat)) (.tmp (42 : Nat)) (.const (.bool false)), none⟩,
  ⟨(some 44), .move (.tmp (43 : Nat)), none⟩,
  ⟨(some 45), .move (.tmp (7 : Nat)), (some (44, true))⟩,
  ⟨(some 46), .binOp .eql 26 (.tmp (45 : Nat)) (.const (.int .i64 0)) 26, (some (44, true))⟩,
  ⟨(some 47), .pick (.tmp (44 : Nat)) (.tmp (46 : Nat)) (.const (.bool false)), none⟩,
  ⟨(some 48), .move (.tmp (47 : Nat)), none⟩,
  ⟨(some 49), .move (.tmp (5 : Nat)), (some (48, true))⟩,
  ⟨(some 50), .buildSlice 22 1 #[(0, (.const (.int .i64 0)))], (some (48, true))⟩,
  ⟨(some 51), .call ⟨(.value (.func (23 : Nat))), #[(.tmp (49 : Nat)), (.tmp (50 : Nat))], #[22, 22]⟩, (some (48, true))⟩,
  ⟨(some 52), .pick (.tmp (48 : Nat)) (.tmp (51 : Nat)) (.const (.bool false)), none⟩,
  ⟨(some 53), .move (.tmp (52 : Nat)), none⟩,
  ⟨(some 54), .move (.tmp (6 : Nat)), (some (53, true))⟩,
  ⟨(some 55), .buildSlice 22 1 #[(0, (.const (.int .i64 10)))], (some (53, true))⟩,
  ⟨(some 56), .call ⟨(.value (.func (23 : Nat))), #[(.tmp (54 : Nat)), (.tmp (55 : Nat))], #[22, 22]⟩, (some (53, true))⟩,
  ⟨(some 57), .pick (.tmp (53 : Nat)) (.tmp (56 : Nat)) (.const (.bool false)), none⟩,
  ⟨(some 0), .assign (.tmp (57 : Nat)), none⟩]
def K2_gridWorks_c : SF := ⟨58, (.seq (.reg K2_gridWorks_r0)
  (.seq (.reg K2_gridWorks_r1)
  (.seq (.reg K2_gridWorks_r2)
  (.seq (.reg K2_gridWorks_r3)
  (.seq (.reg K2_gridWorks_r4)
  .ret))))), [.tmp 0]⟩
theorem K2_gridWorks_s : slimF Try.prog 15 = some K2_gridWorks_c := by kernel_rfl
abbrev K2_gridWorks_f : Nat := 15
/-- printworks/printworkskeep2.profileWorks -/
def K2_profileWorks_r0 : List SO := [⟨(some 0), .assign (.const (.bool false)), none⟩]
def K2_profileWorks_r1 : List SO := [⟨(some 8), .call ⟨(.value (.func (58 : Nat))), #[], #[]⟩, none⟩,
  ⟨(some 9), .buildSlice 22 1 #[(0, (.const (.int .i64 128)))], none⟩,
  ⟨(some 10), .call ⟨(.value (.func (29 : Nat))), #[(.tmp (8 : Nat)), (.tmp (9 : Nat))], #[45, 22]⟩, none⟩,
  ⟨(some 7), .move (.tmp (10 : Nat)), none⟩,
  ⟨(some 11), .extract (.tmp (7 : Nat)) 0, none⟩,
  ⟨(some 12), .extract (.tmp (7 : Nat)) 1, none⟩,
  ⟨(some 1), .alloc 53, none⟩,
  ⟨none, .store 53 (.tmp (1 : Nat)) (.tmp (11 : Nat)), none⟩,
  ⟨(some 2), .assign (.tmp (12 : Nat)), none⟩]
def K2_profileWorks_r2 : List SO := [⟨(some 14), .call ⟨(.value (.func (58 : Nat))), #[], #[]⟩, none⟩,
  ⟨(some 15), .call ⟨(.value (.func (59 : Nat))), #[(.tmp (14 : Nat))], #[45]⟩, none⟩,
  ⟨(some 13), .move (.tmp (15 : Nat)), none⟩,
  ⟨(some 16), .extract (.tmp (13 : Nat)) 0, none⟩,
  ⟨(some 17), .extract (.tmp (13 : Nat)) 1, none⟩,
  ⟨(some 3), .assign (.tmp (16 : Nat)), none⟩,
  ⟨(some 4), .assign (.tmp (17 : Nat)), none⟩]
def K2_profileWorks_r3 : List SO := [⟨(some 19), .move (.tmp (3 : Nat)), none⟩,
  ⟨(some 20), .call ⟨(.value (.func (60 : Nat))), #[(.tmp (19 : Nat))], #[57]⟩, none⟩,
  ⟨(some 18), .move (.tmp (20 : Nat)), none⟩,
  ⟨(some 21), .extract (.tmp (18 : Nat)) 0, none⟩,
  ⟨(some 22), .extract (.tmp (18 : Nat)) 1, none⟩,
  ⟨(some 5), .assign (.tmp (21 : Nat)), none⟩,
  ⟨(some 6), .assign (.tmp (22 : Nat)), none⟩]
def K2_profileWorks_r4 : List SO := [⟨(some 23), .move (.tmp (2 : Nat)), none⟩,
  ⟨(some 24), .binOp .eql 26 (.tmp (23 : Nat)) (.const (.int .i64 0)) 26, none⟩,
  ⟨(some 25), .move (.tmp (24 : Nat)), none⟩,
  ⟨(some 26), .load 53 (.tmp (1 : Nat)), (some (25, true))⟩,
  ⟨(some 27), .build 53 #[(0, (.const (.int .i64 5984))), (1, (.const (.int .i64 50))), (2, (.const (.int .i64 (-50))))], (some (25, true))⟩,
  ⟨(some 28), .binOp .eql 53 (.tmp (26 : Nat)) (.tmp (27 : Nat)) 53, (some (25, true))⟩,
  ⟨(some 29), .pick (.tmp (25 : Nat)) (.tmp (28 : Nat)) (.const (.bool false)), none⟩,
  ⟨(some 30), .move (.tmp (29 : Nat)), none⟩,
  ⟨(some 31), .move (.tmp (4 : Nat)), (some (30, true))⟩,
  ⟨(some 32), .binOp .eql 26 (.tmp (31 : Nat)) (.const (.int .i64 0)) 26, (some (30, true))⟩,
  ⟨(some 33), .pick (.tmp (30 : Nat)) (.tmp (32 : Nat)) (.const (.bool false)), none⟩,
  ⟨(some 34), .move (.tmp (33 : Nat)), none⟩,
  ⟨(some 35), .move (.tmp (3 : Nat)), (some (34, true))⟩,
  ⟨(some 36), .call ⟨(.builtin .len), #[(.tmp (35 : Nat))], #[57]⟩, (some (34, true))⟩,
  ⟨(some 37), .binOp .eql 3 (.tmp (36 : Nat)) (.const (.int .i64 104)) 3, (some (34, true))⟩,
  ⟨(some 38), .pick (.tmp (34 : Nat)) (.tmp (37 : Nat)) (.const (.bool false)), none⟩,
  ⟨(some 39), .move (.tmp (38 : Nat)), none⟩,
  ⟨(some 40), .move (.tmp (6 : Nat)), (some (39, true))⟩,
  ⟨(some 41), .binOp .eql 26 (.tmp (40 : Nat)) (.const (.int .i64 0)) 26, (some (39, true))⟩,
  ⟨(some 42), .pick (.tmp (39 : Nat)) (.tmp (41 : Nat)) (.const (.bool false)), none⟩,
  ⟨(some 43), .move (.tmp (42 : Nat)), none⟩,
  ⟨(some 44), .move (.tmp (5 : Nat)), (some (43, true))⟩,
  ⟨(some 45), .buildSlice 42 4 #[(0, (.const (.string ⟨([110, 97, 109, 101] : List UInt8).toArray⟩))), (1, (.const (.string ⟨([105, 110, 107, 115] : List UInt8).toArray⟩))), (2, (.const (.string ⟨([99, 117, 114, 118] : List UInt8).toArray⟩))), (3, (.const (.string ⟨([103, 114, 105, 100] : List UInt8).toArray⟩)))], (some (43, true))⟩,
  ⟨(some 46), .call ⟨(.value (.func (61 : Nat))), #[(.tmp (44 : Nat)), (.tmp (45 : Nat))], #[42, 42]⟩, (some (43, true))⟩,
  ⟨(some 47), .pick (.tmp (43 : Nat)) (.tmp (46 : Nat)) (.const (.bool false)), none⟩,
  ⟨(some 48), .move (.tmp (47 : Nat)), none⟩,
  ⟨(some 49), .buildSlice 57 9 #[(0, (.const (.int .u8 49))), (1, (.const (.int .u8 50))), (2, (.const (.int .u8 51))), (3, (.const (.int .u8 52))), (4, (.const (.int .u8 53))), (5, (.const (.int .u8 54))), (6, (.const (.int .u8 55))), (7, (.const (.int .u8 56))), (8, (.const (.int .u8 57)))], (some (48, true))⟩,
  ⟨(some 50), .convert 57 57 (.tmp (49 : Nat)), (some (48, true))⟩,
  ⟨(some 51), .call ⟨(.value (.func (62 : Nat))), #[(.tmp (50 : Nat))], #[57]⟩, (some (48, true))⟩,
  ⟨(some 52), .binOp .eql 3 (.tmp (51 : Nat)) (.const (.int .i64 3421780262)) 3, (some (48, true))⟩,
  ⟨(some 53), .pick (.tmp (48 : Nat)) (.tmp (52 : Nat)) (.const (.bool false)), none⟩,
  ⟨(some 0), .assign (.tmp (53 : Nat)), none⟩]
def K2_profileWorks_c : SF := ⟨54, (.seq (.reg K2_profileWorks_r0)
  (.seq (.reg K2_profileWorks_r1)
  (.seq (.reg K2_profileWorks_r2)
  (.seq (.reg K2_profileWorks_r3)
  (.seq (.reg K2_profileWorks_r4)
  .ret))))), [.tmp 0]⟩
theorem K2_profileWorks_s : slimF Try.prog 26 = some K2_profileWorks_c := by kernel_rfl
abbrev K2_profileWorks_f : Nat := 26
/-- printworks/printworkskeep2.rangecoderWorks -/
def K2_rangecoderWorks_r0 : List SO := [⟨(some 0), .assign (.const (.bool false)), none⟩]
def K2_rangecoderWorks_r1 : List SO := [⟨(some 8), .buildSlice 22 1 #[(0, (.const (.int .i64 0)))], none⟩,
  ⟨(some 9), .buildSlice 22 1 #[(0, (.const (.int .i64 1)))], none⟩,
  ⟨(some 10), .call ⟨(.value (.func (31 : Nat))), #[(.const (.int .i64 1)), (.tmp (8 : Nat)), (.tmp (9 : Nat))], #[3, 22, 22]⟩, none⟩,
  ⟨(some 7), .move (.tmp (10 : Nat)), none⟩,
  ⟨(some 11), .extract (.tmp (7 : Nat)) 0, none⟩,
  ⟨(some 12), .extract (.tmp (7 : Nat)) 1, none⟩,
  ⟨(some 1), .assign (.tmp (11 : Nat)), none⟩,
  ⟨(some 2), .assign (.tmp (12 : Nat)), none⟩]
def K2_rangecoderWorks_r2 : List SO := [⟨(some 14), .buildSlice 22 1 #[(0, (.const (.int .i64 0)))], none⟩,
  ⟨(some 15), .buildSlice 22 1 #[(0, (.const (.int .i64 0)))], none⟩,
  ⟨(some 16), .call ⟨(.value (.func (31 : Nat))), #[(.const (.int .i64 1)), (.tmp (14 : Nat)), (.tmp (15 : Nat))], #[3, 22, 22]⟩, none⟩,
  ⟨(some 13), .move (.tmp (16 : Nat)), none⟩,
  ⟨(some 17), .extract (.tmp (13 : Nat)) 0, none⟩,
  ⟨(some 18), .extract (.tmp (13 : Nat)) 1, none⟩,
  ⟨(some 3), .assign (.tmp (17 : Nat)), none⟩,
  ⟨(some 4), .assign (.tmp (18 : Nat)), none⟩]
def K2_rangecoderWorks_r3 : List SO := [⟨(some 20), .buildSlice 57 4 #[(0, (.const (.int .u8 127))), (1, (.const (.int .u8 255))), (2, (.const (.int .u8 255))), (3, (.const (.int .u8 255)))], none⟩,
  ⟨(some 21), .buildSlice 22 1 #[(0, (.const (.int .i64 0)))], none⟩,
  ⟨(some 22), .call ⟨(.value (.func (32 : Nat))), #[(.const (.int .i64 1)), (.tmp (20 : Nat)), (.tmp (21 : Nat))], #[3, 57, 22]⟩, none⟩,
  ⟨(some 19), .move (.tmp (22 : Nat)), none⟩,
  ⟨(some 23), .extract (.tmp (19 : Nat)) 0, none⟩,
  ⟨(some 24), .extract (.tmp (19 : Nat)) 1, none⟩,
  ⟨(some 5), .assign (.tmp (23 : Nat)), none⟩,
  ⟨(some 6), .assign (.tmp (24 : Nat)), none⟩]
def K2_rangecoderWorks_r4 : List SO := [⟨(some 25), .move (.tmp (2 : Nat)), none⟩,
  ⟨(some 26), .binOp .eql 26 (.tmp (25 : Nat)) (.const (.int .i64 0)) 26, none⟩,
  ⟨(some 27), .move (.tmp (26 : Nat)), none⟩,
  ⟨(some 28), .move (.tmp (1 : Nat)), (some (27, true))⟩,
  ⟨(some 29), .buildSlice 57 4 #[(0, (.const (.int .u8 127))), (1, (.const (.int .u8 255))), (2, (.const (.int .u8 255))), (3, (.const (.int .u8 255)))], (some (27, true))⟩,
  ⟨(some 30), .call ⟨(.value (.func (36 : Nat))), #[(.tmp (28 : Nat)), (.tmp (29 : Nat))], #[57, 57]⟩, (some (27, true))⟩,
  ⟨(some 31), .pick (.tmp (27 : Nat)) (.tmp (30 : Nat)) (.const (.bool false)), none⟩,
  ⟨(some 32), .move (.tmp (31 : Nat)), none⟩,
  ⟨(some 33), .move (.tmp (4 : Nat)), (some (32, true))⟩,
  ⟨(some 34), .binOp .eql 26 (.tmp (33 : Nat)) (.const (.int .i64 0)) 26, (some (32, true))⟩,
  ⟨(some 35), .pick (.tmp (32 : Nat)) (.tmp (34 : Nat)) (.const (.bool false)), none⟩,
  ⟨(some 36), .move (.tmp (35 : Nat)), none⟩,
  ⟨(some 37), .move (.tmp (3 : Nat)), (some (36, true))⟩,
  ⟨(some 38), .call ⟨(.builtin .len), #[(.tmp (37 : Nat))], #[57]⟩, (some (36, true))⟩,
  ⟨(some 39), .binOp .eql 3 (.tmp (38 : Nat)) (.const (.int .i64 0)) 3, (some (36, true))⟩,
  ⟨(some 40), .pick (.tmp (36 : Nat)) (.tmp (39 : Nat)) (.const (.bool false)), none⟩,
  ⟨(some 41), .move (.tmp (40 : Nat)), none⟩,
  ⟨(some 42), .move (.tmp (6 : Nat)), (some (41, true))⟩,
  ⟨(some 43), .binOp .eql 26 (.tmp (42 : Nat)) (.const (.int .i64 0)) 26, (some (41, true))⟩,
  ⟨(some 44), .pick (.tmp (41 : Nat)) (.tmp (43 : Nat)) (.const (.bool false)), none⟩,
  ⟨(some 45), .move (.tmp (44 : Nat)), none⟩,
  ⟨(some 46), .move (.tmp (5 : Nat)), (some (45, true))⟩,
  ⟨(some 47), .buildSlice 22 1 #[(0, (.const (.int .i64 1)))], (some (45, true))⟩,
  ⟨(some 48), .call ⟨(.value (.func (23 : Nat))), #[(.tmp (46 : Nat)), (.tmp (47 : Nat))], #[22, 22]⟩, (some (45, true))⟩,
  ⟨(some 49), .pick (.tmp (45 : Nat)) (.tmp (48 : Nat)) (.const (.bool false)), none⟩,
  ⟨(some 0), .assign (.tmp (49 : Nat)), none⟩]
def K2_rangecoderWorks_c : SF := ⟨50, (.seq (.reg K2_rangecoderWorks_r0)
  (.seq (.reg K2_rangecoderWorks_r1)
  (.seq (.reg K2_rangecoderWorks_r2)
  (.seq (.reg K2_rangecoderWorks_r3)
  (.seq (.reg K2_rangecoderWorks_r4)
  .ret))))), [.tmp 0]⟩
theorem K2_rangecoderWorks_s : slimF Try.prog 30 = some K2_rangecoderWorks_c := by kernel_rfl
abbrev K2_rangecoderWorks_f : Nat := 30
/-- printworks/printworkskeep2.reedsolomonWorks -/
def K2_reedsolomonWorks_r0 : List SO := [⟨(some 0), .assign (.const (.bool false)), none⟩]
def K2_reedsolomonWorks_r1 : List SO := [⟨(some 9), .buildSlice 57 1 #[(0, (.const (.int .u8 1)))], none⟩,
  ⟨(some 10), .call ⟨(.value (.func (40 : Nat))), #[(.tmp (9 : Nat)), (.const (.int .i64 2))], #[57, 3]⟩, none⟩,
  ⟨(some 8), .move (.tmp (10 : Nat)), none⟩,
  ⟨(some 11), .extract (.tmp (8 : Nat)) 0, none⟩,
  ⟨(some 12), .extract (.tmp (8 : Nat)) 1, none⟩,
  ⟨(some 1), .assign (.tmp (11 : Nat)), none⟩,
  ⟨(some 2), .assign (.tmp (12 : Nat)), none⟩]
def K2_reedsolomonWorks_r2 : List SO := [⟨(some 14), .buildSlice 57 3 #[(0, (.const (.int .u8 0))), (1, (.const (.int .u8 3))), (2, (.const (.int .u8 2)))], none⟩,
  ⟨(some 15), .call ⟨(.value (.func (42 : Nat))), #[(.tmp (14 : Nat)), (.const (.int .i64 2)), (.const (.slice none 0 0))], #[57, 3, 22]⟩, none⟩,
  ⟨(some 13), .move (.tmp (15 : Nat)), none⟩,
  ⟨(some 16), .extract (.tmp (13 : Nat)) 0, none⟩,
  ⟨(some 17), .extract (.tmp (13 : Nat)) 1, none⟩,
  ⟨(some 18), .extract (.tmp (13 : Nat)) 2, none⟩,
  ⟨(some 3), .assign (.tmp (16 : Nat)), none⟩,
  ⟨(some 4), .assign (.tmp (17 : Nat)), none⟩,
  ⟨(some 5), .assign (.tmp (18 : Nat)), none⟩]
def K2_reedsolomonWorks_r3 : List SO := [⟨(some 20), .call ⟨(.value (.func (75 : Nat))), #[(.const (.int .u8 2))], #[5]⟩, none⟩,
  ⟨(some 19), .move (.tmp (20 : Nat)), none⟩,
  ⟨(some 21), .extract (.tmp (19 : Nat)) 0, none⟩,
  ⟨(some 22), .extract (.tmp (19 : Nat)) 1, none⟩,
  ⟨(some 6), .assign (.tmp (21 : Nat)), none⟩,
  ⟨(some 7), .assign (.tmp (22 : Nat)), none⟩]
def K2_reedsolomonWorks_r4 : List SO := [⟨(some 23), .move (.tmp (2 : Nat)), none⟩,
  ⟨(some 24), .binOp .eql 26 (.tmp (23 : Nat)) (.const (.int .i64 0)) 26, none⟩,
  ⟨(some 25), .move (.tmp (24 : Nat)), none⟩,
  ⟨(some 26), .move (.tmp (1 : Nat)), (some (25, true))⟩,
  ⟨(some 27), .buildSlice 57 3 #[(0, (.const (.int .u8 1))), (1, (.const (.int .u8 3))), (2, (.const (.int .u8 2)))], (some (25, true))⟩,
  ⟨(some 28), .call ⟨(.value (.func (36 : Nat))), #[(.tmp (26 : Nat)), (.tmp (27 : Nat))], #[57, 57]⟩, (some (25, true))⟩,
  ⟨(some 29), .pick (.tmp (25 : Nat)) (.tmp (28 : Nat)) (.const (.bool false)), none⟩,
  ⟨(some 30), .move (.tmp (29 : Nat)), none⟩,
  ⟨(some 31), .move (.tmp (5 : Nat)), (some (30, true))⟩,
  ⟨(some 32), .binOp .eql 26 (.tmp (31 : Nat)) (.const (.int .i64 0)) 26, (some (30, true))⟩,
  ⟨(some 33), .pick (.tmp (30 : Nat)) (.tmp (32 : Nat)) (.const (.bool false)), none⟩,
  ⟨(some 34), .move (.tmp (33 : Nat)), none⟩,
  ⟨(some 35), .move (.tmp (4 : Nat)), (some (34, true))⟩,
  ⟨(some 36), .binOp .eql 3 (.tmp (35 : Nat)) (.const (.int .i64 1)) 3, (some (34, true))⟩,
  ⟨(some 37), .pick (.tmp (34 : Nat)) (.tmp (36 : Nat)) (.const (.bool false)), none⟩,
  ⟨(some 38), .move (.tmp (37 : Nat)), none⟩,
  ⟨(some 39), .move (.tmp (3 : Nat)), (some (38, true))⟩,
  ⟨(some 40), .move (.tmp (1 : Nat)), (some (38, true))⟩,
  ⟨(some 41), .call ⟨(.value (.func (36 : Nat))), #[(.tmp (39 : Nat)), (.tmp (40 : Nat))], #[57, 57]⟩, (some (38, true))⟩,
  ⟨(some 42), .pick (.tmp (38 : Nat)) (.tmp (41 : Nat)) (.const (.bool false)), none⟩,
  ⟨(some 43), .move (.tmp (42 : Nat)), none⟩,
  ⟨(some 44), .move (.tmp (7 : Nat)), (some (43, true))⟩,
  ⟨(some 45), .binOp .eql 26 (.tmp (44 : Nat)) (.const (.int .i64 0)) 26, (some (43, true))⟩,
  ⟨(some 46), .pick (.tmp (43 : Nat)) (.tmp (45 : Nat)) (.const (.bool false)), none⟩,
  ⟨(some 47), .move (.tmp (46 : Nat)), none⟩,
  ⟨(some 48), .move (.tmp (6 : Nat)), (some (47, true))⟩,
  ⟨(some 49), .binOp .eql 5 (.tmp (48 : Nat)) (.const (.int .u8 142)) 5, (some (47, true))⟩,
  ⟨(some 50), .pick (.tmp (47 : Nat)) (.tmp (49 : Nat)) (.const (.bool false)), none⟩,
  ⟨(some 51), .move (.tmp (50 : Nat)), none⟩,
  ⟨(some 52), .call ⟨(.value (.func (76 : Nat))), #[(.const (.int .u8 2)), (.const (.int .u8 128))], #[5, 5]⟩, (some (51, true))⟩,
  ⟨(some 53), .binOp .eql 5 (.tmp (52 : Nat)) (.const (.int .u8 29)) 5, (some (51, true))⟩,
  ⟨(some 54), .pick (.tmp (51 : Nat)) (.tmp (53 : Nat)) (.const (.bool false)), none⟩,
  ⟨(some 0), .assign (.tmp (54 : Nat)), none⟩]
def K2_reedsolomonWorks_c : SF := ⟨55, (.seq (.reg K2_reedsolomonWorks_r0)
  (.seq (.reg K2_reedsolomonWorks_r1)
  (.seq (.reg K2_reedsolomonWorks_r2)
  (.seq (.reg K2_reedsolomonWorks_r3)
  (.seq (.reg K2_reedsolomonWorks_r4)
  .ret))))), [.tmp 0]⟩
theorem K2_reedsolomonWorks_s : slimF Try.prog 39 = some K2_reedsolomonWorks_c := by kernel_rfl
abbrev K2_reedsolomonWorks_f : Nat := 39
/-- printworks/printworkskeep2.screenWorks -/
def K2_screenWorks_r0 : List SO := [⟨(some 0), .assign (.const (.bool false)), none⟩]
def K2_screenWorks_r1 : List SO := [⟨(some 13), .build 84 #[(0, (.const (.int .i64 2))), (1, (.const (.int .i64 1)))], none⟩,
  ⟨(some 1), .alloc 84, none⟩,
  ⟨none, .store 84 (.tmp (1 : Nat)) (.tmp (13 : Nat)), none⟩]
def K2_screenWorks_r2 : List SO := [⟨(some 15), .load 84 (.tmp (1 : Nat)), none⟩,
  ⟨(some 16), .call ⟨(.value (.func (45 : Nat))), #[(.tmp (15 : Nat)), (.const (.int .i64 1)), (.const (.int .i64 1))], #[84, 3, 3]⟩, none⟩,
  ⟨(some 14), .move (.tmp (16 : Nat)), none⟩,
  ⟨(some 17), .extract (.tmp (14 : Nat)) 0, none⟩,
  ⟨(some 18), .extract (.tmp (14 : Nat)) 1, none⟩,
  ⟨(some 2), .assign (.tmp (17 : Nat)), none⟩,
  ⟨(some 3), .assign (.tmp (18 : Nat)), none⟩]
def K2_screenWorks_r3 : List SO := [⟨(some 20), .load 84 (.tmp (1 : Nat)), none⟩,
  ⟨(some 21), .call ⟨(.value (.func (83 : Nat))), #[(.tmp (20 : Nat))], #[84]⟩, none⟩,
  ⟨(some 19), .move (.tmp (21 : Nat)), none⟩,
  ⟨(some 22), .extract (.tmp (19 : Nat)) 0, none⟩,
  ⟨(some 23), .extract (.tmp (19 : Nat)) 1, none⟩,
  ⟨(some 4), .assign (.tmp (22 : Nat)), none⟩,
  ⟨(some 5), .assign (.tmp (23 : Nat)), none⟩]
def K2_screenWorks_r4 : List SO := [⟨(some 25), .load 84 (.tmp (1 : Nat)), none⟩,
  ⟨(some 26), .call ⟨(.value (.func (84 : Nat))), #[(.tmp (25 : Nat)), (.const (.int .i64 128))], #[84, 3]⟩, none⟩,
  ⟨(some 24), .move (.tmp (26 : Nat)), none⟩,
  ⟨(some 27), .extract (.tmp (24 : Nat)) 0, none⟩,
  ⟨(some 28), .extract (.tmp (24 : Nat)) 1, none⟩,
  ⟨(some 6), .assign (.tmp (27 : Nat)), none⟩,
  ⟨(some 7), .assign (.tmp (28 : Nat)), none⟩]
def K2_screenWorks_r5 : List SO := [⟨(some 30), .load 84 (.tmp (1 : Nat)), none⟩,
  ⟨(some 31), .build 84 #[(0, (.const (.int .i64 1))), (1, (.const (.int .i64 1)))], none⟩,
  ⟨(some 32), .call ⟨(.value (.func (46 : Nat))), #[(.tmp (30 : Nat)), (.tmp (31 : Nat))], #[84, 84]⟩, none⟩,
  ⟨(some 29), .move (.tmp (32 : Nat)), none⟩,
  ⟨(some 33), .extract (.tmp (29 : Nat)) 0, none⟩,
  ⟨(some 34), .extract (.tmp (29 : Nat)) 1, none⟩,
  ⟨(some 8), .alloc 91, none⟩,
  ⟨none, .store 91 (.tmp (8 : Nat)) (.tmp (33 : Nat)), none⟩,
  ⟨(some 9), .assign (.tmp (34 : Nat)), none⟩]
def K2_screenWorks_r6 : List SO := [⟨(some 36), .load 84 (.tmp (1 : Nat)), none⟩,
  ⟨(some 37), .build 84 #[(0, (.const (.int .i64 1))), (1, (.const (.int .i64 1)))], none⟩,
  ⟨(some 38), .call ⟨(.value (.func (85 : Nat))), #[(.tmp (36 : Nat)), (.tmp (37 : Nat))], #[84, 84]⟩, none⟩,
  ⟨(some 35), .move (.tmp (38 : Nat)), none⟩,
  ⟨(some 39), .extract (.tmp (35 : Nat)) 0, none⟩,
  ⟨(some 40), .extract (.tmp (35 : Nat)) 1, none⟩,
  ⟨(some 41), .extract (.tmp (35 : Nat)) 2, none⟩,
  ⟨(some 10), .assign (.tmp (39 : Nat)), none⟩,
  ⟨(some 11), .assign (.tmp (40 : Nat)), none⟩,
  ⟨(some 12), .assign (.tmp (41 : Nat)), none⟩]
def K2_screenWorks_r7 : List SO := [⟨(some 42), .move (.tmp (3 : Nat)), none⟩,
  ⟨(some 43), .binOp .eql 26 (.tmp (42 : Nat)) (.const (.int .i64 0)) 26, none⟩,
  ⟨(some 44), .move (.tmp (43 : Nat)), none⟩,
  ⟨(some 45), .move (.tmp (2 : Nat)), (some (44, true))⟩,
  ⟨(some 46), .binOp .eql 3 (.tmp (45 : Nat)) (.const (.int .i64 4)) 3, (some (44, true))⟩,
  ⟨(some 47), .pick (.tmp (44 : Nat)) (.tmp (46 : Nat)) (.const (.bool false)), none⟩,
  ⟨(some 48), .move (.tmp (47 : Nat)), none⟩,
  ⟨(some 49), .move (.tmp (5 : Nat)), (some (48, true))⟩,
  ⟨(some 50), .binOp .eql 26 (.tmp (49 : Nat)) (.const (.int .i64 0)) 26, (some (48, true))⟩,
  ⟨(some 51), .pick (.tmp (48 : Nat)) (.tmp (50 : Nat)) (.const (.bool false)), none⟩,
  ⟨(some 52), .move (.tmp (51 : Nat)), none⟩,
  ⟨(some 53), .move (.tmp (4 : Nat)), (some (52, true))⟩,
  ⟨(some 54), .buildSlice 22 5 #[(0, (.const (.int .i64 0))), (1, (.const (.int .i64 1))), (2, (.const (.int .i64 2))), (3, (.const (.int .i64 3))), (4, (.const (.int .i64 4)))], (some (52, true))⟩,
  ⟨(some 55), .call ⟨(.value (.func (23 : Nat))), #[(.tmp (53 : Nat)), (.tmp (54 : Nat))], #[22, 22]⟩, (some (52, true))⟩,
  ⟨(some 56), .pick (.tmp (52 : Nat)) (.tmp (55 : Nat)) (.const (.bool false)), none⟩,
  ⟨(some 57), .move (.tmp (56 : Nat)), none⟩,
  ⟨(some 58), .move (.tmp (7 : Nat)), (some (57, true))⟩,
  ⟨(some 59), .binOp .eql 26 (.tmp (58 : Nat)) (.const (.int .i64 0)) 26, (some (57, true))⟩,
  ⟨(some 60), .pick (.tmp (57 : Nat)) (.tmp (59 : Nat)) (.const (.bool false)), none⟩,
  ⟨(some 61), .move (.tmp (60 : Nat)), none⟩,
  ⟨(some 62), .move (.tmp (6 : Nat)), (some (61, true))⟩,
  ⟨(some 63), .binOp .eql 3 (.tmp (62 : Nat)) (.const (.int .i64 3)) 3, (some (61, true))⟩,
  ⟨(some 64), .pick (.tmp (61 : Nat)) (.tmp (63 : Nat)) (.const (.bool false)), none⟩,
  ⟨(some 65), .move (.tmp (64 : Nat)), none⟩,
  ⟨(some 66), .move (.tmp (9 : Nat)), (some (65, true))⟩,
  ⟨(some 67), .binOp .eql 26 (.tmp (66 : Nat)) (.const (.int .i64 0)) 26, (some (65, true))⟩,
  ⟨(some 68), .pick (.tmp (65 : Nat)) (.tmp (67 : Nat)) (.const (.bool false)), none⟩,
  ⟨(some 69), .move (.tmp (68 : Nat)), none⟩,
  ⟨(some 70), .load 91 (.tmp (8 : Nat)), (some (69, true))⟩,
  ⟨(some 71), .build 91 #[(0, (.const (.int .i64 10))), (1, (.const (.int .i64 7))), (2, (.const (.int .i64 1)))], (some (69, true))⟩,
  ⟨(some 72), .binOp .eql 91 (.tmp (70 : Nat)) (.tmp (71 : Nat)) 91, (some (69, true))⟩,
  ⟨(some 73), .pick (.tmp (69 : Nat)) (.tmp (72 : Nat)) (.const (.bool false)), none⟩,
  ⟨(some 74), .move (.tmp (73 : Nat)), none⟩,
  ⟨(some 75), .move (.tmp (12 : Nat)), (some (74, true))⟩,
  ⟨(some 76), .binOp .eql 26 (.tmp (75 : Nat)) (.const (.int .i64 0)) 26, (some (74, true))⟩,
  ⟨(some 77), .pick (.tmp (74 : Nat)) (.tmp (76 : Nat)) (.const (.bool false)), none⟩,
  ⟨(some 78), .move (.tmp (77 : Nat)), none⟩,
  ⟨(some 79), .move (.tmp (10 : Nat)), (some (78, true))⟩,
  ⟨(some 80), .binOp .eql 3 (.tmp (79 : Nat)) (.const (.int .i64 1)) 3, (some (78, true))⟩,
  ⟨(some 81), .pick (.tmp (78 : Nat)) (.tmp (80 : Nat)) (.const (.bool false)), none⟩,
  ⟨(some 82), .move (.tmp (81 : Nat)), none⟩,
  ⟨(some 83), .move (.tmp (11 : Nat)), (some (82, true))⟩,
  ⟨(some 84), .binOp .eql 3 (.tmp (83 : Nat)) (.const (.int .i64 10)) 3, (some (82, true))⟩,
  ⟨(some 85), .pick (.tmp (82 : Nat)) (.tmp (84 : Nat)) (.const (.bool false)), none⟩,
  ⟨(some 0), .assign (.tmp (85 : Nat)), none⟩]
def K2_screenWorks_c : SF := ⟨86, (.seq (.reg K2_screenWorks_r0)
  (.seq (.reg K2_screenWorks_r1)
  (.seq (.reg K2_screenWorks_r2)
  (.seq (.reg K2_screenWorks_r3)
  (.seq (.reg K2_screenWorks_r4)
  (.seq (.reg K2_screenWorks_r5)
  (.seq (.reg K2_screenWorks_r6)
  (.seq (.reg K2_screenWorks_r7)
  .ret)))))))), [.tmp 0]⟩
theorem K2_screenWorks_s : slimF Try.prog 43 = some K2_screenWorks_c := by kernel_rfl
abbrev K2_screenWorks_f : Nat := 43
/-- printworks/printworkskeep2.square -/
def K2_square_r0 : List SO := [⟨(some 0), .alloc 24, none⟩]
def K2_square_r1 : List SO := [⟨(some 1), .buildSlice 22 4 #[(0, (.const (.int .i64 0))), (1, (.const (.int .i64 10))), (2, (.const (.int .i64 20))), (3, (.const (.int .i64 60)))], none⟩,
  ⟨(some 2), .build 24 #[(0, (.const (.int .i64 2))), (1, (.const (.int .i64 1))), (2, (.const (.int .i64 2))), (3, (.tmp (1 : Nat)))], none⟩,
  ⟨none, .store 24 (.tmp (0 : Nat)) (.tmp (2 : Nat)), none⟩]
def K2_square_c : SF := ⟨3, (.seq (.reg K2_square_r0)
  (.seq (.reg K2_square_r1)
  .ret)), [.cell 0 24]⟩
theorem K2_square_s : slimF Try.prog 48 = some K2_square_c := by kernel_rfl
abbrev K2_square_f : Nat := 48
/-- printworks/printworkskeep2.one -/
def K2_one_r0 : List SO := [⟨(some 0), .alloc 45, none⟩]
def K2_one_r1 : List SO := [⟨(some 1), .buildSlice 42 1 #[(0, (.const (.string ⟨([98, 108, 97, 99, 107] : List UInt8).toArray⟩)))], none⟩,
  ⟨(some 2), .call ⟨(.value (.func (94 : Nat))), #[], #[]⟩, none⟩,
  ⟨(some 3), .buildSlice 43 1 #[(0, (.tmp (2 : Nat)))], none⟩,
  ⟨(some 4), .buildSlice 22 6 #[(0, (.const (.int .i64 10000))), (1, (.const (.int .i64 0))), (2, (.const (.int .i64 0))), (3, (.const (.int .i64 2000))), (4, (.const (.int .i64 100))), (5, (.const (.int .i64 (-100))))], none⟩,
  ⟨(some 5), .build 24 #[(0, (.const (.int .i64 1))), (1, (.const (.int .i64 3))), (2, (.const (.int .i64 2))), (3, (.tmp (4 : Nat)))], none⟩,
  ⟨(some 6), .build 45 #[(0, (.const (.string ⟨([112, 49] : List UInt8).toArray⟩))), (1, (.tmp (1 : Nat))), (2, (.tmp (3 : Nat))), (3, (.tmp (5 : Nat)))], none⟩,
  ⟨none, .store 45 (.tmp (0 : Nat)) (.tmp (6 : Nat)), none⟩]
def K2_one_c : SF := ⟨7, (.seq (.reg K2_one_r0)
  (.seq (.reg K2_one_r1)
  .ret)), [.cell 0 45]⟩
theorem K2_one_s : slimF Try.prog 58 = some K2_one_c := by kernel_rfl
abbrev K2_one_f : Nat := 58
/-- printworks/printworkskeep2.line -/
def K2_line_r0 : List SO := [⟨(some 0), .alloc 51, none⟩]
def K2_line_r1 : List SO := [⟨(some 1), .build 160 #[], none⟩,
  ⟨(some 2), .build 160 #[(0, (.const (.int .i64 65280))), (1, (.const (.int .i64 65280)))], none⟩,
  ⟨(some 3), .buildSlice 49 2 #[(0, (.tmp (1 : Nat))), (1, (.tmp (2 : Nat)))], none⟩,
  ⟨(some 4), .build 51 #[(0, (.tmp (3 : Nat)))], none⟩,
  ⟨none, .store 51 (.tmp (0 : Nat)) (.tmp (4 : Nat)), none⟩]
def K2_line_c : SF := ⟨5, (.seq (.reg K2_line_r0)
  (.seq (.reg K2_line_r1)
  .ret)), [.cell 0 51]⟩
theorem K2_line_s : slimF Try.prog 94 = some K2_line_c := by kernel_rfl
abbrev K2_line_f : Nat := 94

def tbl_K2 : List (Nat × SF) := [(15, K2_gridWorks_c), (26, K2_profileWorks_c), (30, K2_rangecoderWorks_c), (39, K2_reedsolomonWorks_c), (43, K2_screenWorks_c), (48, K2_square_c), (58, K2_one_c), (94, K2_line_c)]
theorem tbl_K2_ok : okT Try.prog tbl_K2 := ⟨K2_gridWorks_s, K2_profileWorks_s, K2_rangecoderWorks_s, K2_reedsolomonWorks_s, K2_screenWorks_s, K2_square_s, K2_one_s, K2_line_s, trivial⟩

end Go.Proofs.Ythnfbdihihhoiaa
namespace Go.Proofs.Ythnfbdihihhoiaa
open Go Go.Lite
set_option linter.unusedVariables false

/-- slices.SortFunc[[]int,int] -/
def slices_SortFunc___int_int__r0 : List SO := [⟨(some 5), .move (.tmp (0 : Nat)), none⟩,
  ⟨(some 6), .call ⟨(.builtin .len), #[(.tmp (5 : Nat))], #[22]⟩, none⟩,
  ⟨(some 4), .assign (.tmp (6 : Nat)), none⟩]
def slices_SortFunc___int_int__r1 : List SO := [⟨(some 7), .move (.tmp (0 : Nat)), none⟩,
  ⟨(some 8), .move (.tmp (4 : Nat)), none⟩,
  ⟨(some 9), .move (.tmp (4 : Nat)), none⟩,
  ⟨(some 10), .convert 3 128 (.tmp (9 : Nat)), none⟩,
  ⟨(some 11), .call ⟨(.value (.func (113 : Nat))), #[(.tmp (10 : Nat))], #[128]⟩, none⟩,
  ⟨(some 12), .move (.tmp (1 : Nat)), none⟩,
  ⟨(some 13), .call ⟨(.value (.func (112 : Nat))), #[(.tmp (7 : Nat)), (.const (.int .i64 0)), (.tmp (8 : Nat)), (.tmp (11 : Nat)), (.tmp (12 : Nat))], #[22, 3, 3, 3, 28]⟩, none⟩]
def slices_SortFunc___int_int__c : SF := ⟨14, (.seq (.reg slices_SortFunc___int_int__r0)
  (.reg slices_SortFunc___int_int__r1)), []⟩
theorem slices_SortFunc___int_int__s : slimF Try.prog 110 = some slices_SortFunc___int_int__c := by kernel_rfl
abbrev slices_SortFunc___int_int__f : Nat := 110
/-- slices.pdqsortCmpFunc[int] -/
def slices_pdqsortCmpFunc_int__r0 : List SO := [⟨(some 10), .assign (.const (.bool true)), none⟩]
def slices_pdqsortCmpFunc_int__r1 : List SO := [⟨(some 11), .assign (.const (.bool true)), none⟩]
def slices_pdqsortCmpFunc_int__r2 : List SO := [⟨(some 21), .move (.tmp (2 : Nat)), none⟩,
  ⟨(some 22), .move (.tmp (1 : Nat)), none⟩,
  ⟨(some 23), .binOp .sub 3 (.tmp (21 : Nat)) (.tmp (22 : Nat)) 3, none⟩,
  ⟨(some 12), .assign (.tmp (23 : Nat)), none⟩]
def slices_pdqsortCmpFunc_int__r3 : List SO := [⟨(some 24), .move (.tmp (12 : Nat)), none⟩,
  ⟨(some 25), .binOp .leq 3 (.tmp (24 : Nat)) (.const (.int .i64 12)) 3, none⟩]
def slices_pdqsortCmpFunc_int__r4 : List SO := [⟨(some 26), .move (.tmp (0 : Nat)), none⟩,
  ⟨(some 27), .move (.tmp (1 : Nat)), none⟩,
  ⟨(some 28), .move (.tmp (2 : Nat)), none⟩,
  ⟨(some 29), .move (.tmp (4 : Nat)), none⟩,
  ⟨(some 30), .call ⟨(.value (.func (114 : Nat))), #[(.tmp (26 : Nat)), (.tmp (27 : Nat)), (.tmp (28 : Nat)), (.tmp (29 : Nat))], #[22, 3, 3, 28]⟩, none⟩]
def slices_pdqsortCmpFunc_int__r5 : List SO := [⟨(some 31), .move (.tmp (3 : Nat)), none⟩,
  ⟨(some 32), .binOp .eql 3 (.tmp (31 : Nat)) (.const (.int .i64 0)) 3, none⟩]
def slices_pdqsortCmpFunc_int__r6 : List SO := [⟨(some 33), .move (.tmp (0 : Nat)), none⟩,
  ⟨(some 34), .move (.tmp (1 : Nat)), none⟩,
  ⟨(some 35), .move (.tmp (2 : Nat)), none⟩,
  ⟨(some 36), .move (.tmp (4 : Nat)), none⟩,
  ⟨(some 37), .call ⟨(.value (.func (115 : Nat))), #[(.tmp (33 : Nat)), (.tmp (34 : Nat)), (.tmp (35 : Nat)), (.tmp (36 : Nat))], #[22, 3, 3, 28]⟩, none⟩]
def slices_pdqsortCmpFunc_int__r7 : List SO := [⟨(some 38), .move (.tmp (10 : Nat)), none⟩,
  ⟨(some 39), .unOp .not 4 (.tmp (38 : Nat)), none⟩]
def slices_pdqsortCmpFunc_int__r8 : List SO := [⟨(some 40), .move (.tmp (0 : Nat)), none⟩,
  ⟨(some 41), .move (.tmp (1 : Nat)), none⟩,
  ⟨(some 42), .move (.tmp (2 : Nat)), none⟩,
  ⟨(some 43), .move (.tmp (4 : Nat)), none⟩,
  ⟨(some 44), .call ⟨(.value (.func (116 : Nat))), #[(.tmp (40 : Nat)), (.tmp (41 : Nat)), (.tmp (42 : Nat)), (.tmp (43 : Nat))], #[22, 3, 3, 28]⟩, none⟩]
def slices_pdqsortCmpFunc_int__r9 : List SO := [⟨(some 45), .move (.tmp (3 : Nat)), none⟩,
  ⟨(some 46), .binOp .sub 3 (.tmp (45 : Nat)) (.const (.int .i64 1)) 3, none⟩,
  ⟨(some 3), .assign (.tmp (46 : Nat)), none⟩]
def slices_pdqsortCmpFunc_int__r10 : List SO := [⟨(some 48), .move (.tmp (0 : Nat)), none⟩,
  ⟨(some 49), .move (.tmp (1 : Nat)), none⟩,
  ⟨(some 50), .move (.tmp (2 : Nat)), none⟩,
  ⟨(some 51), .move (.tmp (4 : Nat)), none⟩,
  ⟨(some 52), .call ⟨(.value (.func (117 : Nat))), #[(.tmp (48 : Nat)), (.tmp (49 : Nat)), (.tmp (50 : Nat)), (.tmp (51 : Nat))], #[22, 3, 3, 28]⟩, none⟩,
  ⟨(some 47), .move (.tmp (52 : Nat)), none⟩,
  ⟨(some 53), .extract (.tmp (47 : Nat)) 0, none⟩,
  ⟨(some 54), .extract (.tmp (47 : Nat)) 1, none⟩,
  ⟨(some 13), .assign (.tmp (53 : Nat)), none⟩,
  ⟨(some 14), .assign (.tmp (54 : Nat)), none⟩]
def slices_pdqsortCmpFunc_int__r11 : List SO := [⟨(some 55), .move (.tmp (14 : Nat)), none⟩,
  ⟨(some 56), .binOp .eql 187 (.tmp (55 : Nat)) (.const (.int .i64 2)) 187, none⟩]
def slices_pdqsortCmpFunc_int__r12 : List SO := [⟨(some 57), .move (.tmp (0 : Nat)), none⟩,
  ⟨(some 58), .move (.tmp (1 : Nat)), none⟩,
  ⟨(some 59), .move (.tmp (2 : Nat)), none⟩,
  ⟨(some 60), .move (.tmp (4 : Nat)), none⟩,
  ⟨(some 61), .call ⟨(.value (.func (118 : Nat))), #[(.tmp (57 : Nat)), (.tmp (58 : Nat)), (.tmp (59 : Nat)), (.tmp (60 : Nat))], #[22, 3, 3, 28]⟩, none⟩]
def slices_pdqsortCmpFunc_int__r13 : List SO := [⟨(some 62), .move (.tmp (2 : Nat)), none⟩,
  ⟨(some 63), .binOp .sub 3 (.tmp (62 : Nat)) (.const (.int .i64 1)) 3, none⟩,
  ⟨(some 64), .move (.tmp (13 : Nat)), none⟩,
  ⟨(some 65), .move (.tmp (1 : Nat)), none⟩,
  ⟨(some 66), .binOp .sub 3 (.tmp (64 : Nat)) (.tmp (65 : Nat)) 3, none⟩,
  ⟨(some 67), .binOp .sub 3 (.tmp (63 : Nat)) (.tmp (66 : Nat)) 3, none⟩,
  ⟨(some 13), .assign (.tmp (67 : Nat)), none⟩]
def slices_pdqsortCmpFunc_int__r14 : List SO := [⟨(some 14), .assign (.const (.int .i64 1)), none⟩]
def slices_pdqsortCmpFunc_int__r15 : List SO := [⟨(some 68), .move (.tmp (10 : Nat)), none⟩,
  ⟨(some 69), .move (.tmp (68 : Nat)), none⟩,
  ⟨(some 70), .move (.tmp (11 : Nat)), (some (69, true))⟩,
  ⟨(some 71), .pick (.tmp (69 : Nat)) (.tmp (70 : Nat)) (.const (.bool false)), none⟩,
  ⟨(some 72), .move (.tmp (71 : Nat)), none⟩,
  ⟨(some 73), .move (.tmp (14 : Nat)), (some (72, true))⟩,
  ⟨(some 74), .binOp .eql 187 (.tmp (73 : Nat)) (.const (.int .i64 1)) 187, (some (72, true))⟩,
  ⟨(some 75), .pick (.tmp (72 : Nat)) (.tmp (74 : Nat)) (.const (.bool false)), none⟩]
def slices_pdqsortCmpFunc_int__r16 : List SO := [⟨(some 76), .move (.tmp (0 : Nat)), none⟩,
  ⟨(some 77), .move (.tmp (1 : Nat)), none⟩,
  ⟨(some 78), .move (.tmp (2 : Nat)), none⟩,
  ⟨(some 79), .move (.tmp (4 : Nat)), none⟩,
  ⟨(some 80), .call ⟨(.value (.func (119 : Nat))), #[(.tmp (76 : Nat)), (.tmp (77 : Nat)), (.tmp (78 : Nat)), (.tmp (79 : Nat))], #[22, 3, 3, 28]⟩, none⟩]
def slices_pdqsortCmpFunc_int__r17 : List SO := [⟨(some 81), .move (.tmp (1 : Nat)), none⟩,
  ⟨(some 82), .binOp .gtr 3 (.tmp (81 : Nat)) (.const (.int .i64 0)) 3, none⟩,
  ⟨(some 83), .move (.tmp (82 : Nat)), none⟩,
  ⟨(some 84), .move (.tmp (4 : Nat)), (some (83, true))⟩,
  ⟨(some 85), .move (.tmp (0 : Nat)), (some (83, true))⟩,
  ⟨(some 86), .move (.tmp (1 : Nat)), (some (83, true))⟩,
  ⟨(some 87), .binOp .sub 3 (.tmp (86 : Nat)) (.const (.int .i64 1)) 3, (some (83, true))⟩,
  ⟨(some 88), .indexAddr 22 (.tmp (85 : Nat)) (.tmp (87 : Nat)), (some (83, true))⟩,
  ⟨(some 89), .load 3 (.tmp (88 : Nat)), (some (83, true))⟩,
  ⟨(some 90), .move (.tmp (0 : Nat)), (some (83, true))⟩,
  ⟨(some 91), .move (.tmp (13 : Nat)), (some (83, true))⟩,
  ⟨(some 92), .indexAddr 22 (.tmp (90 : Nat)) (.tmp (91 : Nat)), (some (83, true))⟩,
  ⟨(some 93), .load 3 (.tmp (92 : Nat)), (some (83, true))⟩,
  ⟨(some 94), .call ⟨(.value (.tmp (84 : Nat))), #[(.tmp (89 : Nat)), (.tmp (93 : Nat))], #[3, 3]⟩, (some (83, true))⟩,
  ⟨(some 95), .binOp .lss 3 (.tmp (94 : Nat)) (.const (.int .i64 0)) 3, (some (83, true))⟩,
  ⟨(some 96), .unOp .not 4 (.tmp (95 : Nat)), (some (83, true))⟩,
  ⟨(some 97), .pick (.tmp (83 : Nat)) (.tmp (96 : Nat)) (.const (.bool false)), none⟩]
def slices_pdqsortCmpFunc_int__a17 : List (List Nat) := [[], [0], [1], [2], [2], [2], [5, 2], [4, 6, 2], [7, 2], [2], [2], [9, 10, 2], [11, 2], [3, 8, 12, 2, 2], [13, 2], [14, 2], [2, 15]]
def slices_pdqsortCmpFunc_int__r18 : List SO := [⟨(some 98), .move (.tmp (0 : Nat)), none⟩,
  ⟨(some 99), .move (.tmp (1 : Nat)), none⟩,
  ⟨(some 100), .move (.tmp (2 : Nat)), none⟩,
  ⟨(some 101), .move (.tmp (13 : Nat)), none⟩,
  ⟨(some 102), .move (.tmp (4 : Nat)), none⟩,
  ⟨(some 103), .call ⟨(.value (.func (120 : Nat))), #[(.tmp (98 : Nat)), (.tmp (99 : Nat)), (.tmp (100 : Nat)), (.tmp (101 : Nat)), (.tmp (102 : Nat))], #[22, 3, 3, 3, 28]⟩, none⟩,
  ⟨(some 15), .assign (.tmp (103 : Nat)), none⟩]
def slices_pdqsortCmpFunc_int__r19 : List SO := [⟨(some 104), .move (.tmp (15 : Nat)), none⟩,
  ⟨(some 1), .assign (.tmp (104 : Nat)), none⟩]
def slices_pdqsortCmpFunc_int__r20 : List SO := [⟨(some 106), .move (.tmp (0 : Nat)), none⟩,
  ⟨(some 107), .move (.tmp (1 : Nat)), none⟩,
  ⟨(some 108), .move (.tmp (2 : Nat)), none⟩,
  ⟨(some 109), .move (.tmp (13 : Nat)), none⟩,
  ⟨(some 110), .move (.tmp (4 : Nat)), none⟩,
  ⟨(some 111), .call ⟨(.value (.func (121 : Nat))), #[(.tmp (106 : Nat)), (.tmp (107 : Nat)), (.tmp (108 : Nat)), (.tmp (109 : Nat)), (.tmp (110 : Nat))], #[22, 3, 3, 3, 28]⟩, none⟩,
  ⟨(some 105), .move (.tmp (111 : Nat)), none⟩,
  ⟨(some 112), .extract (.tmp (105 : Nat)) 0, none⟩,
  ⟨(some 113), .extract (.tmp (105 : Nat)) 1, none⟩,
  ⟨(some 16), .assign (.tmp (112 : Nat)), none⟩,
  ⟨(some 17), .assign (.tmp (113 : Nat)), none⟩]
def slices_pdqsortCmpFunc_int__r21 : List SO := [⟨(some 114), .move (.tmp (17 : Nat)), none⟩,
  ⟨(some 11), .assign (.tmp (114 : Nat)), none⟩]
def slices_pdqsortCmpFunc_int__r22 : List SO := [⟨(some 115), .move (.tmp (16 : Nat)), none⟩,
  ⟨(some 116), .move (.tmp (1 : Nat)), none⟩,
  ⟨(some 117), .binOp .sub 3 (.tmp (115 : Nat)) (.tmp (116 : Nat)) 3, none⟩,
  ⟨(some 118), .move (.tmp (2 : Nat)), none⟩,
  ⟨(some 119), .move (.tmp (16 : Nat)), none⟩,
  ⟨(some 120), .binOp .sub 3 (.tmp (118 : Nat)) (.tmp (119 : Nat)) 3, none⟩,
  ⟨(some 18), .assign (.tmp (117 : Nat)), none⟩,
  ⟨(some 19), .assign (.tmp (120 : Nat)), none⟩]
def slices_pdqsortCmpFunc_int__r23 : List SO := [⟨(some 121), .move (.tmp (12 : Nat)), none⟩,
  ⟨(some 122), .binOp .quo 3 (.tmp (121 : Nat)) (.const (.int .i64 8)) 3, none⟩,
  ⟨(some 20), .assign (.tmp (122 : Nat)), none⟩]
def slices_pdqsortCmpFunc_int__r24 : List SO := [⟨(some 123), .move (.tmp (18 : Nat)), none⟩,
  ⟨(some 124), .move (.tmp (19 : Nat)), none⟩,
  ⟨(some 125), .binOp .lss 3 (.tmp (123 : Nat)) (.tmp (124 : Nat)) 3, none⟩]
def slices_pdqsortCmpFunc_int__r25 : List SO := [⟨(some 126), .move (.tmp (18 : Nat)), none⟩,
  ⟨(some 127), .move (.tmp (20 : Nat)), none⟩,
  ⟨(some 128), .binOp .geq 3 (.tmp (126 : Nat)) (.tmp (127 : Nat)) 3, none⟩,
  ⟨(some 10), .assign (.tmp (128 : Nat)), none⟩]
def slices_pdqsortCmpFunc_int__r26 : List SO := [⟨(some 129), .move (.tmp (0 : Nat)), none⟩,
  ⟨(some 130), .move (.tmp (1 : Nat)), none⟩,
  ⟨(some 131), .move (.tmp (16 : Nat)), none⟩,
  ⟨(some 132), .move (.tmp (3 : Nat)), none⟩,
  ⟨(some 133), .move (.tmp (4 : Nat)), none⟩,
  ⟨(some 134), .call ⟨(.value (.func (112 : Nat))), #[(.tmp (129 : Nat)), (.tmp (130 : Nat)), (.tmp (131 : Nat)), (.tmp (132 : Nat)), (.tmp (133 : Nat))], #[22, 3, 3, 3, 28]⟩, none⟩]
def slices_pdqsortCmpFunc_int__r27 : List SO := [⟨(some 135), .move (.tmp (16 : Nat)), none⟩,
  ⟨(some 136), .binOp .add 3 (.tmp (135 : Nat)) (.const (.int .i64 1)) 3, none⟩,
  ⟨(some 1), .assign (.tmp (136 : Nat)), none⟩]
def slices_pdqsortCmpFunc_int__r28 : List SO := [⟨(some 137), .move (.tmp (19 : Nat)), none⟩,
  ⟨(some 138), .move (.tmp (20 : Nat)), none⟩,
  ⟨(some 139), .binOp .geq 3 (.tmp (137 : Nat)) (.tmp (138 : Nat)) 3, none⟩,
  ⟨(some 10), .assign (.tmp (139 : Nat)), none⟩]
def slices_pdqsortCmpFunc_int__r29 : List SO := [⟨(some 140), .move (.tmp (0 : Nat)), none⟩,
  ⟨(some 141), .move (.tmp (16 : Nat)), none⟩,
  ⟨(some 142), .binOp .add 3 (.tmp (141 : Nat)) (.const (.int .i64 1)) 3, none⟩,
  ⟨(some 143), .move (.tmp (2 : Nat)), none⟩,
  ⟨(some 144), .move (.tmp (3 : Nat)), none⟩,
  ⟨(some 145), .move (.tmp (4 : Nat)), none⟩,
  ⟨(some 146), .call ⟨(.value (.func (112 : Nat))), #[(.tmp (140 : Nat)), (.tmp (142 : Nat)), (.tmp (143 : Nat)), (.tmp (144 : Nat)), (.tmp (145 : Nat))], #[22, 3, 3, 3, 28]⟩, none⟩]
def slices_pdqsortCmpFunc_int__r30 : List SO := [⟨(some 147), .move (.tmp (16 : Nat)), none⟩,
  ⟨(some 2), .assign (.tmp (147 : Nat)), none⟩]
def slices_pdqsortCmpFunc_int__c : SF := ⟨148, (.seq (.reg slices_pdqsortCmpFunc_int__r0)
  (.seq (.reg slices_pdqsortCmpFunc_int__r1)
  (.block 0 (.loop (.block 1 (.seq (.reg slices_pdqsortCmpFunc_int__r2)
  (.seq (.seq (.reg slices_pdqsortCmpFunc_int__r3)
  (.cond (.tmp (25 : Nat)) (.seq (.reg slices_pdqsortCmpFunc_int__r4)
  .ret) .skip))
  (.seq (.seq (.reg slices_pdqsortCmpFunc_int__r5)
  (.cond (.tmp (32 : Nat)) (.seq (.reg slices_pdqsortCmpFunc_int__r6)
  .ret) .skip))
  (.seq (.seq (.reg slices_pdqsortCmpFunc_int__r7)
  (.cond (.tmp (39 : Nat)) (.seq (.reg slices_pdqsortCmpFunc_int__r8)
  (.reg slices_pdqsortCmpFunc_int__r9)) .skip))
  (.seq (.reg slices_pdqsortCmpFunc_int__r10)
  (.seq (.seq (.reg slices_pdqsortCmpFunc_int__r11)
  (.cond (.tmp (56 : Nat)) (.seq (.reg slices_pdqsortCmpFunc_int__r12)
  (.seq (.reg slices_pdqsortCmpFunc_int__r13)
  (.reg slices_pdqsortCmpFunc_int__r14))) .skip))
  (.seq (.seq (.reg slices_pdqsortCmpFunc_int__r15)
  (.cond (.tmp (75 : Nat)) (.seq (.reg slices_pdqsortCmpFunc_int__r16)
  (.cond (.tmp (80 : Nat)) .ret .skip)) .skip))
  (.seq (.seq (.regd slices_pdqsortCmpFunc_int__r17 slices_pdqsortCmpFunc_int__a17)
  (.cond (.tmp (97 : Nat)) (.seq (.reg slices_pdqsortCmpFunc_int__r18)
  (.seq (.reg slices_pdqsortCmpFunc_int__r19)
  (.exit 1))) .skip))
  (.seq (.reg slices_pdqsortCmpFunc_int__r20)
  (.seq (.reg slices_pdqsortCmpFunc_int__r21)
  (.seq (.reg slices_pdqsortCmpFunc_int__r22)
  (.seq (.reg slices_pdqsortCmpFunc_int__r23)
  (.seq (.reg slices_pdqsortCmpFunc_int__r24)
  (.cond (.tmp (125 : Nat)) (.seq (.reg slices_pdqsortCmpFunc_int__r25)
  (.seq (.reg slices_pdqsortCmpFunc_int__r26)
  (.reg slices_pdqsortCmpFunc_int__r27))) (.seq (.reg slices_pdqsortCmpFunc_int__r28)
  (.seq (.reg slices_pdqsortCmpFunc_int__r29)
  (.reg slices_pdqsortCmpFunc_int__r30)))))))))))))))))))))), []⟩
theorem slices_pdqsortCmpFunc_int__s : slimF Try.prog 112 = some slices_pdqsortCmpFunc_int__c := by kernel_rfl
abbrev slices_pdqsortCmpFunc_int__f : Nat := 112
/-- slices.insertionSortCmpFunc[int] -/
def slices_insertionSortCmpFunc_int__r0 : List SO := [⟨(some 10), .move (.tmp (1 : Nat)), none⟩,
  ⟨(some 11), .binOp .add 3 (.tmp (10 : Nat)) (.const (.int .i64 1)) 3, none⟩,
  ⟨(some 8), .assign (.tmp (11 : Nat)), none⟩]
def slices_insertionSortCmpFunc_int__r1 : List SO := [⟨(some 12), .move (.tmp (8 : Nat)), none⟩,
  ⟨(some 13), .move (.tmp (2 : Nat)), none⟩,
  ⟨(some 14), .binOp .lss 3 (.tmp (12 : Nat)) (.tmp (13 : Nat)) 3, none⟩]
def slices_insertionSortCmpFunc_int__r2 : List SO := [⟨(some 17), .move (.tmp (8 : Nat)), none⟩,
  ⟨(some 9), .assign (.tmp (17 : Nat)), none⟩]
def slices_insertionSortCmpFunc_int__r3 : List SO := [⟨(some 18), .move (.tmp (9 : Nat)), none⟩,
  ⟨(some 19), .move (.tmp (1 : Nat)), none⟩,
  ⟨(some 20), .binOp .gtr 3 (.tmp (18 : Nat)) (.tmp (19 : Nat)) 3, none⟩,
  ⟨(some 21), .move (.tmp (20 : Nat)), none⟩,
  ⟨(some 22), .move (.tmp (3 : Nat)), (some (21, true))⟩,
  ⟨(some 23), .move (.tmp (0 : Nat)), (some (21, true))⟩,
  ⟨(some 24), .move (.tmp (9 : Nat)), (some (21, true))⟩,
  ⟨(some 25), .indexAddr 22 (.tmp (23 : Nat)) (.tmp (24 : Nat)), (some (21, true))⟩,
  ⟨(some 26), .load 3 (.tmp (25 : Nat)), (some (21, true))⟩,
  ⟨(some 27), .move (.tmp (0 : Nat)), (some (21, true))⟩,
  ⟨(some 28), .move (.tmp (9 : Nat)), (some (21, true))⟩,
  ⟨(some 29), .binOp .sub 3 (.tmp (28 : Nat)) (.const (.int .i64 1)) 3, (some (21, true))⟩,
  ⟨(some 30), .indexAddr 22 (.tmp (27 : Nat)) (.tmp (29 : Nat)), (some (21, true))⟩,
  ⟨(some 31), .load 3 (.tmp (30 : Nat)), (some (21, true))⟩,
  ⟨(some 32), .call ⟨(.value (.tmp (22 : Nat))), #[(.tmp (26 : Nat)), (.tmp (31 : Nat))], #[3, 3]⟩, (some (21, true))⟩,
  ⟨(some 33), .binOp .lss 3 (.tmp (32 : Nat)) (.const (.int .i64 0)) 3, (some (21, true))⟩,
  ⟨(some 34), .pick (.tmp (21 : Nat)) (.tmp (33 : Nat)) (.const (.bool false)), none⟩]
def slices_insertionSortCmpFunc_int__a3 : List (List Nat) := [[], [], [0, 1], [2], [3], [3], [3], [5, 6, 3], [7, 3], [3], [3], [10, 3], [9, 11, 3], [12, 3], [4, 8, 13, 3, 3], [14, 3], [3, 15]]
def slices_insertionSortCmpFunc_int__r4 : List SO := [⟨(some 37), .move (.tmp (0 : Nat)), none⟩,
  ⟨(some 38), .move (.tmp (9 : Nat)), none⟩,
  ⟨(some 39), .move (.tmp (0 : Nat)), none⟩,
  ⟨(some 40), .move (.tmp (9 : Nat)), none⟩,
  ⟨(some 41), .binOp .sub 3 (.tmp (40 : Nat)) (.const (.int .i64 1)) 3, none⟩,
  ⟨(some 42), .move (.tmp (0 : Nat)), none⟩,
  ⟨(some 43), .move (.tmp (9 : Nat)), none⟩,
  ⟨(some 44), .binOp .sub 3 (.tmp (43 : Nat)) (.const (.int .i64 1)) 3, none⟩,
  ⟨(some 45), .indexAddr 22 (.tmp (42 : Nat)) (.tmp (44 : Nat)), none⟩,
  ⟨(some 46), .load 3 (.tmp (45 : Nat)), none⟩,
  ⟨(some 47), .move (.tmp (0 : Nat)), none⟩,
  ⟨(some 48), .move (.tmp (9 : Nat)), none⟩,
  ⟨(some 49), .indexAddr 22 (.tmp (47 : Nat)) (.tmp (48 : Nat)), none⟩,
  ⟨(some 50), .load 3 (.tmp (49 : Nat)), none⟩,
  ⟨(some 51), .indexAddr 22 (.tmp (37 : Nat)) (.tmp (38 : Nat)), none⟩,
  ⟨none, .store 3 (.tmp (51 : Nat)) (.tmp (46 : Nat)), none⟩,
  ⟨(some 52), .indexAddr 22 (.tmp (39 : Nat)) (.tmp (41 : Nat)), none⟩,
  ⟨none, .store 3 (.tmp (52 : Nat)) (.tmp (50 : Nat)), none⟩]
def slices_insertionSortCmpFunc_int__a4 : List (List Nat) := [[], [], [], [], [3], [], [], [6], [5, 7], [8], [], [], [10, 11], [12], [0, 1, 0, 1, 5, 6, 7, 8, 9, 13], [14, 9, 0, 1, 5, 6, 7, 8, 9, 13], [2, 4, 0, 1, 2, 3, 4, 5, 6, 7, 8, 9, 10, 11, 12, 13, 14, 15], [16, 13, 15, 0, 1, 2, 3, 4, 5, 6, 7, 8, 9, 10, 11, 12, 13, 14, 15]]
def slices_insertionSortCmpFunc_int__r5 : List SO := [⟨(some 35), .move (.tmp (9 : Nat)), none⟩,
  ⟨(some 36), .binOp .sub 3 (.tmp (35 : Nat)) (.const (.int .i64 1)) 3, none⟩,
  ⟨(some 9), .assign (.tmp (36 : Nat)), none⟩]
def slices_insertionSortCmpFunc_int__r6 : List SO := [⟨(some 15), .move (.tmp (8 : Nat)), none⟩,
  ⟨(some 16), .binOp .add 3 (.tmp (15 : Nat)) (.const (.int .i64 1)) 3, none⟩,
  ⟨(some 8), .assign (.tmp (16 : Nat)), none⟩]
def slices_insertionSortCmpFunc_int__c : SF := ⟨53, (.seq (.reg slices_insertionSortCmpFunc_int__r0)
  (.block 0 (.loop (.seq (.seq (.reg slices_insertionSortCmpFunc_int__r1)
  (.cond (.tmp (14 : Nat)) .skip (.exit 0)))
  (.seq (.block 1 (.seq (.reg slices_insertionSortCmpFunc_int__r2)
  (.block 2 (.loop (.seq (.seq (.regd slices_insertionSortCmpFunc_int__r3 slices_insertionSortCmpFunc_int__a3)
  (.cond (.tmp (34 : Nat)) .skip (.exit 2)))
  (.seq (.block 3 (.regd slices_insertionSortCmpFunc_int__r4 slices_insertionSortCmpFunc_int__a4))
  (.reg slices_insertionSortCmpFunc_int__r5)))))))
  (.reg slices_insertionSortCmpFunc_int__r6)))))), []⟩
theorem slices_insertionSortCmpFunc_int__s : slimF Try.prog 114 = some slices_insertionSortCmpFunc_int__c := by kernel_rfl
abbrev slices_insertionSortCmpFunc_int__f : Nat := 114
/-- slices.heapSortCmpFunc[int] -/
def slices_heapSortCmpFunc_int__r0 : List SO := [⟨(some 13), .move (.tmp (1 : Nat)), none⟩,
  ⟨(some 8), .assign (.tmp (13 : Nat)), none⟩]
def slices_heapSortCmpFunc_int__r1 : List SO := [⟨(some 9), .assign (.const (.int .i64 0)), none⟩]
def slices_heapSortCmpFunc_int__r2 : List SO := [⟨(some 14), .move (.tmp (2 : Nat)), none⟩,
  ⟨(some 15), .move (.tmp (1 : Nat)), none⟩,
  ⟨(some 16), .binOp .sub 3 (.tmp (14 : Nat)) (.tmp (15 : Nat)) 3, none⟩,
  ⟨(some 10), .assign (.tmp (16 : Nat)), none⟩]
def slices_heapSortCmpFunc_int__r3 : List SO := [⟨(some 17), .move (.tmp (10 : Nat)), none⟩,
  ⟨(some 18), .binOp .sub 3 (.tmp (17 : Nat)) (.const (.int .i64 1)) 3, none⟩,
  ⟨(some 19), .binOp .quo 3 (.tmp (18 : Nat)) (.const (.int .i64 2)) 3, none⟩,
  ⟨(some 11), .assign (.tmp (19 : Nat)), none⟩]
def slices_heapSortCmpFunc_int__r4 : List SO := [⟨(some 20), .move (.tmp (11 : Nat)), none⟩,
  ⟨(some 21), .binOp .geq 3 (.tmp (20 : Nat)) (.const (.int .i64 0)) 3, none⟩]
def slices_heapSortCmpFunc_int__r5 : List SO := [⟨(some 24), .move (.tmp (0 : Nat)), none⟩,
  ⟨(some 25), .move (.tmp (11 : Nat)), none⟩,
  ⟨(some 26), .move (.tmp (10 : Nat)), none⟩,
  ⟨(some 27), .move (.tmp (8 : Nat)), none⟩,
  ⟨(some 28), .move (.tmp (3 : Nat)), none⟩,
  ⟨(some 29), .call ⟨(.value (.func (124 : Nat))), #[(.tmp (24 : Nat)), (.tmp (25 : Nat)), (.tmp (26 : Nat)), (.tmp (27 : Nat)), (.tmp (28 : Nat))], #[22, 3, 3, 3, 28]⟩, none⟩]
def slices_heapSortCmpFunc_int__r6 : List SO := [⟨(some 22), .move (.tmp (11 : Nat)), none⟩,
  ⟨(some 23), .binOp .sub 3 (.tmp (22 : Nat)) (.const (.int .i64 1)) 3, none⟩,
  ⟨(some 11), .assign (.tmp (23 : Nat)), none⟩]
def slices_heapSortCmpFunc_int__r7 : List SO := [⟨(some 30), .move (.tmp (10 : Nat)), none⟩,
  ⟨(some 31), .binOp .sub 3 (.tmp (30 : Nat)) (.const (.int .i64 1)) 3, none⟩,
  ⟨(some 12), .assign (.tmp (31 : Nat)), none⟩]
def slices_heapSortCmpFunc_int__r8 : List SO := [⟨(some 32), .move (.tmp (12 : Nat)), none⟩,
  ⟨(some 33), .binOp .geq 3 (.tmp (32 : Nat)) (.const (.int .i64 0)) 3, none⟩]
def slices_heapSortCmpFunc_int__r9 : List SO := [⟨(some 36), .move (.tmp (0 : Nat)), none⟩,
  ⟨(some 37), .move (.tmp (8 : Nat)), none⟩,
  ⟨(some 38), .move (.tmp (0 : Nat)), none⟩,
  ⟨(some 39), .move (.tmp (8 : Nat)), none⟩,
  ⟨(some 40), .move (.tmp (12 : Nat)), none⟩,
  ⟨(some 41), .binOp .add 3 (.tmp (39 : Nat)) (.tmp (40 : Nat)) 3, none⟩,
  ⟨(some 42), .move (.tmp (0 : Nat)), none⟩,
  ⟨(some 43), .move (.tmp (8 : Nat)), none⟩,
  ⟨(some 44), .move (.tmp (12 : Nat)), none⟩,
  ⟨(some 45), .binOp .add 3 (.tmp (43 : Nat)) (.tmp (44 : Nat)) 3, none⟩,
  ⟨(some 46), .indexAddr 22 (.tmp (42 : Nat)) (.tmp (45 : Nat)), none⟩,
  ⟨(some 47), .load 3 (.tmp (46 : Nat)), none⟩,
  ⟨(some 48), .move (.tmp (0 : Nat)), none⟩,
  ⟨(some 49), .move (.tmp (8 : Nat)), none⟩,
  ⟨(some 50), .indexAddr 22 (.tmp (48 : Nat)) (.tmp (49 : Nat)), none⟩,
  ⟨(some 51), .load 3 (.tmp (50 : Nat)), none⟩,
  ⟨(some 52), .indexAddr 22 (.tmp (36 : Nat)) (.tmp (37 : Nat)), none⟩,
  ⟨none, .store 3 (.tmp (52 : Nat)) (.tmp (47 : Nat)), none⟩,
  ⟨(some 53), .indexAddr 22 (.tmp (38 : Nat)) (.tmp (41 : Nat)), none⟩,
  ⟨none, .store 3 (.tmp (53 : Nat)) (.tmp (51 : Nat)), none⟩]
def slices_heapSortCmpFunc_int__a9 : List (List Nat) := [[], [], [], [], [], [3, 4], [], [], [], [7, 8], [6, 9], [10], [], [], [12, 13], [14], [0, 1, 0, 1, 6, 7, 8, 9, 10, 11, 15], [16, 11, 0, 1, 6, 7, 8, 9, 10, 11, 15], [2, 5, 0, 1, 2, 3, 4, 5, 6, 7, 8, 9, 10, 11, 12, 13, 14, 15, 16, 17], [18, 15, 17, 0, 1, 2, 3, 4, 5, 6, 7, 8, 9, 10, 11, 12, 13, 14, 15, 16, 17]]
def slices_heapSortCmpFunc_int__r10 : List SO := [⟨(some 54), .move (.tmp (0 : Nat)), none⟩,
  ⟨(some 55), .move (.tmp (9 : Nat)), none⟩,
  ⟨(some 56), .move (.tmp (12 : Nat)), none⟩,
  ⟨(some 57), .move (.tmp (8 : Nat)), none⟩,
  ⟨(some 58), .move (.tmp (3 : Nat)), none⟩,
  ⟨(some 59), .call ⟨(.value (.func (124 : Nat))), #[(.tmp (54 : Nat)), (.tmp (55 : Nat)), (.tmp (56 : Nat)), (.tmp (57 : Nat)), (.tmp (58 : Nat))], #[22, 3, 3, 3, 28]⟩, none⟩]
def slices_heapSortCmpFunc_int__r11 : List SO := [⟨(some 34), .move (.tmp (12 : Nat)), none⟩,
  ⟨(some 35), .binOp .sub 3 (.tmp (34 : Nat)) (.const (.int .i64 1)) 3, none⟩,
  ⟨(some 12), .assign (.tmp (35 : Nat)), none⟩]
def slices_heapSortCmpFunc_int__c : SF := ⟨60, (.seq (.reg slices_heapSortCmpFunc_int__r0)
  (.seq (.reg slices_heapSortCmpFunc_int__r1)
  (.seq (.reg slices_heapSortCmpFunc_int__r2)
  (.seq (.seq (.reg slices_heapSortCmpFunc_int__r3)
  (.block 0 (.loop (.seq (.seq (.reg slices_heapSortCmpFunc_int__r4)
  (.cond (.tmp (21 : Nat)) .skip (.exit 0)))
  (.seq (.block 1 (.reg slices_heapSortCmpFunc_int__r5))
  (.reg slices_heapSortCmpFunc_int__r6))))))
  (.seq (.reg slices_heapSortCmpFunc_int__r7)
  (.block 2 (.loop (.seq (.seq (.reg slices_heapSortCmpFunc_int__r8)
  (.cond (.tmp (33 : Nat)) .skip (.exit 2)))
  (.seq (.block 3 (.seq (.regd slices_heapSortCmpFunc_int__r9 slices_heapSortCmpFunc_int__a9)
  (.reg slices_heapSortCmpFunc_int__r10)))
  (.reg slices_heapSortCmpFunc_int__r11)))))))))), []⟩
theorem slices_heapSortCmpFunc_int__s : slimF Try.prog 115 = some slices_heapSortCmpFunc_int__c := by kernel_rfl
abbrev slices_heapSortCmpFunc_int__f : Nat := 115
/-- slices.breakPatternsCmpFunc[int] -/
def slices_breakPatternsCmpFunc_int__r0 : List SO := [⟨(some 13), .move (.tmp (2 : Nat)), none⟩,
  ⟨(some 14), .move (.tmp (1 : Nat)), none⟩,
  ⟨(some 15), .binOp .sub 3 (.tmp (13 : Nat)) (.tmp (14 : Nat)) 3, none⟩,
  ⟨(some 8), .assign (.tmp (15 : Nat)), none⟩]
def slices_breakPatternsCmpFunc_int__r1 : List SO := [⟨(some 16), .move (.tmp (8 : Nat)), none⟩,
  ⟨(some 17), .binOp .geq 3 (.tmp (16 : Nat)) (.const (.int .i64 8)) 3, none⟩]
def slices_breakPatternsCmpFunc_int__r2 : List SO := [⟨(some 18), .move (.tmp (8 : Nat)), none⟩,
  ⟨(some 19), .convert 3 196 (.tmp (18 : Nat)), none⟩,
  ⟨(some 9), .alloc 196, none⟩,
  ⟨none, .store 196 (.tmp (9 : Nat)) (.tmp (19 : Nat)), none⟩]
def slices_breakPatternsCmpFunc_int__r3 : List SO := [⟨(some 20), .move (.tmp (8 : Nat)), none⟩,
  ⟨(some 21), .call ⟨(.value (.func (125 : Nat))), #[(.tmp (20 : Nat))], #[3]⟩, none⟩,
  ⟨(some 10), .assign (.tmp (21 : Nat)), none⟩]
def slices_breakPatternsCmpFunc_int__r4 : List SO := [⟨(some 22), .move (.tmp (1 : Nat)), none⟩,
  ⟨(some 23), .move (.tmp (8 : Nat)), none⟩,
  ⟨(some 24), .binOp .quo 3 (.tmp (23 : Nat)) (.const (.int .i64 4)) 3, none⟩,
  ⟨(some 25), .binOp .mul 3 (.tmp (24 : Nat)) (.const (.int .i64 2)) 3, none⟩,
  ⟨(some 26), .binOp .add 3 (.tmp (22 : Nat)) (.tmp (25 : Nat)) 3, none⟩,
  ⟨(some 27), .binOp .sub 3 (.tmp (26 : Nat)) (.const (.int .i64 1)) 3, none⟩,
  ⟨(some 11), .assign (.tmp (27 : Nat)), none⟩]
def slices_breakPatternsCmpFunc_int__r5 : List SO := [⟨(some 28), .move (.tmp (11 : Nat)), none⟩,
  ⟨(some 29), .move (.tmp (1 : Nat)), none⟩,
  ⟨(some 30), .move (.tmp (8 : Nat)), none⟩,
  ⟨(some 31), .binOp .quo 3 (.tmp (30 : Nat)) (.const (.int .i64 4)) 3, none⟩,
  ⟨(some 32), .binOp .mul 3 (.tmp (31 : Nat)) (.const (.int .i64 2)) 3, none⟩,
  ⟨(some 33), .binOp .add 3 (.tmp (29 : Nat)) (.tmp (32 : Nat)) 3, none⟩,
  ⟨(some 34), .binOp .add 3 (.tmp (33 : Nat)) (.const (.int .i64 1)) 3, none⟩,
  ⟨(some 35), .binOp .leq 3 (.tmp (28 : Nat)) (.tmp (34 : Nat)) 3, none⟩]
def slices_breakPatternsCmpFunc_int__r6 : List SO := [⟨(some 38), .call ⟨(.value (.func (126 : Nat))), #[(.tmp (9 : Nat))], #[196]⟩, none⟩,
  ⟨(some 39), .move (.tmp (10 : Nat)), none⟩,
  ⟨(some 40), .binOp .sub 128 (.tmp (39 : Nat)) (.const (.int .u64 1)) 128, none⟩,
  ⟨(some 41), .binOp .and 128 (.tmp (38 : Nat)) (.tmp (40 : Nat)) 128, none⟩,
  ⟨(some 42), .convert 128 3 (.tmp (41 : Nat)), none⟩,
  ⟨(some 12), .assign (.tmp (42 : Nat)), none⟩]
def slices_breakPatternsCmpFunc_int__r7 : List SO := [⟨(some 43), .move (.tmp (12 : Nat)), none⟩,
  ⟨(some 44), .move (.tmp (8 : Nat)), none⟩,
  ⟨(some 45), .binOp .geq 3 (.tmp (43 : Nat)) (.tmp (44 : Nat)) 3, none⟩]
def slices_breakPatternsCmpFunc_int__r8 : List SO := [⟨(some 46), .move (.tmp (12 : Nat)), none⟩,
  ⟨(some 47), .move (.tmp (8 : Nat)), none⟩,
  ⟨(some 48), .binOp .sub 3 (.tmp (46 : Nat)) (.tmp (47 : Nat)) 3, none⟩,
  ⟨(some 12), .assign (.tmp (48 : Nat)), none⟩]
def slices_breakPatternsCmpFunc_int__r9 : List SO := [⟨(some 49), .move (.tmp (0 : Nat)), none⟩,
  ⟨(some 50), .move (.tmp (11 : Nat)), none⟩,
  ⟨(some 51), .move (.tmp (0 : Nat)), none⟩,
  ⟨(some 52), .move (.tmp (1 : Nat)), none⟩,
  ⟨(some 53), .move (.tmp (12 : Nat)), none⟩,
  ⟨(some 54), .binOp .add 3 (.tmp (52 : Nat)) (.tmp (53 : Nat)) 3, none⟩,
  ⟨(some 55), .move (.tmp (0 : Nat)), none⟩,
  ⟨(some 56), .move (.tmp (1 : Nat)), none⟩,
  ⟨(some 57), .move (.tmp (12 : Nat)), none⟩,
  ⟨(some 58), .binOp .add 3 (.tmp (56 : Nat)) (.tmp (57 : Nat)) 3, none⟩,
  ⟨(some 59), .indexAddr 22 (.tmp (55 : Nat)) (.tmp (58 : Nat)), none⟩,
  ⟨(some 60), .load 3 (.tmp (59 : Nat)), none⟩,
  ⟨(some 61), .move (.tmp (0 : Nat)), none⟩,
  ⟨(some 62), .move (.tmp (11 : Nat)), none⟩,
  ⟨(some 63), .indexAddr 22 (.tmp (61 : Nat)) (.tmp (62 : Nat)), none⟩,
  ⟨(some 64), .load 3 (.tmp (63 : Nat)), none⟩,
  ⟨(some 65), .indexAddr 22 (.tmp (49 : Nat)) (.tmp (50 : Nat)), none⟩,
  ⟨none, .store 3 (.tmp (65 : Nat)) (.tmp (60 : Nat)), none⟩,
  ⟨(some 66), .indexAddr 22 (.tmp (51 : Nat)) (.tmp (54 : Nat)), none⟩,
  ⟨none, .store 3 (.tmp (66 : Nat)) (.tmp (64 : Nat)), none⟩]
def slices_breakPatternsCmpFunc_int__a9 : List (List Nat) := [[], [], [], [], [], [3, 4], [], [], [], [7, 8], [6, 9], [10], [], [], [12, 13], [14], [0, 1, 0, 1, 6, 7, 8, 9, 10, 11, 15], [16, 11, 0, 1, 6, 7, 8, 9, 10, 11, 15], [2, 5, 0, 1, 2, 3, 4, 5, 6, 7, 8, 9, 10, 11, 12, 13, 14, 15, 16, 17], [18, 15, 17, 0, 1, 2, 3, 4, 5, 6, 7, 8, 9, 10, 11, 12, 13, 14, 15, 16, 17]]
def slices_breakPatternsCmpFunc_int__r10 : List SO := [⟨(some 36), .move (.tmp (11 : Nat)), none⟩,
  ⟨(some 37), .binOp .add 3 (.tmp (36 : Nat)) (.const (.int .i64 1)) 3, none⟩,
  ⟨(some 11), .assign (.tmp (37 : Nat)), none⟩]
def slices_breakPatternsCmpFunc_int__c : SF := ⟨67, (.seq (.reg slices_breakPatternsCmpFunc_int__r0)
  (.seq (.reg slices_breakPatternsCmpFunc_int__r1)
  (.cond (.tmp (17 : Nat)) (.seq (.reg slices_breakPatternsCmpFunc_int__r2)
  (.seq (.reg slices_breakPatternsCmpFunc_int__r3)
  (.seq (.reg slices_breakPatternsCmpFunc_int__r4)
  (.block 0 (.loop (.seq (.seq (.reg slices_breakPatternsCmpFunc_int__r5)
  (.cond (.tmp (35 : Nat)) .skip (.exit 0)))
  (.seq (.block 1 (.seq (.reg slices_breakPatternsCmpFunc_int__r6)
  (.seq (.seq (.reg slices_breakPatternsCmpFunc_int__r7)
  (.cond (.tmp (45 : Nat)) (.reg slices_breakPatternsCmpFunc_int__r8) .skip))
  (.regd slices_breakPatternsCmpFunc_int__r9 slices_breakPatternsCmpFunc_int__a9))))
  (.reg slices_breakPatternsCmpFunc_int__r10)))))))) .skip))), []⟩
theorem slices_breakPatternsCmpFunc_int__s : slimF Try.prog 116 = some slices_breakPatternsCmpFunc_int__c := by kernel_rfl
abbrev slices_breakPatternsCmpFunc_int__f : Nat := 116
/-- slices.choosePivotCmpFunc[int] -/
def slices_choosePivotCmpFunc_int__r0 : List SO := [⟨(some 8), .assign (.const (.int .i64 0)), none⟩,
  ⟨(some 9), .assign (.const (.int .i64 0)), none⟩]
def slices_choosePivotCmpFunc_int__r1 : List SO := [⟨(some 15), .move (.tmp (2 : Nat)), none⟩,
  ⟨(some 16), .move (.tmp (1 : Nat)), none⟩,
  ⟨(some 17), .binOp .sub 3 (.tmp (15 : Nat)) (.tmp (16 : Nat)) 3, none⟩,
  ⟨(some 10), .assign (.tmp (17 : Nat)), none⟩]
def slices_choosePivotCmpFunc_int__r2 : List SO := [⟨(some 11), .alloc 3, none⟩]
def slices_choosePivotCmpFunc_int__r3 : List SO := [⟨(some 18), .move (.tmp (1 : Nat)), none⟩,
  ⟨(some 19), .move (.tmp (10 : Nat)), none⟩,
  ⟨(some 20), .binOp .quo 3 (.tmp (19 : Nat)) (.const (.int .i64 4)) 3, none⟩,
  ⟨(some 21), .binOp .mul 3 (.tmp (20 : Nat)) (.const (.int .i64 1)) 3, none⟩,
  ⟨(some 22), .binOp .add 3 (.tmp (18 : Nat)) (.tmp (21 : Nat)) 3, none⟩,
  ⟨(some 12), .assign (.tmp (22 : Nat)), none⟩]
def slices_choosePivotCmpFunc_int__r4 : List SO := [⟨(some 23), .move (.tmp (1 : Nat)), none⟩,
  ⟨(some 24), .move (.tmp (10 : Nat)), none⟩,
  ⟨(some 25), .binOp .quo 3 (.tmp (24 : Nat)) (.const (.int .i64 4)) 3, none⟩,
  ⟨(some 26), .binOp .mul 3 (.tmp (25 : Nat)) (.const (.int .i64 2)) 3, none⟩,
  ⟨(some 27), .binOp .add 3 (.tmp (23 : Nat)) (.tmp (26 : Nat)) 3, none⟩,
  ⟨(some 13), .assign (.tmp (27 : Nat)), none⟩]
def slices_choosePivotCmpFunc_int__r5 : List SO := [⟨(some 28), .move (.tmp (1 : Nat)), none⟩,
  ⟨(some 29), .move (.tmp (10 : Nat)), none⟩,
  ⟨(some 30), .binOp .quo 3 (.tmp (29 : Nat)) (.const (.int .i64 4)) 3, none⟩,
  ⟨(some 31), .binOp .mul 3 (.tmp (30 : Nat)) (.const (.int .i64 3)) 3, none⟩,
  ⟨(some 32), .binOp .add 3 (.tmp (28 : Nat)) (.tmp (31 : Nat)) 3, none⟩,
  ⟨(some 14), .assign (.tmp (32 : Nat)), none⟩]
def slices_choosePivotCmpFunc_int__r6 : List SO := [⟨(some 33), .move (.tmp (10 : Nat)), none⟩,
  ⟨(some 34), .binOp .geq 3 (.tmp (33 : Nat)) (.const (.int .i64 8)) 3, none⟩]
def slices_choosePivotCmpFunc_int__r7 : List SO := [⟨(some 35), .move (.tmp (10 : Nat)), none⟩,
  ⟨(some 36), .binOp .geq 3 (.tmp (35 : Nat)) (.const (.int .i64 50)) 3, none⟩]
def slices_choosePivotCmpFunc_int__r8 : List SO := [⟨(some 37), .move (.tmp (0 : Nat)), none⟩,
  ⟨(some 38), .move (.tmp (12 : Nat)), none⟩,
  ⟨(some 39), .move (.tmp (3 : Nat)), none⟩,
  ⟨(some 40), .call ⟨(.value (.func (127 : Nat))), #[(.tmp (37 : Nat)), (.tmp (38 : Nat)), (.tmp (11 : Nat)), (.tmp (39 : Nat))], #[22, 3, 200, 28]⟩, none⟩,
  ⟨(some 12), .assign (.tmp (40 : Nat)), none⟩]
def slices_choosePivotCmpFunc_int__r9 : List SO := [⟨(some 41), .move (.tmp (0 : Nat)), none⟩,
  ⟨(some 42), .move (.tmp (13 : Nat)), none⟩,
  ⟨(some 43), .move (.tmp (3 : Nat)), none⟩,
  ⟨(some 44), .call ⟨(.value (.func (127 : Nat))), #[(.tmp (41 : Nat)), (.tmp (42 : Nat)), (.tmp (11 : Nat)), (.tmp (43 : Nat))], #[22, 3, 200, 28]⟩, none⟩,
  ⟨(some 13), .assign (.tmp (44 : Nat)), none⟩]
def slices_choosePivotCmpFunc_int__r10 : List SO := [⟨(some 45), .move (.tmp (0 : Nat)), none⟩,
  ⟨(some 46), .move (.tmp (14 : Nat)), none⟩,
  ⟨(some 47), .move (.tmp (3 : Nat)), none⟩,
  ⟨(some 48), .call ⟨(.value (.func (127 : Nat))), #[(.tmp (45 : Nat)), (.tmp (46 : Nat)), (.tmp (11 : Nat)), (.tmp (47 : Nat))], #[22, 3, 200, 28]⟩, none⟩,
  ⟨(some 14), .assign (.tmp (48 : Nat)), none⟩]
def slices_choosePivotCmpFunc_int__r11 : List SO := [⟨(some 49), .move (.tmp (0 : Nat)), none⟩,
  ⟨(some 50), .move (.tmp (12 : Nat)), none⟩,
  ⟨(some 51), .move (.tmp (13 : Nat)), none⟩,
  ⟨(some 52), .move (.tmp (14 : Nat)), none⟩,
  ⟨(some 53), .move (.tmp (3 : Nat)), none⟩,
  ⟨(some 54), .call ⟨(.value (.func (128 : Nat))), #[(.tmp (49 : Nat)), (.tmp (50 : Nat)), (.tmp (51 : Nat)), (.tmp (52 : Nat)), (.tmp (11 : Nat)), (.tmp (53 : Nat))], #[22, 3, 3, 3, 200, 28]⟩, none⟩,
  ⟨(some 13), .assign (.tmp (54 : Nat)), none⟩]
def slices_choosePivotCmpFunc_int__r12 : List SO := [⟨(some 55), .load 3 (.tmp (11 : Nat)), none⟩]
def slices_choosePivotCmpFunc_int__r13 : List SO := [⟨(some 58), .binOp .eql 3 (.tmp (55 : Nat)) (.const (.int .i64 0)) 3, none⟩,
  ⟨(some 57), .assign (.tmp (58 : Nat)), none⟩]
def slices_choosePivotCmpFunc_int__r14 : List SO := [⟨(some 59), .move (.tmp (13 : Nat)), none⟩,
  ⟨(some 8), .assign (.tmp (59 : Nat)), none⟩,
  ⟨(some 9), .assign (.const (.int .i64 1)), none⟩]
def slices_choosePivotCmpFunc_int__r15 : List SO := [⟨(some 61), .binOp .eql 3 (.tmp (55 : Nat)) (.const (.int .i64 12)) 3, none⟩,
  ⟨(some 60), .assign (.tmp (61 : Nat)), none⟩]
def slices_choosePivotCmpFunc_int__r16 : List SO := [⟨(some 62), .move (.tmp (13 : Nat)), none⟩,
  ⟨(some 8), .assign (.tmp (62 : Nat)), none⟩,
  ⟨(some 9), .assign (.const (.int .i64 2)), none⟩]
def slices_choosePivotCmpFunc_int__r17 : List SO := [⟨(some 56), .move (.tmp (13 : Nat)), none⟩,
  ⟨(some 8), .assign (.tmp (56 : Nat)), none⟩,
  ⟨(some 9), .assign (.const (.int .i64 0)), none⟩]
def slices_choosePivotCmpFunc_int__c : SF := ⟨63, (.seq (.reg slices_choosePivotCmpFunc_int__r0)
  (.seq (.reg slices_choosePivotCmpFunc_int__r1)
  (.seq (.reg slices_choosePivotCmpFunc_int__r2)
  (.seq (.reg slices_choosePivotCmpFunc_int__r3)
  (.seq (.reg slices_choosePivotCmpFunc_int__r4)
  (.seq (.reg slices_choosePivotCmpFunc_int__r5)
  (.seq (.seq (.reg slices_choosePivotCmpFunc_int__r6)
  (.cond (.tmp (34 : Nat)) (.seq (.seq (.reg slices_choosePivotCmpFunc_int__r7)
  (.cond (.tmp (36 : Nat)) (.seq (.reg slices_choosePivotCmpFunc_int__r8)
  (.seq (.reg slices_choosePivotCmpFunc_int__r9)
  (.reg slices_choosePivotCmpFunc_int__r10))) .skip))
  (.reg slices_choosePivotCmpFunc_int__r11)) .skip))
  (.seq (.reg slices_choosePivotCmpFunc_int__r12)
  (.block 0 (.seq (.reg slices_choosePivotCmpFunc_int__r13)
  (.cond (.tmp (57 : Nat)) (.seq (.reg slices_choosePivotCmpFunc_int__r14)
  .ret) (.seq (.reg slices_choosePivotCmpFunc_int__r15)
  (.cond (.tmp (60 : Nat)) (.seq (.reg slices_choosePivotCmpFunc_int__r16)
  .ret) (.seq (.reg slices_choosePivotCmpFunc_int__r17)
  .ret)))))))))))))), [.tmp 8, .tmp 9]⟩
theorem slices_choosePivotCmpFunc_int__s : slimF Try.prog 117 = some slices_choosePivotCmpFunc_int__c := by kernel_rfl
abbrev slices_choosePivotCmpFunc_int__f : Nat := 117
/-- slices.reverseRangeCmpFunc[int] -/
def slices_reverseRangeCmpFunc_int__r0 : List SO := [⟨(some 10), .move (.tmp (1 : Nat)), none⟩,
  ⟨(some 8), .assign (.tmp (10 : Nat)), none⟩]
def slices_reverseRangeCmpFunc_int__r1 : List SO := [⟨(some 11), .move (.tmp (2 : Nat)), none⟩,
  ⟨(some 12), .binOp .sub 3 (.tmp (11 : Nat)) (.const (.int .i64 1)) 3, none⟩,
  ⟨(some 9), .assign (.tmp (12 : Nat)), none⟩]
def slices_reverseRangeCmpFunc_int__r2 : List SO := [⟨(some 13), .move (.tmp (8 : Nat)), none⟩,
  ⟨(some 14), .move (.tmp (9 : Nat)), none⟩,
  ⟨(some 15), .binOp .lss 3 (.tmp (13 : Nat)) (.tmp (14 : Nat)) 3, none⟩]
def slices_reverseRangeCmpFunc_int__r3 : List SO := [⟨(some 16), .move (.tmp (0 : Nat)), none⟩,
  ⟨(some 17), .move (.tmp (8 : Nat)), none⟩,
  ⟨(some 18), .move (.tmp (0 : Nat)), none⟩,
  ⟨(some 19), .move (.tmp (9 : Nat)), none⟩,
  ⟨(some 20), .move (.tmp (0 : Nat)), none⟩,
  ⟨(some 21), .move (.tmp (9 : Nat)), none⟩,
  ⟨(some 22), .indexAddr 22 (.tmp (20 : Nat)) (.tmp (21 : Nat)), none⟩,
  ⟨(some 23), .load 3 (.tmp (22 : Nat)), none⟩,
  ⟨(some 24), .move (.tmp (0 : Nat)), none⟩,
  ⟨(some 25), .move (.tmp (8 : Nat)), none⟩,
  ⟨(some 26), .indexAddr 22 (.tmp (24 : Nat)) (.tmp (25 : Nat)), none⟩,
  ⟨(some 27), .load 3 (.tmp (26 : Nat)), none⟩,
  ⟨(some 28), .indexAddr 22 (.tmp (16 : Nat)) (.tmp (17 : Nat)), none⟩,
  ⟨none, .store 3 (.tmp (28 : Nat)) (.tmp (23 : Nat)), none⟩,
  ⟨(some 29), .indexAddr 22 (.tmp (18 : Nat)) (.tmp (19 : Nat)), none⟩,
  ⟨none, .store 3 (.tmp (29 : Nat)) (.tmp (27 : Nat)), none⟩]
def slices_reverseRangeCmpFunc_int__a3 : List (List Nat) := [[], [], [], [], [], [], [4, 5], [6], [], [], [8, 9], [10], [0, 1, 0, 1, 4, 5, 6, 7, 11], [12, 7, 0, 1, 4, 5, 6, 7, 11], [2, 3, 0, 1, 2, 3, 4, 5, 6, 7, 8, 9, 10, 11, 12, 13], [14, 11, 13, 0, 1, 2, 3, 4, 5, 6, 7, 8, 9, 10, 11, 12, 13]]
def slices_reverseRangeCmpFunc_int__r4 : List SO := [⟨(some 30), .move (.tmp (8 : Nat)), none⟩,
  ⟨(some 31), .binOp .add 3 (.tmp (30 : Nat)) (.const (.int .i64 1)) 3, none⟩,
  ⟨(some 8), .assign (.tmp (31 : Nat)), none⟩]
def slices_reverseRangeCmpFunc_int__r5 : List SO := [⟨(some 32), .move (.tmp (9 : Nat)), none⟩,
  ⟨(some 33), .binOp .sub 3 (.tmp (32 : Nat)) (.const (.int .i64 1)) 3, none⟩,
  ⟨(some 9), .assign (.tmp (33 : Nat)), none⟩]
def slices_reverseRangeCmpFunc_int__c : SF := ⟨34, (.seq (.reg slices_reverseRangeCmpFunc_int__r0)
  (.seq (.reg slices_reverseRangeCmpFunc_int__r1)
  (.block 0 (.loop (.seq (.seq (.reg slices_reverseRangeCmpFunc_int__r2)
  (.cond (.tmp (15 : Nat)) .skip (.exit 0)))
  (.block 1 (.seq (.regd slices_reverseRangeCmpFunc_int__r3 slices_reverseRangeCmpFunc_int__a3)
  (.seq (.reg slices_reverseRangeCmpFunc_int__r4)
  (.reg slices_reverseRangeCmpFunc_int__r5))))))))), []⟩
theorem slices_reverseRangeCmpFunc_int__s : slimF Try.prog 118 = some slices_reverseRangeCmpFunc_int__c := by kernel_rfl
abbrev slices_reverseRangeCmpFunc_int__f : Nat := 118
/-- slices.partialInsertionSortCmpFunc[int] -/
def slices_partialInsertionSortCmpFunc_int__r0 : List SO := [⟨(some 8), .assign (.const (.bool false)), none⟩]
def slices_partialInsertionSortCmpFunc_int__r1 : List SO := [⟨(some 13), .move (.tmp (1 : Nat)), none⟩,
  ⟨(some 14), .binOp .add 3 (.tmp (13 : Nat)) (.const (.int .i64 1)) 3, none⟩,
  ⟨(some 9), .assign (.tmp (14 : Nat)), none⟩]
def slices_partialInsertionSortCmpFunc_int__r2 : List SO := [⟨(some 10), .assign (.const (.int .i64 0)), none⟩]
def slices_partialInsertionSortCmpFunc_int__r3 : List SO := [⟨(some 15), .move (.tmp (10 : Nat)), none⟩,
  ⟨(some 16), .binOp .lss 3 (.tmp (15 : Nat)) (.const (.int .i64 5)) 3, none⟩]
def slices_partialInsertionSortCmpFunc_int__r4 : List SO := [⟨(some 19), .move (.tmp (9 : Nat)), none⟩,
  ⟨(some 20), .move (.tmp (2 : Nat)), none⟩,
  ⟨(some 21), .binOp .lss 3 (.tmp (19 : Nat)) (.tmp (20 : Nat)) 3, none⟩,
  ⟨(some 22), .move (.tmp (21 : Nat)), none⟩,
  ⟨(some 23), .move (.tmp (3 : Nat)), (some (22, true))⟩,
  ⟨(some 24), .move (.tmp (0 : Nat)), (some (22, true))⟩,
  ⟨(some 25), .move (.tmp (9 : Nat)), (some (22, true))⟩,
  ⟨(some 26), .indexAddr 22 (.tmp (24 : Nat)) (.tmp (25 : Nat)), (some (22, true))⟩,
  ⟨(some 27), .load 3 (.tmp (26 : Nat)), (some (22, true))⟩,
  ⟨(some 28), .move (.tmp (0 : Nat)), (some (22, true))⟩,
  ⟨(some 29), .move (.tmp (9 : Nat)), (some (22, true))⟩,
  ⟨(some 30), .binOp .sub 3 (.tmp (29 : Nat)) (.const (.int .i64 1)) 3, (some (22, true))⟩,
  ⟨(some 31), .indexAddr 22 (.tmp (28 : Nat)) (.tmp (30 : Nat)), (some (22, true))⟩,
  ⟨(some 32), .load 3 (.tmp (31 : Nat)), (some (22, true))⟩,
  ⟨(some 33), .call ⟨(.value (.tmp (23 : Nat))), #[(.tmp (27 : Nat)), (.tmp (32 : Nat))], #[3, 3]⟩, (some (22, true))⟩,
  ⟨(some 34), .binOp .lss 3 (.tmp (33 : Nat)) (.const (.int .i64 0)) 3, (some (22, true))⟩,
  ⟨(some 35), .unOp .not 4 (.tmp (34 : Nat)), (some (22, true))⟩,
  ⟨(some 36), .pick (.tmp (22 : Nat)) (.tmp (35 : Nat)) (.const (.bool false)), none⟩]
def slices_partialInsertionSortCmpFunc_int__a4 : List (List Nat) := [[], [], [0, 1], [2], [3], [3], [3], [5, 6, 3], [7, 3], [3], [3], [10, 3], [9, 11, 3], [12, 3], [4, 8, 13, 3, 3], [14, 3], [15, 3], [3, 16]]
def slices_partialInsertionSortCmpFunc_int__r5 : List SO := [⟨(some 37), .move (.tmp (9 : Nat)), none⟩,
  ⟨(some 38), .binOp .add 3 (.tmp (37 : Nat)) (.const (.int .i64 1)) 3, none⟩,
  ⟨(some 9), .assign (.tmp (38 : Nat)), none⟩]
def slices_partialInsertionSortCmpFunc_int__r6 : List SO := [⟨(some 39), .move (.tmp (9 : Nat)), none⟩,
  ⟨(some 40), .move (.tmp (2 : Nat)), none⟩,
  ⟨(some 41), .binOp .eql 3 (.tmp (39 : Nat)) (.tmp (40 : Nat)) 3, none⟩]
def slices_partialInsertionSortCmpFunc_int__r7 : List SO := [⟨(some 8), .assign (.const (.bool true)), none⟩]
def slices_partialInsertionSortCmpFunc_int__r8 : List SO := [⟨(some 42), .move (.tmp (2 : Nat)), none⟩,
  ⟨(some 43), .move (.tmp (1 : Nat)), none⟩,
  ⟨(some 44), .binOp .sub 3 (.tmp (42 : Nat)) (.tmp (43 : Nat)) 3, none⟩,
  ⟨(some 45), .binOp .lss 3 (.tmp (44 : Nat)) (.const (.int .i64 50)) 3, none⟩]
def slices_partialInsertionSortCmpFunc_int__r9 : List SO := [⟨(some 8), .assign (.const (.bool false)), none⟩]
def slices_partialInsertionSortCmpFunc_int__r10 : List SO := [⟨(some 46), .move (.tmp (0 : Nat)), none⟩,
  ⟨(some 47), .move (.tmp (9 : Nat)), none⟩,
  ⟨(some 48), .move (.tmp (0 : Nat)), none⟩,
  ⟨(some 49), .move (.tmp (9 : Nat)), none⟩,
  ⟨(some 50), .binOp .sub 3 (.tmp (49 : Nat)) (.const (.int .i64 1)) 3, none⟩,
  ⟨(some 51), .move (.tmp (0 : Nat)), none⟩,
  ⟨(some 52), .move (.tmp (9 : Nat)), none⟩,
  ⟨(some 53), .binOp .sub 3 (.tmp (52 : Nat)) (.const (.int .i64 1)) 3, none⟩,
  ⟨(some 54), .indexAddr 22 (.tmp (51 : Nat)) (.tmp (53 : Nat)), none⟩,
  ⟨(some 55), .load 3 (.tmp (54 : Nat)), none⟩,
  ⟨(some 56), .move (.tmp (0 : Nat)), none⟩,
  ⟨(some 57), .move (.tmp (9 : Nat)), none⟩,
  ⟨(some 58), .indexAddr 22 (.tmp (56 : Nat)) (.tmp (57 : Nat)), none⟩,
  ⟨(some 59), .load 3 (.tmp (58 : Nat)), none⟩,
  ⟨(some 60), .indexAddr 22 (.tmp (46 : Nat)) (.tmp (47 : Nat)), none⟩,
  ⟨none, .store 3 (.tmp (60 : Nat)) (.tmp (55 : Nat)), none⟩,
  ⟨(some 61), .indexAddr 22 (.tmp (48 : Nat)) (.tmp (50 : Nat)), none⟩,
  ⟨none, .store 3 (.tmp (61 : Nat)) (.tmp (59 : Nat)), none⟩]
def slices_partialInsertionSortCmpFunc_int__a10 : List (List Nat) := [[], [], [], [], [3], [], [], [6], [5, 7], [8], [], [], [10, 11], [12], [0, 1, 0, 1, 5, 6, 7, 8, 9, 13], [14, 9, 0, 1, 5, 6, 7, 8, 9, 13], [2, 4, 0, 1, 2, 3, 4, 5, 6, 7, 8, 9, 10, 11, 12, 13, 14, 15], [16, 13, 15, 0, 1, 2, 3, 4, 5, 6, 7, 8, 9, 10, 11, 12, 13, 14, 15]]
def slices_partialInsertionSortCmpFunc_int__r11 : List SO := [⟨(some 62), .move (.tmp (9 : Nat)), none⟩,
  ⟨(some 63), .move (.tmp (1 : Nat)), none⟩,
  ⟨(some 64), .binOp .sub 3 (.tmp (62 : Nat)) (.tmp (63 : Nat)) 3, none⟩,
  ⟨(some 65), .binOp .geq 3 (.tmp (64 : Nat)) (.const (.int .i64 2)) 3, none⟩]
def slices_partialInsertionSortCmpFunc_int__r12 : List SO := [⟨(some 66), .move (.tmp (9 : Nat)), none⟩,
  ⟨(some 67), .binOp .sub 3 (.tmp (66 : Nat)) (.const (.int .i64 1)) 3, none⟩,
  ⟨(some 11), .assign (.tmp (67 : Nat)), none⟩]
def slices_partialInsertionSortCmpFunc_int__r13 : List SO := [⟨(some 68), .move (.tmp (11 : Nat)), none⟩,
  ⟨(some 69), .binOp .geq 3 (.tmp (68 : Nat)) (.const (.int .i64 1)) 3, none⟩]
def slices_partialInsertionSortCmpFunc_int__r14 : List SO := [⟨(some 72), .move (.tmp (3 : Nat)), none⟩,
  ⟨(some 73), .move (.tmp (0 : Nat)), none⟩,
  ⟨(some 74), .move (.tmp (11 : Nat)), none⟩,
  ⟨(some 75), .indexAddr 22 (.tmp (73 : Nat)) (.tmp (74 : Nat)), none⟩,
  ⟨(some 76), .load 3 (.tmp (75 : Nat)), none⟩,
  ⟨(some 77), .move (.tmp (0 : Nat)), none⟩,
  ⟨(some 78), .move (.tmp (11 : Nat)), none⟩,
  ⟨(some 79), .binOp .sub 3 (.tmp (78 : Nat)) (.const (.int .i64 1)) 3, none⟩,
  ⟨(some 80), .indexAddr 22 (.tmp (77 : Nat)) (.tmp (79 : Nat)), none⟩,
  ⟨(some 81), .load 3 (.tmp (80 : Nat)), none⟩,
  ⟨(some 82), .call ⟨(.value (.tmp (72 : Nat))), #[(.tmp (76 : Nat)), (.tmp (81 : Nat))], #[3, 3]⟩, none⟩,
  ⟨(some 83), .binOp .lss 3 (.tmp (82 : Nat)) (.const (.int .i64 0)) 3, none⟩,
  ⟨(some 84), .unOp .not 4 (.tmp (83 : Nat)), none⟩]
def slices_partialInsertionSortCmpFunc_int__a14 : List (List Nat) := [[], [], [], [1, 2], [3], [], [], [6], [5, 7], [8], [0, 4, 9], [10], [11]]
def slices_partialInsertionSortCmpFunc_int__r15 : List SO := [⟨(some 85), .move (.tmp (0 : Nat)), none⟩,
  ⟨(some 86), .move (.tmp (11 : Nat)), none⟩,
  ⟨(some 87), .move (.tmp (0 : Nat)), none⟩,
  ⟨(some 88), .move (.tmp (11 : Nat)), none⟩,
  ⟨(some 89), .binOp .sub 3 (.tmp (88 : Nat)) (.const (.int .i64 1)) 3, none⟩,
  ⟨(some 90), .move (.tmp (0 : Nat)), none⟩,
  ⟨(some 91), .move (.tmp (11 : Nat)), none⟩,
  ⟨(some 92), .binOp .sub 3 (.tmp (91 : Nat)) (.const (.int .i64 1)) 3, none⟩,
  ⟨(some 93), .indexAddr 22 (.tmp (90 : Nat)) (.tmp (92 : Nat)), none⟩,
  ⟨(some 94), .load 3 (.tmp (93 : Nat)), none⟩,
  ⟨(some 95), .move (.tmp (0 : Nat)), none⟩,
  ⟨(some 96), .move (.tmp (11 : Nat)), none⟩,
  ⟨(some 97), .indexAddr 22 (.tmp (95 : Nat)) (.tmp (96 : Nat)), none⟩,
  ⟨(some 98), .load 3 (.tmp (97 : Nat)), none⟩,
  ⟨(some 99), .indexAddr 22 (.tmp (85 : Nat)) (.tmp (86 : Nat)), none⟩,
  ⟨none, .store 3 (.tmp (99 : Nat)) (.tmp (94 : Nat)), none⟩,
  ⟨(some 100), .indexAddr 22 (.tmp (87 : Nat)) (.tmp (89 : Nat)), none⟩,
  ⟨none, .store 3 (.tmp (100 : Nat)) (.tmp (98 : Nat)), none⟩]
def slices_partialInsertionSortCmpFunc_int__a15 : List (List Nat) := [[], [], [], [], [3], [], [], [6], [5, 7], [8], [], [], [10, 11], [12], [0, 1, 0, 1, 5, 6, 7, 8, 9, 13], [14, 9, 0, 1, 5, 6, 7, 8, 9, 13], [2, 4, 0, 1, 2, 3, 4, 5, 6, 7, 8, 9, 10, 11, 12, 13, 14, 15], [16, 13, 15, 0, 1, 2, 3, 4, 5, 6, 7, 8, 9, 10, 11, 12, 13, 14, 15]]
def slices_partialInsertionSortCmpFunc_int__r16 : List SO := [⟨(some 70), .move (.tmp (11 : Nat)), none⟩,
  ⟨(some 71), .binOp .sub 3 (.tmp (70 : Nat)) (.const (.int .i64 1)) 3, none⟩,
  ⟨(some 11), .assign (.tmp (71 : Nat)), none⟩]
def slices_partialInsertionSortCmpFunc_int__r17 : List SO := [⟨(some 101), .move (.tmp (2 : Nat)), none⟩,
  ⟨(some 102), .move (.tmp (9 : Nat)), none⟩,
  ⟨(some 103), .binOp .sub 3 (.tmp (101 : Nat)) (.tmp (102 : Nat)) 3, none⟩,
  ⟨(some 104), .binOp .geq 3 (.tmp (103 : Nat)) (.const (.int .i64 2)) 3, none⟩]
def slices_partialInsertionSortCmpFunc_int__r18 : List SO := [⟨(some 105), .move (.tmp (9 : Nat)), none⟩,
  ⟨(some 106), .binOp .add 3 (.tmp (105 : Nat)) (.const (.int .i64 1)) 3, none⟩,
  ⟨(some 12), .assign (.tmp (106 : Nat)), none⟩]
def slices_partialInsertionSortCmpFunc_int__r19 : List SO := [⟨(some 107), .move (.tmp (12 : Nat)), none⟩,
  ⟨(some 108), .move (.tmp (2 : Nat)), none⟩,
  ⟨(some 109), .binOp .lss 3 (.tmp (107 : Nat)) (.tmp (108 : Nat)) 3, none⟩]
def slices_partialInsertionSortCmpFunc_int__r20 : List SO := [⟨(some 112), .move (.tmp (3 : Nat)), none⟩,
  ⟨(some 113), .move (.tmp (0 : Nat)), none⟩,
  ⟨(some 114), .move (.tmp (12 : Nat)), none⟩,
  ⟨(some 115), .indexAddr 22 (.tmp (113 : Nat)) (.tmp (114 : Nat)), none⟩,
  ⟨(some 116), .load 3 (.tmp (115 : Nat)), none⟩,
  ⟨(some 117), .move (.tmp (0 : Nat)), none⟩,
  ⟨(some 118), .move (.tmp (12 : Nat)), none⟩,
  ⟨(some 119), .binOp .sub 3 (.tmp (118 : Nat)) (.const (.int .i64 1)) 3, none⟩,
  ⟨(some 120), .indexAddr 22 (.tmp (117 : Nat)) (.tmp (119 : Nat)), none⟩,
  ⟨(some 121), .load 3 (.tmp (120 : Nat)), none⟩,
  ⟨(some 122), .call ⟨(.value (.tmp (112 : Nat))), #[(.tmp (116 : Nat)), (.tmp (121 : Nat))], #[3, 3]⟩, none⟩,
  ⟨(some 123), .binOp .lss 3 (.tmp (122 : Nat)) (.const (.int .i64 0)) 3, none⟩,
  ⟨(some 124), .unOp .not 4 (.tmp (123 : Nat)), none⟩]
def slices_partialInsertionSortCmpFunc_int__a20 : List (List Nat) := [[], [], [], [1, 2], [3], [], [], [6], [5, 7], [8], [0, 4, 9], [10], [11]]
def slices_partialInsertionSortCmpFunc_int__r21 : List SO := [⟨(some 125), .move (.tmp (0 : Nat)), none⟩,
  ⟨(some 126), .move (.tmp (12 : Nat)), none⟩,
  ⟨(some 127), .move (.tmp (0 : Nat)), none⟩,
  ⟨(some 128), .move (.tmp (12 : Nat)), none⟩,
  ⟨(some 129), .binOp .sub 3 (.tmp (128 : Nat)) (.const (.int .i64 1)) 3, none⟩,
  ⟨(some 130), .move (.tmp (0 : Nat)), none⟩,
  ⟨(some 131), .move (.tmp (12 : Nat)), none⟩,
  ⟨(some 132), .binOp .sub 3 (.tmp (131 : Nat)) (.const (.int .i64 1)) 3, none⟩,
  ⟨(some 133), .indexAddr 22 (.tmp (130 : Nat)) (.tmp (132 : Nat)), none⟩,
  ⟨(some 134), .load 3 (.tmp (133 : Nat)), none⟩,
  ⟨(some 135), .move (.tmp (0 : Nat)), none⟩,
  ⟨(some 136), .move (.tmp (12 : Nat)), none⟩,
  ⟨(some 137), .indexAddr 22 (.tmp (135 : Nat)) (.tmp (136 : Nat)), none⟩,
  ⟨(some 138), .load 3 (.tmp (137 : Nat)), none⟩,
  ⟨(some 139), .indexAddr 22 (.tmp (125 : Nat)) (.tmp (126 : Nat)), none⟩,
  ⟨none, .store 3 (.tmp (139 : Nat)) (.tmp (134 : Nat)), none⟩,
  ⟨(some 140), .indexAddr 22 (.tmp (127 : Nat)) (.tmp (129 : Nat)), none⟩,
  ⟨none, .store 3 (.tmp (140 : Nat)) (.tmp (138 : Nat)), none⟩]
def slices_partialInsertionSortCmpFunc_int__a21 : List (List Nat) := [[], [], [], [], [3], [], [], [6], [5, 7], [8], [], [], [10, 11], [12], [0, 1, 0, 1, 5, 6, 7, 8, 9, 13], [14, 9, 0, 1, 5, 6, 7, 8, 9, 13], [2, 4, 0, 1, 2, 3, 4, 5, 6, 7, 8, 9, 10, 11, 12, 13, 14, 15], [16, 13, 15, 0, 1, 2, 3, 4, 5, 6, 7, 8, 9, 10, 11, 12, 13, 14, 15]]
def slices_partialInsertionSortCmpFunc_int__r22 : List SO := [⟨(some 110), .move (.tmp (12 : Nat)), none⟩,
  ⟨(some 111), .binOp .add 3 (.tmp (110 : Nat)) (.const (.int .i64 1)) 3, none⟩,
  ⟨(some 12), .assign (.tmp (111 : Nat)), none⟩]
def slices_partialInsertionSortCmpFunc_int__r23 : List SO := [⟨(some 17), .move (.tmp (10 : Nat)), none⟩,
  ⟨(some 18), .binOp .add 3 (.tmp (17 : Nat)) (.const (.int .i64 1)) 3, none⟩,
  ⟨(some 10), .assign (.tmp (18 : Nat)), none⟩]
def slices_partialInsertionSortCmpFunc_int__r24 : List SO := [⟨(some 8), .assign (.const (.bool false)), none⟩]
def slices_partialInsertionSortCmpFunc_int__c : SF := ⟨141, (.seq (.reg slices_partialInsertionSortCmpFunc_int__r0)
  (.seq (.reg slices_partialInsertionSortCmpFunc_int__r1)
  (.seq (.seq (.reg slices_partialInsertionSortCmpFunc_int__r2)
  (.block 0 (.loop (.seq (.seq (.reg slices_partialInsertionSortCmpFunc_int__r3)
  (.cond (.tmp (16 : Nat)) .skip (.exit 0)))
  (.seq (.block 1 (.seq (.block 2 (.loop (.seq (.seq (.regd slices_partialInsertionSortCmpFunc_int__r4 slices_partialInsertionSortCmpFunc_int__a4)
  (.cond (.tmp (36 : Nat)) .skip (.exit 2)))
  (.block 3 (.reg slices_partialInsertionSortCmpFunc_int__r5)))))
  (.seq (.seq (.reg slices_partialInsertionSortCmpFunc_int__r6)
  (.cond (.tmp (41 : Nat)) (.seq (.reg slices_partialInsertionSortCmpFunc_int__r7)
  .ret) .skip))
  (.seq (.seq (.reg slices_partialInsertionSortCmpFunc_int__r8)
  (.cond (.tmp (45 : Nat)) (.seq (.reg slices_partialInsertionSortCmpFunc_int__r9)
  .ret) .skip))
  (.seq (.regd slices_partialInsertionSortCmpFunc_int__r10 slices_partialInsertionSortCmpFunc_int__a10)
  (.seq (.seq (.reg slices_partialInsertionSortCmpFunc_int__r11)
  (.cond (.tmp (65 : Nat)) (.seq (.reg slices_partialInsertionSortCmpFunc_int__r12)
  (.block 4 (.loop (.seq (.seq (.reg slices_partialInsertionSortCmpFunc_int__r13)
  (.cond (.tmp (69 : Nat)) .skip (.exit 4)))
  (.seq (.block 5 (.seq (.seq (.regd slices_partialInsertionSortCmpFunc_int__r14 slices_partialInsertionSortCmpFunc_int__a14)
  (.cond (.tmp (84 : Nat)) (.exit 4) .skip))
  (.regd slices_partialInsertionSortCmpFunc_int__r15 slices_partialInsertionSortCmpFunc_int__a15)))
  (.reg slices_partialInsertionSortCmpFunc_int__r16)))))) .skip))
  (.seq (.reg slices_partialInsertionSortCmpFunc_int__r17)
  (.cond (.tmp (104 : Nat)) (.seq (.reg slices_partialInsertionSortCmpFunc_int__r18)
  (.block 6 (.loop (.seq (.seq (.reg slices_partialInsertionSortCmpFunc_int__r19)
  (.cond (.tmp (109 : Nat)) .skip (.exit 6)))
  (.seq (.block 7 (.seq (.seq (.regd slices_partialInsertionSortCmpFunc_int__r20 slices_partialInsertionSortCmpFunc_int__a20)
  (.cond (.tmp (124 : Nat)) (.exit 6) .skip))
  (.regd slices_partialInsertionSortCmpFunc_int__r21 slices_partialInsertionSortCmpFunc_int__a21)))
  (.reg slices_partialInsertionSortCmpFunc_int__r22)))))) .skip))))))))
  (.reg slices_partialInsertionSortCmpFunc_int__r23))))))
  (.seq (.reg slices_partialInsertionSortCmpFunc_int__r24)
  .ret)))), [.tmp 8]⟩
theorem slices_partialInsertionSortCmpFunc_int__s : slimF Try.prog 119 = some slices_partialInsertionSortCmpFunc_int__c := by kernel_rfl
abbrev slices_partialInsertionSortCmpFunc_int__f : Nat := 119
/-- slices.partitionEqualCmpFunc[int] -/
def slices_partitionEqualCmpFunc_int__r0 : List SO := [⟨(some 10), .assign (.const (.int .i64 0)), none⟩]
def slices_partitionEqualCmpFunc_int__r1 : List SO := [⟨(some 13), .move (.tmp (0 : Nat)), none⟩,
  ⟨(some 14), .move (.tmp (1 : Nat)), none⟩,
  ⟨(some 15), .move (.tmp (0 : Nat)), none⟩,
  ⟨(some 16), .move (.tmp (3 : Nat)), none⟩,
  ⟨(some 17), .move (.tmp (0 : Nat)), none⟩,
  ⟨(some 18), .move (.tmp (3 : Nat)), none⟩,
  ⟨(some 19), .indexAddr 22 (.tmp (17 : Nat)) (.tmp (18 : Nat)), none⟩,
  ⟨(some 20), .load 3 (.tmp (19 : Nat)), none⟩,
  ⟨(some 21), .move (.tmp (0 : Nat)), none⟩,
  ⟨(some 22), .move (.tmp (1 : Nat)), none⟩,
  ⟨(some 23), .indexAddr 22 (.tmp (21 : Nat)) (.tmp (22 : Nat)), none⟩,
  ⟨(some 24), .load 3 (.tmp (23 : Nat)), none⟩,
  ⟨(some 25), .indexAddr 22 (.tmp (13 : Nat)) (.tmp (14 : Nat)), none⟩,
  ⟨none, .store 3 (.tmp (25 : Nat)) (.tmp (20 : Nat)), none⟩,
  ⟨(some 26), .indexAddr 22 (.tmp (15 : Nat)) (.tmp (16 : Nat)), none⟩,
  ⟨none, .store 3 (.tmp (26 : Nat)) (.tmp (24 : Nat)), none⟩]
def slices_partitionEqualCmpFunc_int__a1 : List (List Nat) := [[], [], [], [], [], [], [4, 5], [6], [], [], [8, 9], [10], [0, 1, 0, 1, 4, 5, 6, 7, 11], [12, 7, 0, 1, 4, 5, 6, 7, 11], [2, 3, 0, 1, 2, 3, 4, 5, 6, 7, 8, 9, 10, 11, 12, 13], [14, 11, 13, 0, 1, 2, 3, 4, 5, 6, 7, 8, 9, 10, 11, 12, 13]]
def slices_partitionEqualCmpFunc_int__r2 : List SO := [⟨(some 27), .move (.tmp (1 : Nat)), none⟩,
  ⟨(some 28), .binOp .add 3 (.tmp (27 : Nat)) (.const (.int .i64 1)) 3, none⟩,
  ⟨(some 29), .move (.tmp (2 : Nat)), none⟩,
  ⟨(some 30), .binOp .sub 3 (.tmp (29 : Nat)) (.const (.int .i64 1)) 3, none⟩,
  ⟨(some 11), .assign (.tmp (28 : Nat)), none⟩,
  ⟨(some 12), .assign (.tmp (30 : Nat)), none⟩]
def slices_partitionEqualCmpFunc_int__r3 : List SO := [⟨(some 31), .move (.tmp (11 : Nat)), none⟩,
  ⟨(some 32), .move (.tmp (12 : Nat)), none⟩,
  ⟨(some 33), .binOp .leq 3 (.tmp (31 : Nat)) (.tmp (32 : Nat)) 3, none⟩,
  ⟨(some 34), .move (.tmp (33 : Nat)), none⟩,
  ⟨(some 35), .move (.tmp (4 : Nat)), (some (34, true))⟩,
  ⟨(some 36), .move (.tmp (0 : Nat)), (some (34, true))⟩,
  ⟨(some 37), .move (.tmp (1 : Nat)), (some (34, true))⟩,
  ⟨(some 38), .indexAddr 22 (.tmp (36 : Nat)) (.tmp (37 : Nat)), (some (34, true))⟩,
  ⟨(some 39), .load 3 (.tmp (38 : Nat)), (some (34, true))⟩,
  ⟨(some 40), .move (.tmp (0 : Nat)), (some (34, true))⟩,
  ⟨(some 41), .move (.tmp (11 : Nat)), (some (34, true))⟩,
  ⟨(some 42), .indexAddr 22 (.tmp (40 : Nat)) (.tmp (41 : Nat)), (some (34, true))⟩,
  ⟨(some 43), .load 3 (.tmp (42 : Nat)), (some (34, true))⟩,
  ⟨(some 44), .call ⟨(.value (.tmp (35 : Nat))), #[(.tmp (39 : Nat)), (.tmp (43 : Nat))], #[3, 3]⟩, (some (34, true))⟩,
  ⟨(some 45), .binOp .lss 3 (.tmp (44 : Nat)) (.const (.int .i64 0)) 3, (some (34, true))⟩,
  ⟨(some 46), .unOp .not 4 (.tmp (45 : Nat)), (some (34, true))⟩,
  ⟨(some 47), .pick (.tmp (34 : Nat)) (.tmp (46 : Nat)) (.const (.bool false)), none⟩]
def slices_partitionEqualCmpFunc_int__a3 : List (List Nat) := [[], [], [0, 1], [2], [3], [3], [3], [5, 6, 3], [7, 3], [3], [3], [9, 10, 3], [11, 3], [4, 8, 12, 3, 3], [13, 3], [14, 3], [3, 15]]
def slices_partitionEqualCmpFunc_int__r4 : List SO := [⟨(some 48), .move (.tmp (11 : Nat)), none⟩,
  ⟨(some 49), .binOp .add 3 (.tmp (48 : Nat)) (.const (.int .i64 1)) 3, none⟩,
  ⟨(some 11), .assign (.tmp (49 : Nat)), none⟩]
def slices_partitionEqualCmpFunc_int__r5 : List SO := [⟨(some 50), .move (.tmp (11 : Nat)), none⟩,
  ⟨(some 51), .move (.tmp (12 : Nat)), none⟩,
  ⟨(some 52), .binOp .leq 3 (.tmp (50 : Nat)) (.tmp (51 : Nat)) 3, none⟩,
  ⟨(some 53), .move (.tmp (52 : Nat)), none⟩,
  ⟨(some 54), .move (.tmp (4 : Nat)), (some (53, true))⟩,
  ⟨(some 55), .move (.tmp (0 : Nat)), (some (53, true))⟩,
  ⟨(some 56), .move (.tmp (1 : Nat)), (some (53, true))⟩,
  ⟨(some 57), .indexAddr 22 (.tmp (55 : Nat)) (.tmp (56 : Nat)), (some (53, true))⟩,
  ⟨(some 58), .load 3 (.tmp (57 : Nat)), (some (53, true))⟩,
  ⟨(some 59), .move (.tmp (0 : Nat)), (some (53, true))⟩,
  ⟨(some 60), .move (.tmp (12 : Nat)), (some (53, true))⟩,
  ⟨(some 61), .indexAddr 22 (.tmp (59 : Nat)) (.tmp (60 : Nat)), (some (53, true))⟩,
  ⟨(some 62), .load 3 (.tmp (61 : Nat)), (some (53, true))⟩,
  ⟨(some 63), .call ⟨(.value (.tmp (54 : Nat))), #[(.tmp (58 : Nat)), (.tmp (62 : Nat))], #[3, 3]⟩, (some (53, true))⟩,
  ⟨(some 64), .binOp .lss 3 (.tmp (63 : Nat)) (.const (.int .i64 0)) 3, (some (53, true))⟩,
  ⟨(some 65), .pick (.tmp (53 : Nat)) (.tmp (64 : Nat)) (.const (.bool false)), none⟩]
def slices_partitionEqualCmpFunc_int__a5 : List (List Nat) := [[], [], [0, 1], [2], [3], [3], [3], [5, 6, 3], [7, 3], [3], [3], [9, 10, 3], [11, 3], [4, 8, 12, 3, 3], [13, 3], [3, 14]]
def slices_partitionEqualCmpFunc_int__r6 : List SO := [⟨(some 66), .move (.tmp (12 : Nat)), none⟩,
  ⟨(some 67), .binOp .sub 3 (.tmp (66 : Nat)) (.const (.int .i64 1)) 3, none⟩,
  ⟨(some 12), .assign (.tmp (67 : Nat)), none⟩]
def slices_partitionEqualCmpFunc_int__r7 : List SO := [⟨(some 68), .move (.tmp (11 : Nat)), none⟩,
  ⟨(some 69), .move (.tmp (12 : Nat)), none⟩,
  ⟨(some 70), .binOp .gtr 3 (.tmp (68 : Nat)) (.tmp (69 : Nat)) 3, none⟩]
def slices_partitionEqualCmpFunc_int__r8 : List SO := [⟨(some 71), .move (.tmp (0 : Nat)), none⟩,
  ⟨(some 72), .move (.tmp (11 : Nat)), none⟩,
  ⟨(some 73), .move (.tmp (0 : Nat)), none⟩,
  ⟨(some 74), .move (.tmp (12 : Nat)), none⟩,
  ⟨(some 75), .move (.tmp (0 : Nat)), none⟩,
  ⟨(some 76), .move (.tmp (12 : Nat)), none⟩,
  ⟨(some 77), .indexAddr 22 (.tmp (75 : Nat)) (.tmp (76 : Nat)), none⟩,
  ⟨(some 78), .load 3 (.tmp (77 : Nat)), none⟩,
  ⟨(some 79), .move (.tmp (0 : Nat)), none⟩,
  ⟨(some 80), .move (.tmp (11 : Nat)), none⟩,
  ⟨(some 81), .indexAddr 22 (.tmp (79 : Nat)) (.tmp (80 : Nat)), none⟩,
  ⟨(some 82), .load 3 (.tmp (81 : Nat)), none⟩,
  ⟨(some 83), .indexAddr 22 (.tmp (71 : Nat)) (.tmp (72 : Nat)), none⟩,
  ⟨none, .store 3 (.tmp (83 : Nat)) (.tmp (78 : Nat)), none⟩,
  ⟨(some 84), .indexAddr 22 (.tmp (73 : Nat)) (.tmp (74 : Nat)), none⟩,
  ⟨none, .store 3 (.tmp (84 : Nat)) (.tmp (82 : Nat)), none⟩]
def slices_partitionEqualCmpFunc_int__a8 : List (List Nat) := [[], [], [], [], [], [], [4, 5], [6], [], [], [8, 9], [10], [0, 1, 0, 1, 4, 5, 6, 7, 11], [12, 7, 0, 1, 4, 5, 6, 7, 11], [2, 3, 0, 1, 2, 3, 4, 5, 6, 7, 8, 9, 10, 11, 12, 13], [14, 11, 13, 0, 1, 2, 3, 4, 5, 6, 7, 8, 9, 10, 11, 12, 13]]
def slices_partitionEqualCmpFunc_int__r9 : List SO := [⟨(some 85), .move (.tmp (11 : Nat)), none⟩,
  ⟨(some 86), .binOp .add 3 (.tmp (85 : Nat)) (.const (.int .i64 1)) 3, none⟩,
  ⟨(some 11), .assign (.tmp (86 : Nat)), none⟩]
def slices_partitionEqualCmpFunc_int__r10 : List SO := [⟨(some 87), .move (.tmp (12 : Nat)), none⟩,
  ⟨(some 88), .binOp .sub 3 (.tmp (87 : Nat)) (.const (.int .i64 1)) 3, none⟩,
  ⟨(some 12), .assign (.tmp (88 : Nat)), none⟩]
def slices_partitionEqualCmpFunc_int__r11 : List SO := [⟨(some 89), .move (.tmp (11 : Nat)), none⟩,
  ⟨(some 10), .assign (.tmp (89 : Nat)), none⟩]
def slices_partitionEqualCmpFunc_int__c : SF := ⟨90, (.seq (.reg slices_partitionEqualCmpFunc_int__r0)
  (.seq (.regd slices_partitionEqualCmpFunc_int__r1 slices_partitionEqualCmpFunc_int__a1)
  (.seq (.reg slices_partitionEqualCmpFunc_int__r2)
  (.seq (.block 0 (.loop (.block 1 (.seq (.block 2 (.loop (.seq (.seq (.regd slices_partitionEqualCmpFunc_int__r3 slices_partitionEqualCmpFunc_int__a3)
  (.cond (.tmp (47 : Nat)) .skip (.exit 2)))
  (.block 3 (.reg slices_partitionEqualCmpFunc_int__r4)))))
  (.seq (.block 4 (.loop (.seq (.seq (.regd slices_partitionEqualCmpFunc_int__r5 slices_partitionEqualCmpFunc_int__a5)
  (.cond (.tmp (65 : Nat)) .skip (.exit 4)))
  (.block 5 (.reg slices_partitionEqualCmpFunc_int__r6)))))
  (.seq (.seq (.reg slices_partitionEqualCmpFunc_int__r7)
  (.cond (.tmp (70 : Nat)) (.exit 0) .skip))
  (.seq (.regd slices_partitionEqualCmpFunc_int__r8 slices_partitionEqualCmpFunc_int__a8)
  (.seq (.reg slices_partitionEqualCmpFunc_int__r9)
  (.reg slices_partitionEqualCmpFunc_int__r10)))))))))
  (.seq (.reg slices_partitionEqualCmpFunc_int__r11)
  .ret))))), [.tmp 10]⟩
theorem slices_partitionEqualCmpFunc_int__s : slimF Try.prog 120 = some slices_partitionEqualCmpFunc_int__c := by kernel_rfl
abbrev slices_partitionEqualCmpFunc_int__f : Nat := 120
/-- slices.partitionCmpFunc[int] -/
def slices_partitionCmpFunc_int__r0 : List SO := [⟨(some 10), .assign (.const (.int .i64 0)), none⟩,
  ⟨(some 11), .assign (.const (.bool false)), none⟩]
def slices_partitionCmpFunc_int__r1 : List SO := [⟨(some 14), .move (.tmp (0 : Nat)), none⟩,
  ⟨(some 15), .move (.tmp (1 : Nat)), none⟩,
  ⟨(some 16), .move (.tmp (0 : Nat)), none⟩,
  ⟨(some 17), .move (.tmp (3 : Nat)), none⟩,
  ⟨(some 18), .move (.tmp (0 : Nat)), none⟩,
  ⟨(some 19), .move (.tmp (3 : Nat)), none⟩,
  ⟨(some 20), .indexAddr 22 (.tmp (18 : Nat)) (.tmp (19 : Nat)), none⟩,
  ⟨(some 21), .load 3 (.tmp (20 : Nat)), none⟩,
  ⟨(some 22), .move (.tmp (0 : Nat)), none⟩,
  ⟨(some 23), .move (.tmp (1 : Nat)), none⟩,
  ⟨(some 24), .indexAddr 22 (.tmp (22 : Nat)) (.tmp (23 : Nat)), none⟩,
  ⟨(some 25), .load 3 (.tmp (24 : Nat)), none⟩,
  ⟨(some 26), .indexAddr 22 (.tmp (14 : Nat)) (.tmp (15 : Nat)), none⟩,
  ⟨none, .store 3 (.tmp (26 : Nat)) (.tmp (21 : Nat)), none⟩,
  ⟨(some 27), .indexAddr 22 (.tmp (16 : Nat)) (.tmp (17 : Nat)), none⟩,
  ⟨none, .store 3 (.tmp (27 : Nat)) (.tmp (25 : Nat)), none⟩]
def slices_partitionCmpFunc_int__a1 : List (List Nat) := [[], [], [], [], [], [], [4, 5], [6], [], [], [8, 9], [10], [0, 1, 0, 1, 4, 5, 6, 7, 11], [12, 7, 0, 1, 4, 5, 6, 7, 11], [2, 3, 0, 1, 2, 3, 4, 5, 6, 7, 8, 9, 10, 11, 12, 13], [14, 11, 13, 0, 1, 2, 3, 4, 5, 6, 7, 8, 9, 10, 11, 12, 13]]
def slices_partitionCmpFunc_int__r2 : List SO := [⟨(some 28), .move (.tmp (1 : Nat)), none⟩,
  ⟨(some 29), .binOp .add 3 (.tmp (28 : Nat)) (.const (.int .i64 1)) 3, none⟩,
  ⟨(some 30), .move (.tmp (2 : Nat)), none⟩,
  ⟨(some 31), .binOp .sub 3 (.tmp (30 : Nat)) (.const (.int .i64 1)) 3, none⟩,
  ⟨(some 12), .assign (.tmp (29 : Nat)), none⟩,
  ⟨(some 13), .assign (.tmp (31 : Nat)), none⟩]
def slices_partitionCmpFunc_int__r3 : List SO := [⟨(some 32), .move (.tmp (12 : Nat)), none⟩,
  ⟨(some 33), .move (.tmp (13 : Nat)), none⟩,
  ⟨(some 34), .binOp .leq 3 (.tmp (32 : Nat)) (.tmp (33 : Nat)) 3, none⟩,
  ⟨(some 35), .move (.tmp (34 : Nat)), none⟩,
  ⟨(some 36), .move (.tmp (4 : Nat)), (some (35, true))⟩,
  ⟨(some 37), .move (.tmp (0 : Nat)), (some (35, true))⟩,
  ⟨(some 38), .move (.tmp (12 : Nat)), (some (35, true))⟩,
  ⟨(some 39), .indexAddr 22 (.tmp (37 : Nat)) (.tmp (38 : Nat)), (some (35, true))⟩,
  ⟨(some 40), .load 3 (.tmp (39 : Nat)), (some (35, true))⟩,
  ⟨(some 41), .move (.tmp (0 : Nat)), (some (35, true))⟩,
  ⟨(some 42), .move (.tmp (1 : Nat)), (some (35, true))⟩,
  ⟨(some 43), .indexAddr 22 (.tmp (41 : Nat)) (.tmp (42 : Nat)), (some (35, true))⟩,
  ⟨(some 44), .load 3 (.tmp (43 : Nat)), (some (35, true))⟩,
  ⟨(some 45), .call ⟨(.value (.tmp (36 : Nat))), #[(.tmp (40 : Nat)), (.tmp (44 : Nat))], #[3, 3]⟩, (some (35, true))⟩,
  ⟨(some 46), .binOp .lss 3 (.tmp (45 : Nat)) (.const (.int .i64 0)) 3, (some (35, true))⟩,
  ⟨(some 47), .pick (.tmp (35 : Nat)) (.tmp (46 : Nat)) (.const (.bool false)), none⟩]
def slices_partitionCmpFunc_int__a3 : List (List Nat) := [[], [], [0, 1], [2], [3], [3], [3], [5, 6, 3], [7, 3], [3], [3], [9, 10, 3], [11, 3], [4, 8, 12, 3, 3], [13, 3], [3, 14]]
def slices_partitionCmpFunc_int__r4 : List SO := [⟨(some 48), .move (.tmp (12 : Nat)), none⟩,
  ⟨(some 49), .binOp .add 3 (.tmp (48 : Nat)) (.const (.int .i64 1)) 3, none⟩,
  ⟨(some 12), .assign (.tmp (49 : Nat)), none⟩]
def slices_partitionCmpFunc_int__r5 : List SO := [⟨(some 50), .move (.tmp (12 : Nat)), none⟩,
  ⟨(some 51), .move (.tmp (13 : Nat)), none⟩,
  ⟨(some 52), .binOp .leq 3 (.tmp (50 : Nat)) (.tmp (51 : Nat)) 3, none⟩,
  ⟨(some 53), .move (.tmp (52 : Nat)), none⟩,
  ⟨(some 54), .move (.tmp (4 : Nat)), (some (53, true))⟩,
  ⟨(some 55), .move (.tmp (0 : Nat)), (some (53, true))⟩,
  ⟨(some 56), .move (.tmp (13 : Nat)), (some (53, true))⟩,
  ⟨(some 57), .indexAddr 22 (.tmp (55 : Nat)) (.tmp (56 : Nat)), (some (53, true))⟩,
  ⟨(some 58), .load 3 (.tmp (57 : Nat)), (some (53, true))⟩,
  ⟨(some 59), .move (.tmp (0 : Nat)), (some (53, true))⟩,
  ⟨(some 60), .move (.tmp (1 : Nat)), (some (53, true))⟩,
  ⟨(some 61), .indexAddr 22 (.tmp (59 : Nat)) (.tmp (60 : Nat)), (some (53, true))⟩,
  ⟨(some 62), .load 3 (.tmp (61 : Nat)), (some (53, true))⟩,
  ⟨(some 63), .call ⟨(.value (.tmp (54 : Nat))), #[(.tmp (58 : Nat)), (.tmp (62 : Nat))], #[3, 3]⟩, (some (53, true))⟩,
  ⟨(some 64), .binOp .lss 3 (.tmp (63 : Nat)) (.const (.int .i64 0)) 3, (some (53, true))⟩,
  ⟨(some 65), .unOp .not 4 (.tmp (64 : Nat)), (some (53, true))⟩,
  ⟨(some 66), .pick (.tmp (53 : Nat)) (.tmp (65 : Nat)) (.const (.bool false)), none⟩]
def slices_partitionCmpFunc_int__a5 : List (List Nat) := [[], [], [0, 1], [2], [3], [3], [3], [5, 6, 3], [7, 3], [3], [3], [9, 10, 3], [11, 3], [4, 8, 12, 3, 3], [13, 3], [14, 3], [3, 15]]
def slices_partitionCmpFunc_int__r6 : List SO := [⟨(some 67), .move (.tmp (13 : Nat)), none⟩,
  ⟨(some 68), .binOp .sub 3 (.tmp (67 : Nat)) (.const (.int .i64 1)) 3, none⟩,
  ⟨(some 13), .assign (.tmp (68 : Nat)), none⟩]
def slices_partitionCmpFunc_int__r7 : List SO := [⟨(some 69), .move (.tmp (12 : Nat)), none⟩,
  ⟨(some 70), .move (.tmp (13 : Nat)), none⟩,
  ⟨(some 71), .binOp .gtr 3 (.tmp (69 : Nat)) (.tmp (70 : Nat)) 3, none⟩]
def slices_partitionCmpFunc_int__r8 : List SO := [⟨(some 72), .move (.tmp (0 : Nat)), none⟩,
  ⟨(some 73), .move (.tmp (13 : Nat)), none⟩,
  ⟨(some 74), .move (.tmp (0 : Nat)), none⟩,
  ⟨(some 75), .move (.tmp (1 : Nat)), none⟩,
  ⟨(some 76), .move (.tmp (0 : Nat)), none⟩,
  ⟨(some 77), .move (.tmp (1 : Nat)), none⟩,
  ⟨(some 78), .indexAddr 22 (.tmp (76 : Nat)) (.tmp (77 : Nat)), none⟩,
  ⟨(some 79), .load 3 (.tmp (78 : Nat)), none⟩,
  ⟨(some 80), .move (.tmp (0 : Nat)), none⟩,
  ⟨(some 81), .move (.tmp (13 : Nat)), none⟩,
  ⟨(some 82), .indexAddr 22 (.tmp (80 : Nat)) (.tmp (81 : Nat)), none⟩,
  ⟨(some 83), .load 3 (.tmp (82 : Nat)), none⟩,
  ⟨(some 84), .indexAddr 22 (.tmp (72 : Nat)) (.tmp (73 : Nat)), none⟩,
  ⟨none, .store 3 (.tmp (84 : Nat)) (.tmp (79 : Nat)), none⟩,
  ⟨(some 85), .indexAddr 22 (.tmp (74 : Nat)) (.tmp (75 : Nat)), none⟩,
  ⟨none, .store 3 (.tmp (85 : Nat)) (.tmp (83 : Nat)), none⟩]
def slices_partitionCmpFunc_int__a8 : List (List Nat) := [[], [], [], [], [], [], [4, 5], [6], [], [], [8, 9], [10], [0, 1, 0, 1, 4, 5, 6, 7, 11], [12, 7, 0, 1, 4, 5, 6, 7, 11], [2, 3, 0, 1, 2, 3, 4, 5, 6, 7, 8, 9, 10, 11, 12, 13], [14, 11, 13, 0, 1, 2, 3, 4, 5, 6, 7, 8, 9, 10, 11, 12, 13]]
def slices_partitionCmpFunc_int__r9 : List SO := [⟨(some 86), .move (.tmp (13 : Nat)), none⟩,
  ⟨(some 10), .assign (.tmp (86 : Nat)), none⟩,
  ⟨(some 11), .assign (.const (.bool true)), none⟩]
def slices_partitionCmpFunc_int__r10 : List SO := [⟨(some 87), .move (.tmp (0 : Nat)), none⟩,
  ⟨(some 88), .move (.tmp (12 : Nat)), none⟩,
  ⟨(some 89), .move (.tmp (0 : Nat)), none⟩,
  ⟨(some 90), .move (.tmp (13 : Nat)), none⟩,
  ⟨(some 91), .move (.tmp (0 : Nat)), none⟩,
  ⟨(some 92), .move (.tmp (13 : Nat)), none⟩,
  ⟨(some 93), .indexAddr 22 (.tmp (91 : Nat)) (.tmp (92 : Nat)), none⟩,
  ⟨(some 94), .load 3 (.tmp (93 : Nat)), none⟩,
  ⟨(some 95), .move (.tmp (0 : Nat)), none⟩,
  ⟨(some 96), .move (.tmp (12 : Nat)), none⟩,
  ⟨(some 97), .indexAddr 22 (.tmp (95 : Nat)) (.tmp (96 : Nat)), none⟩,
  ⟨(some 98), .load 3 (.tmp (97 : Nat)), none⟩,
  ⟨(some 99), .indexAddr 22 (.tmp (87 : Nat)) (.tmp (88 : Nat)), none⟩,
  ⟨none, .store 3 (.tmp (99 : Nat)) (.tmp (94 : Nat)), none⟩,
  ⟨(some 100), .indexAddr 22 (.tmp (89 : Nat)) (.tmp (90 : Nat)), none⟩,
  ⟨none, .store 3 (.tmp (100 : Nat)) (.tmp (98 : Nat)), none⟩]
def slices_partitionCmpFunc_int__a10 : List (List Nat) := [[], [], [], [], [], [], [4, 5], [6], [], [], [8, 9], [10], [0, 1, 0, 1, 4, 5, 6, 7, 11], [12, 7, 0, 1, 4, 5, 6, 7, 11], [2, 3, 0, 1, 2, 3, 4, 5, 6, 7, 8, 9, 10, 11, 12, 13], [14, 11, 13, 0, 1, 2, 3, 4, 5, 6, 7, 8, 9, 10, 11, 12, 13]]
def slices_partitionCmpFunc_int__r11 : List SO := [⟨(some 101), .move (.tmp (12 : Nat)), none⟩,
  ⟨(some 102), .binOp .add 3 (.tmp (101 : Nat)) (.const (.int .i64 1)) 3, none⟩,
  ⟨(some 12), .assign (.tmp (102 : Nat)), none⟩]
def slices_partitionCmpFunc_int__r12 : List SO := [⟨(some 103), .move (.tmp (13 : Nat)), none⟩,
  ⟨(some 104), .binOp .sub 3 (.tmp (103 : Nat)) (.const (.int .i64 1)) 3, none⟩,
  ⟨(some 13), .assign (.tmp (104 : Nat)), none⟩]
def slices_partitionCmpFunc_int__r13 : List SO := [⟨(some 105), .move (.tmp (12 : Nat)), none⟩,
  ⟨(some 106), .move (.tmp (13 : Nat)), none⟩,
  ⟨(some 107), .binOp .leq 3 (.tmp (105 : Nat)) (.tmp (106 : Nat)) 3, none⟩,
  ⟨(some 108), .move (.tmp (107 : Nat)), none⟩,
  ⟨(some 109), .move (.tmp (4 : Nat)), (some (108, true))⟩,
  ⟨(some 110), .move (.tmp (0 : Nat)), (some (108, true))⟩,
  ⟨(some 111), .move (.tmp (12 : Nat)), (some (108, true))⟩,
  ⟨(some 112), .indexAddr 22 (.tmp (110 : Nat)) (.tmp (111 : Nat)), (some (108, true))⟩,
  ⟨(some 113), .load 3 (.tmp (112 : Nat)), (some (108, true))⟩,
  ⟨(some 114), .move (.tmp (0 : Nat)), (some (108, true))⟩,
  ⟨(some 115), .move (.tmp (1 : Nat)), (some (108, true))⟩,
  ⟨(some 116), .indexAddr 22 (.tmp (114 : Nat)) (.tmp (115 : Nat)), (some (108, true))⟩,
  ⟨(some 117), .load 3 (.tmp (116 : Nat)), (some (108, true))⟩,
  ⟨(some 118), .call ⟨(.value (.tmp (109 : Nat))), #[(.tmp (113 : Nat)), (.tmp (117 : Nat))], #[3, 3]⟩, (some (108, true))⟩,
  ⟨(some 119), .binOp .lss 3 (.tmp (118 : Nat)) (.const (.int .i64 0)) 3, (some (108, true))⟩,
  ⟨(some 120), .pick (.tmp (108 : Nat)) (.tmp (119 : Nat)) (.const (.bool false)), none⟩]
def slices_partitionCmpFunc_int__a13 : List (List Nat) := [[], [], [0, 1], [2], [3], [3], [3], [5, 6, 3], [7, 3], [3], [3], [9, 10, 3], [11, 3], [4, 8, 12, 3, 3], [13, 3], [3, 14]]
def slices_partitionCmpFunc_int__r14 : List SO := [⟨(some 121), .move (.tmp (12 : Nat)), none⟩,
  ⟨(some 122), .binOp .add 3 (.tmp (121 : Nat)) (.const (.int .i64 1)) 3, none⟩,
  ⟨(some 12), .assign (.tmp (122 : Nat)), none⟩]
def slices_partitionCmpFunc_int__r15 : List SO := [⟨(some 123), .move (.tmp (12 : Nat)), none⟩,
  ⟨(some 124), .move (.tmp (13 : Nat)), none⟩,
  ⟨(some 125), .binOp .leq 3 (.tmp (123 : Nat)) (.tmp (124 : Nat)) 3, none⟩,
  ⟨(some 126), .move (.tmp (125 : Nat)), none⟩,
  ⟨(some 127), .move (.tmp (4 : Nat)), (some (126, true))⟩,
  ⟨(some 128), .move (.tmp (0 : Nat)), (some (126, true))⟩,
  ⟨(some 129), .move (.tmp (13 : Nat)), (some (126, true))⟩,
  ⟨(some 130), .indexAddr 22 (.tmp (128 : Nat)) (.tmp (129 : Nat)), (some (126, true))⟩,
  ⟨(some 131), .load 3 (.tmp (130 : Nat)), (some (126, true))⟩,
  ⟨(some 132), .move (.tmp (0 : Nat)), (some (126, true))⟩,
  ⟨(some 133), .move (.tmp (1 : Nat)), (some (126, true))⟩,
  ⟨(some 134), .indexAddr 22 (.tmp (132 : Nat)) (.tmp (133 : Nat)), (some (126, true))⟩,
  ⟨(some 135), .load 3 (.tmp (134 : Nat)), (some (126, true))⟩,
  ⟨(some 136), .call ⟨(.value (.tmp (127 : Nat))), #[(.tmp (131 : Nat)), (.tmp (135 : Nat))], #[3, 3]⟩, (some (126, true))⟩,
  ⟨(some 137), .binOp .lss 3 (.tmp (136 : Nat)) (.const (.int .i64 0)) 3, (some (126, true))⟩,
  ⟨(some 138), .unOp .not 4 (.tmp (137 : Nat)), (some (126, true))⟩,
  ⟨(some 139), .pick (.tmp (126 : Nat)) (.tmp (138 : Nat)) (.const (.bool false)), none⟩]
def slices_partitionCmpFunc_int__a15 : List (List Nat) := [[], [], [0, 1], [2], [3], [3], [3], [5, 6, 3], [7, 3], [3], [3], [9, 10, 3], [11, 3], [4, 8, 12, 3, 3], [13, 3], [14, 3], [3, 15]]
def slices_partitionCmpFunc_int__r16 : List SO := [⟨(some 140), .move (.tmp (13 : Nat)), none⟩,
  ⟨(some 141), .binOp .sub 3 (.tmp (140 : Nat)) (.const (.int .i64 1)) 3, none⟩,
  ⟨(some 13), .assign (.tmp (141 : Nat)), none⟩]
def slices_partitionCmpFunc_int__r17 : List SO := [⟨(some 142), .move (.tmp (12 : Nat)), none⟩,
  ⟨(some 143), .move (.tmp (13 : Nat)), none⟩,
  ⟨(some 144), .binOp .gtr 3 (.tmp (142 : Nat)) (.tmp (143 : Nat)) 3, none⟩]
def slices_partitionCmpFunc_int__r18 : List SO := [⟨(some 145), .move (.tmp (0 : Nat)), none⟩,
  ⟨(some 146), .move (.tmp (12 : Nat)), none⟩,
  ⟨(some 147), .move (.tmp (0 : Nat)), none⟩,
  ⟨(some 148), .move (.tmp (13 : Nat)), none⟩,
  ⟨(some 149), .move (.tmp (0 : Nat)), none⟩,
  ⟨(some 150), .move (.tmp (13 : Nat)), none⟩,
  ⟨(some 151), .indexAddr 22 (.tmp (149 : Nat)) (.tmp (150 : Nat)), none⟩,
  ⟨(some 152), .load 3 (.tmp (151 : Nat)), none⟩,
  ⟨(some 153), .move (.tmp (0 : Nat)), none⟩,
  ⟨(some 154), .move (.tmp (12 : Nat)), none⟩,
  ⟨(some 155), .indexAddr 22 (.tmp (153 : Nat)) (.tmp (154 : Nat)), none⟩,
  ⟨(some 156), .load 3 (.tmp (155 : Nat)), none⟩,
  ⟨(some 157), .indexAddr 22 (.tmp (145 : Nat)) (.tmp (146 : Nat)), none⟩,
  ⟨none, .store 3 (.tmp (157 : Nat)) (.tmp (152 : Nat)), none⟩,
  ⟨(some 158), .indexAddr 22 (.tmp (147 : Nat)) (.tmp (148 : Nat)), none⟩,
  ⟨none, .store 3 (.tmp (158 : Nat)) (.tmp (156 : Nat)), none⟩]
def slices_partitionCmpFunc_int__a18 : List (List Nat) := [[], [], [], [], [], [], [4, 5], [6], [], [], [8, 9], [10], [0, 1, 0, 1, 4, 5, 6, 7, 11], [12, 7, 0, 1, 4, 5, 6, 7, 11], [2, 3, 0, 1, 2, 3, 4, 5, 6, 7, 8, 9, 10, 11, 12, 13], [14, 11, 13, 0, 1, 2, 3, 4, 5, 6, 7, 8, 9, 10, 11, 12, 13]]
def slices_partitionCmpFunc_int__r19 : List SO := [⟨(some 159), .move (.tmp (12 : Nat)), none⟩,
  ⟨(some 160), .binOp .add 3 (.tmp (159 : Nat)) (.const (.int .i64 1)) 3, none⟩,
  ⟨(some 12), .assign (.tmp (160 : Nat)), none⟩]
def slices_partitionCmpFunc_int__r20 : List SO := [⟨(some 161), .move (.tmp (13 : Nat)), none⟩,
  ⟨(some 162), .binOp .sub 3 (.tmp (161 : Nat)) (.const (.int .i64 1)) 3, none⟩,
  ⟨(some 13), .assign (.tmp (162 : Nat)), none⟩]
def slices_partitionCmpFunc_int__r21 : List SO := [⟨(some 163), .move (.tmp (0 : Nat)), none⟩,
  ⟨(some 164), .move (.tmp (13 : Nat)), none⟩,
  ⟨(some 165), .move (.tmp (0 : Nat)), none⟩,
  ⟨(some 166), .move (.tmp (1 : Nat)), none⟩,
  ⟨(some 167), .move (.tmp (0 : Nat)), none⟩,
  ⟨(some 168), .move (.tmp (1 : Nat)), none⟩,
  ⟨(some 169), .indexAddr 22 (.tmp (167 : Nat)) (.tmp (168 : Nat)), none⟩,
  ⟨(some 170), .load 3 (.tmp (169 : Nat)), none⟩,
  ⟨(some 171), .move (.tmp (0 : Nat)), none⟩,
  ⟨(some 172), .move (.tmp (13 : Nat)), none⟩,
  ⟨(some 173), .indexAddr 22 (.tmp (171 : Nat)) (.tmp (172 : Nat)), none⟩,
  ⟨(some 174), .load 3 (.tmp (173 : Nat)), none⟩,
  ⟨(some 175), .indexAddr 22 (.tmp (163 : Nat)) (.tmp (164 : Nat)), none⟩,
  ⟨none, .store 3 (.tmp (175 : Nat)) (.tmp (170 : Nat)), none⟩,
  ⟨(some 176), .indexAddr 22 (.tmp (165 : Nat)) (.tmp (166 : Nat)), none⟩,
  ⟨none, .store 3 (.tmp (176 : Nat)) (.tmp (174 : Nat)), none⟩]
def slices_partitionCmpFunc_int__a21 : List (List Nat) := [[], [], [], [], [], [], [4, 5], [6], [], [], [8, 9], [10], [0, 1, 0, 1, 4, 5, 6, 7, 11], [12, 7, 0, 1, 4, 5, 6, 7, 11], [2, 3, 0, 1, 2, 3, 4, 5, 6, 7, 8, 9, 10, 11, 12, 13], [14, 11, 13, 0, 1, 2, 3, 4, 5, 6, 7, 8, 9, 10, 11, 12, 13]]
def slices_partitionCmpFunc_int__r22 : List SO := [⟨(some 177), .move (.tmp (13 : Nat)), none⟩,
  ⟨(some 10), .assign (.tmp (177 : Nat)), none⟩,
  ⟨(some 11), .assign (.const (.bool false)), none⟩]
def slices_partitionCmpFunc_int__c : SF := ⟨178, (.seq (.reg slices_partitionCmpFunc_int__r0)
  (.seq (.regd slices_partitionCmpFunc_int__r1 slices_partitionCmpFunc_int__a1)
  (.seq (.reg slices_partitionCmpFunc_int__r2)
  (.seq (.block 0 (.loop (.seq (.seq (.regd slices_partitionCmpFunc_int__r3 slices_partitionCmpFunc_int__a3)
  (.cond (.tmp (47 : Nat)) .skip (.exit 0)))
  (.block 1 (.reg slices_partitionCmpFunc_int__r4)))))
  (.seq (.block 2 (.loop (.seq (.seq (.regd slices_partitionCmpFunc_int__r5 slices_partitionCmpFunc_int__a5)
  (.cond (.tmp (66 : Nat)) .skip (.exit 2)))
  (.block 3 (.reg slices_partitionCmpFunc_int__r6)))))
  (.seq (.seq (.reg slices_partitionCmpFunc_int__r7)
  (.cond (.tmp (71 : Nat)) (.seq (.regd slices_partitionCmpFunc_int__r8 slices_partitionCmpFunc_int__a8)
  (.seq (.reg slices_partitionCmpFunc_int__r9)
  .ret)) .skip))
  (.seq (.regd slices_partitionCmpFunc_int__r10 slices_partitionCmpFunc_int__a10)
  (.seq (.reg slices_partitionCmpFunc_int__r11)
  (.seq (.reg slices_partitionCmpFunc_int__r12)
  (.seq (.block 4 (.loop (.block 5 (.seq (.block 6 (.loop (.seq (.seq (.regd slices_partitionCmpFunc_int__r13 slices_partitionCmpFunc_int__a13)
  (.cond (.tmp (120 : Nat)) .skip (.exit 6)))
  (.block 7 (.reg slices_partitionCmpFunc_int__r14)))))
  (.seq (.block 8 (.loop (.seq (.seq (.regd slices_partitionCmpFunc_int__r15 slices_partitionCmpFunc_int__a15)
  (.cond (.tmp (139 : Nat)) .skip (.exit 8)))
  (.block 9 (.reg slices_partitionCmpFunc_int__r16)))))
  (.seq (.seq (.reg slices_partitionCmpFunc_int__r17)
  (.cond (.tmp (144 : Nat)) (.exit 4) .skip))
  (.seq (.regd slices_partitionCmpFunc_int__r18 slices_partitionCmpFunc_int__a18)
  (.seq (.reg slices_partitionCmpFunc_int__r19)
  (.reg slices_partitionCmpFunc_int__r20)))))))))
  (.seq (.regd slices_partitionCmpFunc_int__r21 slices_partitionCmpFunc_int__a21)
  (.seq (.reg slices_partitionCmpFunc_int__r22)
  .ret)))))))))))), [.tmp 10, .tmp 11]⟩
theorem slices_partitionCmpFunc_int__s : slimF Try.prog 121 = some slices_partitionCmpFunc_int__c := by kernel_rfl
abbrev slices_partitionCmpFunc_int__f : Nat := 121
/-- slices.siftDownCmpFunc[int] -/
def slices_siftDownCmpFunc_int__r0 : List SO := [⟨(some 12), .move (.tmp (1 : Nat)), none⟩,
  ⟨(some 10), .assign (.tmp (12 : Nat)), none⟩]
def slices_siftDownCmpFunc_int__r1 : List SO := [⟨(some 13), .move (.tmp (10 : Nat)), none⟩,
  ⟨(some 14), .binOp .mul 3 (.const (.int .i64 2)) (.tmp (13 : Nat)) 3, none⟩,
  ⟨(some 15), .binOp .add 3 (.tmp (14 : Nat)) (.const (.int .i64 1)) 3, none⟩,
  ⟨(some 11), .assign (.tmp (15 : Nat)), none⟩]
def slices_siftDownCmpFunc_int__r2 : List SO := [⟨(some 16), .move (.tmp (11 : Nat)), none⟩,
  ⟨(some 17), .move (.tmp (2 : Nat)), none⟩,
  ⟨(some 18), .binOp .geq 3 (.tmp (16 : Nat)) (.tmp (17 : Nat)) 3, none⟩]
def slices_siftDownCmpFunc_int__r3 : List SO := [⟨(some 19), .move (.tmp (11 : Nat)), none⟩,
  ⟨(some 20), .binOp .add 3 (.tmp (19 : Nat)) (.const (.int .i64 1)) 3, none⟩,
  ⟨(some 21), .move (.tmp (2 : Nat)), none⟩,
  ⟨(some 22), .binOp .lss 3 (.tmp (20 : Nat)) (.tmp (21 : Nat)) 3, none⟩,
  ⟨(some 23), .move (.tmp (22 : Nat)), none⟩,
  ⟨(some 24), .move (.tmp (4 : Nat)), (some (23, true))⟩,
  ⟨(some 25), .move (.tmp (0 : Nat)), (some (23, true))⟩,
  ⟨(some 26), .move (.tmp (3 : Nat)), (some (23, true))⟩,
  ⟨(some 27), .move (.tmp (11 : Nat)), (some (23, true))⟩,
  ⟨(some 28), .binOp .add 3 (.tmp (26 : Nat)) (.tmp (27 : Nat)) 3, (some (23, true))⟩,
  ⟨(some 29), .indexAddr 22 (.tmp (25 : Nat)) (.tmp (28 : Nat)), (some (23, true))⟩,
  ⟨(some 30), .load 3 (.tmp (29 : Nat)), (some (23, true))⟩,
  ⟨(some 31), .move (.tmp (0 : Nat)), (some (23, true))⟩,
  ⟨(some 32), .move (.tmp (3 : Nat)), (some (23, true))⟩,
  ⟨(some 33), .move (.tmp (11 : Nat)), (some (23, true))⟩,
  ⟨(some 34), .binOp .add 3 (.tmp (32 : Nat)) (.tmp (33 : Nat)) 3, (some (23, true))⟩,
  ⟨(some 35), .binOp .add 3 (.tmp (34 : Nat)) (.const (.int .i64 1)) 3, (some (23, true))⟩,
  ⟨(some 36), .indexAddr 22 (.tmp (31 : Nat)) (.tmp (35 : Nat)), (some (23, true))⟩,
  ⟨(some 37), .load 3 (.tmp (36 : Nat)), (some (23, true))⟩,
  ⟨(some 38), .call ⟨(.value (.tmp (24 : Nat))), #[(.tmp (30 : Nat)), (.tmp (37 : Nat))], #[3, 3]⟩, (some (23, true))⟩,
  ⟨(some 39), .binOp .lss 3 (.tmp (38 : Nat)) (.const (.int .i64 0)) 3, (some (23, true))⟩,
  ⟨(some 40), .pick (.tmp (23 : Nat)) (.tmp (39 : Nat)) (.const (.bool false)), none⟩]
def slices_siftDownCmpFunc_int__a3 : List (List Nat) := [[], [0], [], [1, 2], [3], [4], [4], [4], [4], [7, 8, 4], [6, 9, 4], [10, 4], [4], [4], [4], [13, 14, 4], [15, 4], [12, 16, 4], [17, 4], [5, 11, 18, 4, 4], [19, 4], [4, 20]]
def slices_siftDownCmpFunc_int__r4 : List SO := [⟨(some 41), .move (.tmp (11 : Nat)), none⟩,
  ⟨(some 42), .binOp .add 3 (.tmp (41 : Nat)) (.const (.int .i64 1)) 3, none⟩,
  ⟨(some 11), .assign (.tmp (42 : Nat)), none⟩]
def slices_siftDownCmpFunc_int__r5 : List SO := [⟨(some 43), .move (.tmp (4 : Nat)), none⟩,
  ⟨(some 44), .move (.tmp (0 : Nat)), none⟩,
  ⟨(some 45), .move (.tmp (3 : Nat)), none⟩,
  ⟨(some 46), .move (.tmp (10 : Nat)), none⟩,
  ⟨(some 47), .binOp .add 3 (.tmp (45 : Nat)) (.tmp (46 : Nat)) 3, none⟩,
  ⟨(some 48), .indexAddr 22 (.tmp (44 : Nat)) (.tmp (47 : Nat)), none⟩,
  ⟨(some 49), .load 3 (.tmp (48 : Nat)), none⟩,
  ⟨(some 50), .move (.tmp (0 : Nat)), none⟩,
  ⟨(some 51), .move (.tmp (3 : Nat)), none⟩,
  ⟨(some 52), .move (.tmp (11 : Nat)), none⟩,
  ⟨(some 53), .binOp .add 3 (.tmp (51 : Nat)) (.tmp (52 : Nat)) 3, none⟩,
  ⟨(some 54), .indexAddr 22 (.tmp (50 : Nat)) (.tmp (53 : Nat)), none⟩,
  ⟨(some 55), .load 3 (.tmp (54 : Nat)), none⟩,
  ⟨(some 56), .call ⟨(.value (.tmp (43 : Nat))), #[(.tmp (49 : Nat)), (.tmp (55 : Nat))], #[3, 3]⟩, none⟩,
  ⟨(some 57), .binOp .lss 3 (.tmp (56 : Nat)) (.const (.int .i64 0)) 3, none⟩,
  ⟨(some 58), .unOp .not 4 (.tmp (57 : Nat)), none⟩]
def slices_siftDownCmpFunc_int__a5 : List (List Nat) := [[], [], [], [], [2, 3], [1, 4], [5], [], [], [], [8, 9], [7, 10], [11], [0, 6, 12], [13], [14]]
def slices_siftDownCmpFunc_int__r6 : List SO := [⟨(some 59), .move (.tmp (0 : Nat)), none⟩,
  ⟨(some 60), .move (.tmp (3 : Nat)), none⟩,
  ⟨(some 61), .move (.tmp (10 : Nat)), none⟩,
  ⟨(some 62), .binOp .add 3 (.tmp (60 : Nat)) (.tmp (61 : Nat)) 3, none⟩,
  ⟨(some 63), .move (.tmp (0 : Nat)), none⟩,
  ⟨(some 64), .move (.tmp (3 : Nat)), none⟩,
  ⟨(some 65), .move (.tmp (11 : Nat)), none⟩,
  ⟨(some 66), .binOp .add 3 (.tmp (64 : Nat)) (.tmp (65 : Nat)) 3, none⟩,
  ⟨(some 67), .move (.tmp (0 : Nat)), none⟩,
  ⟨(some 68), .move (.tmp (3 : Nat)), none⟩,
  ⟨(some 69), .move (.tmp (11 : Nat)), none⟩,
  ⟨(some 70), .binOp .add 3 (.tmp (68 : Nat)) (.tmp (69 : Nat)) 3, none⟩,
  ⟨(some 71), .indexAddr 22 (.tmp (67 : Nat)) (.tmp (70 : Nat)), none⟩,
  ⟨(some 72), .load 3 (.tmp (71 : Nat)), none⟩,
  ⟨(some 73), .move (.tmp (0 : Nat)), none⟩,
  ⟨(some 74), .move (.tmp (3 : Nat)), none⟩,
  ⟨(some 75), .move (.tmp (10 : Nat)), none⟩,
  ⟨(some 76), .binOp .add 3 (.tmp (74 : Nat)) (.tmp (75 : Nat)) 3, none⟩,
  ⟨(some 77), .indexAddr 22 (.tmp (73 : Nat)) (.tmp (76 : Nat)), none⟩,
  ⟨(some 78), .load 3 (.tmp (77 : Nat)), none⟩,
  ⟨(some 79), .indexAddr 22 (.tmp (59 : Nat)) (.tmp (62 : Nat)), none⟩,
  ⟨none, .store 3 (.tmp (79 : Nat)) (.tmp (72 : Nat)), none⟩,
  ⟨(some 80), .indexAddr 22 (.tmp (63 : Nat)) (.tmp (66 : Nat)), none⟩,
  ⟨none, .store 3 (.tmp (80 : Nat)) (.tmp (78 : Nat)), none⟩]
def slices_siftDownCmpFunc_int__a6 : List (List Nat) := [[], [], [], [1, 2], [], [], [], [5, 6], [], [], [], [9, 10], [8, 11], [12], [], [], [], [15, 16], [14, 17], [18], [0, 3, 0, 1, 2, 3, 8, 9, 10, 11, 12, 13, 19], [20, 13, 0, 1, 2, 3, 8, 9, 10, 11, 12, 13, 19], [4, 7, 0, 1, 2, 3, 4, 5, 6, 7, 8, 9, 10, 11, 12, 13, 14, 15, 16, 17, 18, 19, 20, 21], [22, 19, 21, 0, 1, 2, 3, 4, 5, 6, 7, 8, 9, 10, 11, 12, 13, 14, 15, 16, 17, 18, 19, 20, 21]]
def slices_siftDownCmpFunc_int__r7 : List SO := [⟨(some 81), .move (.tmp (11 : Nat)), none⟩,
  ⟨(some 10), .assign (.tmp (81 : Nat)), none⟩]
def slices_siftDownCmpFunc_int__c : SF := ⟨82, (.seq (.reg slices_siftDownCmpFunc_int__r0)
  (.block 0 (.loop (.block 1 (.seq (.reg slices_siftDownCmpFunc_int__r1)
  (.seq (.seq (.reg slices_siftDownCmpFunc_int__r2)
  (.cond (.tmp (18 : Nat)) (.exit 0) .skip))
  (.seq (.seq (.regd slices_siftDownCmpFunc_int__r3 slices_siftDownCmpFunc_int__a3)
  (.cond (.tmp (40 : Nat)) (.reg slices_siftDownCmpFunc_int__r4) .skip))
  (.seq (.seq (.regd slices_siftDownCmpFunc_int__r5 slices_siftDownCmpFunc_int__a5)
  (.cond (.tmp (58 : Nat)) .ret .skip))
  (.seq (.regd slices_siftDownCmpFunc_int__r6 slices_siftDownCmpFunc_int__a6)
  (.reg slices_siftDownCmpFunc_int__r7)))))))))), []⟩
theorem slices_siftDownCmpFunc_int__s : slimF Try.prog 124 = some slices_siftDownCmpFunc_int__c := by kernel_rfl
abbrev slices_siftDownCmpFunc_int__f : Nat := 124
/-- slices.nextPowerOfTwo -/
def slices_nextPowerOfTwo_r0 : List SO := [⟨(some 2), .assign (.const (.int .u64 0)), none⟩]
def slices_nextPowerOfTwo_r1 : List SO := [⟨(some 3), .move (.tmp (0 : Nat)), none⟩,
  ⟨(some 4), .convert 3 128 (.tmp (3 : Nat)), none⟩,
  ⟨(some 5), .call ⟨(.value (.func (113 : Nat))), #[(.tmp (4 : Nat))], #[128]⟩, none⟩,
  ⟨(some 6), .binOp .shl 128 (.const (.int .u64 1)) (.tmp (5 : Nat)) 3, none⟩,
  ⟨(some 2), .assign (.tmp (6 : Nat)), none⟩]
def slices_nextPowerOfTwo_c : SF := ⟨7, (.seq (.reg slices_nextPowerOfTwo_r0)
  (.seq (.reg slices_nextPowerOfTwo_r1)
  .ret)), [.tmp 2]⟩
theorem slices_nextPowerOfTwo_s : slimF Try.prog 125 = some slices_nextPowerOfTwo_c := by kernel_rfl
abbrev slices_nextPowerOfTwo_f : Nat := 125
/-- (*slices.xorshift).Next -/
def __slices_xorshift__Next_r0 : List SO := [⟨(some 2), .assign (.const (.int .u64 0)), none⟩]
def __slices_xorshift__Next_r1 : List SO := [⟨(some 3), .move (.tmp (0 : Nat)), none⟩,
  ⟨(some 4), .nilCheck (.tmp (3 : Nat)), none⟩,
  ⟨(some 5), .load 196 (.tmp (4 : Nat)), none⟩,
  ⟨(some 6), .move (.tmp (0 : Nat)), none⟩,
  ⟨(some 7), .nilCheck (.tmp (6 : Nat)), none⟩,
  ⟨(some 8), .load 196 (.tmp (7 : Nat)), none⟩,
  ⟨(some 9), .binOp .shl 196 (.tmp (8 : Nat)) (.const (.int .u64 13)) 128, none⟩,
  ⟨(some 10), .binOp .xor 196 (.tmp (5 : Nat)) (.tmp (9 : Nat)) 196, none⟩,
  ⟨(some 11), .nilCheck (.tmp (3 : Nat)), none⟩,
  ⟨none, .store 196 (.tmp (11 : Nat)) (.tmp (10 : Nat)), none⟩]
def __slices_xorshift__Next_a1 : List (List Nat) := [[], [0], [1], [], [3], [4], [5], [2, 6], [0, 0, 1, 2, 3, 4, 5, 6, 7], [8, 7, 0, 1, 2, 3, 4, 5, 6, 7]]
def __slices_xorshift__Next_r2 : List SO := [⟨(some 12), .move (.tmp (0 : Nat)), none⟩,
  ⟨(some 13), .nilCheck (.tmp (12 : Nat)), none⟩,
  ⟨(some 14), .load 196 (.tmp (13 : Nat)), none⟩,
  ⟨(some 15), .move (.tmp (0 : Nat)), none⟩,
  ⟨(some 16), .nilCheck (.tmp (15 : Nat)), none⟩,
  ⟨(some 17), .load 196 (.tmp (16 : Nat)), none⟩,
  ⟨(some 18), .binOp .shr 196 (.tmp (17 : Nat)) (.const (.int .u64 7)) 128, none⟩,
  ⟨(some 19), .binOp .xor 196 (.tmp (14 : Nat)) (.tmp (18 : Nat)) 196, none⟩,
  ⟨(some 20), .nilCheck (.tmp (12 : Nat)), none⟩,
  ⟨none, .store 196 (.tmp (20 : Nat)) (.tmp (19 : Nat)), none⟩]
def __slices_xorshift__Next_a2 : List (List Nat) := [[], [0], [1], [], [3], [4], [5], [2, 6], [0, 0, 1, 2, 3, 4, 5, 6, 7], [8, 7, 0, 1, 2, 3, 4, 5, 6, 7]]
def __slices_xorshift__Next_r3 : List SO := [⟨(some 21), .move (.tmp (0 : Nat)), none⟩,
  ⟨(some 22), .nilCheck (.tmp (21 : Nat)), none⟩,
  ⟨(some 23), .load 196 (.tmp (22 : Nat)), none⟩,
  ⟨(some 24), .move (.tmp (0 : Nat)), none⟩,
  ⟨(some 25), .nilCheck (.tmp (24 : Nat)), none⟩,
  ⟨(some 26), .load 196 (.tmp (25 : Nat)), none⟩,
  ⟨(some 27), .binOp .shl 196 (.tmp (26 : Nat)) (.const (.int .u64 17)) 128, none⟩,
  ⟨(some 28), .binOp .xor 196 (.tmp (23 : Nat)) (.tmp (27 : Nat)) 196, none⟩,
  ⟨(some 29), .nilCheck (.tmp (21 : Nat)), none⟩,
  ⟨none, .store 196 (.tmp (29 : Nat)) (.tmp (28 : Nat)), none⟩]
def __slices_xorshift__Next_a3 : List (List Nat) := [[], [0], [1], [], [3], [4], [5], [2, 6], [0, 0, 1, 2, 3, 4, 5, 6, 7], [8, 7, 0, 1, 2, 3, 4, 5, 6, 7]]
def __slices_xorshift__Next_r4 : List SO := [⟨(some 30), .move (.tmp (0 : Nat)), none⟩,
  ⟨(some 31), .nilCheck (.tmp (30 : Nat)), none⟩,
  ⟨(some 32), .load 196 (.tmp (31 : Nat)), none⟩,
  ⟨(some 2), .assign (.tmp (32 : Nat)), none⟩]
def __slices_xorshift__Next_c : SF := ⟨33, (.seq (.reg __slices_xorshift__Next_r0)
  (.seq (.regd __slices_xorshift__Next_r1 __slices_xorshift__Next_a1)
  (.seq (.regd __slices_xorshift__Next_r2 __slices_xorshift__Next_a2)
  (.seq (.regd __slices_xorshift__Next_r3 __slices_xorshift__Next_a3)
  (.seq (.reg __slices_xorshift__Next_r4)
  .ret))))), [.tmp 2]⟩
theorem __slices_xorshift__Next_s : slimF Try.prog 126 = some __slices_xorshift__Next_c := by kernel_rfl
abbrev __slices_xorshift__Next_f : Nat := 126
/-- slices.medianAdjacentCmpFunc[int] -/
def slices_medianAdjacentCmpFunc_int__r0 : List SO := [⟨(some 8), .assign (.const (.int .i64 0)), none⟩]
def slices_medianAdjacentCmpFunc_int__r1 : List SO := [⟨(some 9), .move (.tmp (0 : Nat)), none⟩,
  ⟨(some 10), .move (.tmp (1 : Nat)), none⟩,
  ⟨(some 11), .binOp .sub 3 (.tmp (10 : Nat)) (.const (.int .i64 1)) 3, none⟩,
  ⟨(some 12), .move (.tmp (1 : Nat)), none⟩,
  ⟨(some 13), .move (.tmp (1 : Nat)), none⟩,
  ⟨(some 14), .binOp .add 3 (.tmp (13 : Nat)) (.const (.int .i64 1)) 3, none⟩,
  ⟨(some 15), .move (.tmp (2 : Nat)), none⟩,
  ⟨(some 16), .move (.tmp (3 : Nat)), none⟩,
  ⟨(some 17), .call ⟨(.value (.func (128 : Nat))), #[(.tmp (9 : Nat)), (.tmp (11 : Nat)), (.tmp (12 : Nat)), (.tmp (14 : Nat)), (.tmp (15 : Nat)), (.tmp (16 : Nat))], #[22, 3, 3, 3, 200, 28]⟩, none⟩,
  ⟨(some 8), .assign (.tmp (17 : Nat)), none⟩]
def slices_medianAdjacentCmpFunc_int__c : SF := ⟨18, (.seq (.reg slices_medianAdjacentCmpFunc_int__r0)
  (.seq (.reg slices_medianAdjacentCmpFunc_int__r1)
  .ret)), [.tmp 8]⟩
theorem slices_medianAdjacentCmpFunc_int__s : slimF Try.prog 127 = some slices_medianAdjacentCmpFunc_int__c := by kernel_rfl
abbrev slices_medianAdjacentCmpFunc_int__f : Nat := 127
/-- slices.medianCmpFunc[int] -/
def slices_medianCmpFunc_int__r0 : List SO := [⟨(some 12), .assign (.const (.int .i64 0)), none⟩]
def slices_medianCmpFunc_int__r1 : List SO := [⟨(some 14), .move (.tmp (0 : Nat)), none⟩,
  ⟨(some 15), .move (.tmp (1 : Nat)), none⟩,
  ⟨(some 16), .move (.tmp (2 : Nat)), none⟩,
  ⟨(some 17), .move (.tmp (4 : Nat)), none⟩,
  ⟨(some 18), .move (.tmp (5 : Nat)), none⟩,
  ⟨(some 19), .call ⟨(.value (.func (129 : Nat))), #[(.tmp (14 : Nat)), (.tmp (15 : Nat)), (.tmp (16 : Nat)), (.tmp (17 : Nat)), (.tmp (18 : Nat))], #[22, 3, 3, 200, 28]⟩, none⟩,
  ⟨(some 13), .move (.tmp (19 : Nat)), none⟩,
  ⟨(some 20), .extract (.tmp (13 : Nat)) 0, none⟩,
  ⟨(some 21), .extract (.tmp (13 : Nat)) 1, none⟩,
  ⟨(some 1), .assign (.tmp (20 : Nat)), none⟩,
  ⟨(some 2), .assign (.tmp (21 : Nat)), none⟩]
def slices_medianCmpFunc_int__r2 : List SO := [⟨(some 23), .move (.tmp (0 : Nat)), none⟩,
  ⟨(some 24), .move (.tmp (2 : Nat)), none⟩,
  ⟨(some 25), .move (.tmp (3 : Nat)), none⟩,
  ⟨(some 26), .move (.tmp (4 : Nat)), none⟩,
  ⟨(some 27), .move (.tmp (5 : Nat)), none⟩,
  ⟨(some 28), .call ⟨(.value (.func (129 : Nat))), #[(.tmp (23 : Nat)), (.tmp (24 : Nat)), (.tmp (25 : Nat)), (.tmp (26 : Nat)), (.tmp (27 : Nat))], #[22, 3, 3, 200, 28]⟩, none⟩,
  ⟨(some 22), .move (.tmp (28 : Nat)), none⟩,
  ⟨(some 29), .extract (.tmp (22 : Nat)) 0, none⟩,
  ⟨(some 30), .extract (.tmp (22 : Nat)) 1, none⟩,
  ⟨(some 2), .assign (.tmp (29 : Nat)), none⟩,
  ⟨(some 3), .assign (.tmp (30 : Nat)), none⟩]
def slices_medianCmpFunc_int__r3 : List SO := [⟨(some 32), .move (.tmp (0 : Nat)), none⟩,
  ⟨(some 33), .move (.tmp (1 : Nat)), none⟩,
  ⟨(some 34), .move (.tmp (2 : Nat)), none⟩,
  ⟨(some 35), .move (.tmp (4 : Nat)), none⟩,
  ⟨(some 36), .move (.tmp (5 : Nat)), none⟩,
  ⟨(some 37), .call ⟨(.value (.func (129 : Nat))), #[(.tmp (32 : Nat)), (.tmp (33 : Nat)), (.tmp (34 : Nat)), (.tmp (35 : Nat)), (.tmp (36 : Nat))], #[22, 3, 3, 200, 28]⟩, none⟩,
  ⟨(some 31), .move (.tmp (37 : Nat)), none⟩,
  ⟨(some 38), .extract (.tmp (31 : Nat)) 0, none⟩,
  ⟨(some 39), .extract (.tmp (31 : Nat)) 1, none⟩,
  ⟨(some 1), .assign (.tmp (38 : Nat)), none⟩,
  ⟨(some 2), .assign (.tmp (39 : Nat)), none⟩]
def slices_medianCmpFunc_int__r4 : List SO := [⟨(some 40), .move (.tmp (2 : Nat)), none⟩,
  ⟨(some 12), .assign (.tmp (40 : Nat)), none⟩]
def slices_medianCmpFunc_int__c : SF := ⟨41, (.seq (.reg slices_medianCmpFunc_int__r0)
  (.seq (.reg slices_medianCmpFunc_int__r1)
  (.seq (.reg slices_medianCmpFunc_int__r2)
  (.seq (.reg slices_medianCmpFunc_int__r3)
  (.seq (.reg slices_medianCmpFunc_int__r4)
  .ret))))), [.tmp 12]⟩
theorem slices_medianCmpFunc_int__s : slimF Try.prog 128 = some slices_medianCmpFunc_int__c := by kernel_rfl
abbrev slices_medianCmpFunc_int__f : Nat := 128
/-- slices.order2CmpFunc[int] -/
def slices_order2CmpFunc_int__r0 : List SO := [⟨(some 10), .assign (.const (.int .i64 0)), none⟩,
  ⟨(some 11), .assign (.const (.int .i64 0)), none⟩]
def slices_order2CmpFunc_int__r1 : List SO := [⟨(some 12), .move (.tmp (4 : Nat)), none⟩,
  ⟨(some 13), .move (.tmp (0 : Nat)), none⟩,
  ⟨(some 14), .move (.tmp (2 : Nat)), none⟩,
  ⟨(some 15), .indexAddr 22 (.tmp (13 : Nat)) (.tmp (14 : Nat)), none⟩,
  ⟨(some 16), .load 3 (.tmp (15 : Nat)), none⟩,
  ⟨(some 17), .move (.tmp (0 : Nat)), none⟩,
  ⟨(some 18), .move (.tmp (1 : Nat)), none⟩,
  ⟨(some 19), .indexAddr 22 (.tmp (17 : Nat)) (.tmp (18 : Nat)), none⟩,
  ⟨(some 20), .load 3 (.tmp (19 : Nat)), none⟩,
  ⟨(some 21), .call ⟨(.value (.tmp (12 : Nat))), #[(.tmp (16 : Nat)), (.tmp (20 : Nat))], #[3, 3]⟩, none⟩,
  ⟨(some 22), .binOp .lss 3 (.tmp (21 : Nat)) (.const (.int .i64 0)) 3, none⟩]
def slices_order2CmpFunc_int__a1 : List (List Nat) := [[], [], [], [1, 2], [3], [], [], [5, 6], [7], [0, 4, 8], [9]]
def slices_order2CmpFunc_int__r2 : List SO := [⟨(some 23), .move (.tmp (3 : Nat)), none⟩,
  ⟨(some 24), .nilCheck (.tmp (23 : Nat)), none⟩,
  ⟨(some 25), .load 3 (.tmp (24 : Nat)), none⟩,
  ⟨(some 26), .binOp .add 3 (.tmp (25 : Nat)) (.const (.int .i64 1)) 3, none⟩,
  ⟨(some 27), .nilCheck (.tmp (23 : Nat)), none⟩,
  ⟨none, .store 3 (.tmp (27 : Nat)) (.tmp (26 : Nat)), none⟩]
def slices_order2CmpFunc_int__r3 : List SO := [⟨(some 28), .move (.tmp (2 : Nat)), none⟩,
  ⟨(some 29), .move (.tmp (1 : Nat)), none⟩,
  ⟨(some 10), .assign (.tmp (28 : Nat)), none⟩,
  ⟨(some 11), .assign (.tmp (29 : Nat)), none⟩]
def slices_order2CmpFunc_int__r4 : List SO := [⟨(some 30), .move (.tmp (1 : Nat)), none⟩,
  ⟨(some 31), .move (.tmp (2 : Nat)), none⟩,
  ⟨(some 10), .assign (.tmp (30 : Nat)), none⟩,
  ⟨(some 11), .assign (.tmp (31 : Nat)), none⟩]
def slices_order2CmpFunc_int__c : SF := ⟨32, (.seq (.reg slices_order2CmpFunc_int__r0)
  (.seq (.seq (.regd slices_order2CmpFunc_int__r1 slices_order2CmpFunc_int__a1)
  (.cond (.tmp (22 : Nat)) (.seq (.reg slices_order2CmpFunc_int__r2)
  (.seq (.reg slices_order2CmpFunc_int__r3)
  .ret)) .skip))
  (.seq (.reg slices_order2CmpFunc_int__r4)
  .ret))), [.tmp 10, .tmp 11]⟩
theorem slices_order2CmpFunc_int__s : slimF Try.prog 129 = some slices_order2CmpFunc_int__c := by kernel_rfl
abbrev slices_order2CmpFunc_int__f : Nat := 129

def tbl_slices : List (Nat × SF) := [(110, slices_SortFunc___int_int__c), (112, slices_pdqsortCmpFunc_int__c), (114, slices_insertionSortCmpFunc_int__c), (115, slices_heapSortCmpFunc_int__c), (116, slices_breakPatternsCmpFunc_int__c), (117, slices_choosePivotCmpFunc_int__c), (118, slices_reverseRangeCmpFunc_int__c), (119, slices_partialInsertionSortCmpFunc_int__c), (120, slices_partitionEqualCmpFunc_int__c), (121, slices_partitionCmpFunc_int__c), (124, slices_siftDownCmpFunc_int__c), (125, slices_nextPowerOfTwo_c), (126, __slices_xorshift__Next_c), (127, slices_medianAdjacentCmpFunc_int__c), (128, slices_medianCmpFunc_int__c), (129, slices_order2CmpFunc_int__c)]
theorem tbl_slices_ok : okT Try.prog tbl_slices := ⟨slices_SortFunc___int_int__s, slices_pdqsortCmpFunc_int__s, slices_insertionSortCmpFunc_int__s, slices_heapSortCmpFunc_int__s, slices_breakPatternsCmpFunc_int__s, slices_choosePivotCmpFunc_int__s, slices_reverseRangeCmpFunc_int__s, slices_partialInsertionSortCmpFunc_int__s, slices_partitionEqualCmpFunc_int__s, slices_partitionCmpFunc_int__s, slices_siftDownCmpFunc_int__s, slices_nextPowerOfTwo_s, __slices_xorshift__Next_s, slices_medianAdjacentCmpFunc_int__s, slices_medianCmpFunc_int__s, slices_order2CmpFunc_int__s, trivial⟩

end Go.Proofs.Ythnfbdihihhoiaa
namespace Go.Proofs.Ythnfbdihihhoiaa
open Go Go.Lite
set_option linter.unusedVariables false

/-- math/bits.Len -/
def math_bits_Len_r0 : List SO := [⟨(some 2), .assign (.const (.int .i64 0)), none⟩]
def math_bits_Len_r1 : List SO := [⟨(some 3), .move (.tmp (0 : Nat)), none⟩,
  ⟨(some 4), .convert 128 119 (.tmp (3 : Nat)), none⟩,
  ⟨(some 5), .call ⟨(.value (.func (122 : Nat))), #[(.tmp (4 : Nat))], #[119]⟩, none⟩,
  ⟨(some 2), .assign (.tmp (5 : Nat)), none⟩]
def math_bits_Len_r2 : List SO := [⟨(some 6), .move (.tmp (0 : Nat)), none⟩,
  ⟨(some 7), .call ⟨(.value (.func (123 : Nat))), #[(.tmp (6 : Nat))], #[68]⟩, none⟩,
  ⟨(some 2), .assign (.tmp (7 : Nat)), none⟩]
def math_bits_Len_c : SF := ⟨8, (.seq (.reg math_bits_Len_r0)
  (.seq (.cond (.const (.bool false)) (.seq (.reg math_bits_Len_r1)
  .ret) .skip)
  (.seq (.reg math_bits_Len_r2)
  .ret))), [.tmp 2]⟩
theorem math_bits_Len_s : slimF Try.prog 113 = some math_bits_Len_c := by kernel_rfl
abbrev math_bits_Len_f : Nat := 113
/-- math/bits.Len32 -/
def math_bits_Len32_r0 : List SO := [⟨(some 2), .assign (.const (.int .i64 0)), none⟩]
def math_bits_Len32_r1 : List SO := [⟨(some 3), .move (.tmp (0 : Nat)), none⟩,
  ⟨(some 4), .binOp .geq 119 (.tmp (3 : Nat)) (.const (.int .u32 65536)) 119, none⟩]
def math_bits_Len32_r2 : List SO := [⟨(some 5), .move (.tmp (0 : Nat)), none⟩,
  ⟨(some 6), .binOp .shr 119 (.tmp (5 : Nat)) (.const (.int .u64 16)) 128, none⟩,
  ⟨(some 0), .assign (.tmp (6 : Nat)), none⟩]
def math_bits_Len32_r3 : List SO := [⟨(some 2), .assign (.const (.int .i64 16)), none⟩]
def math_bits_Len32_r4 : List SO := [⟨(some 7), .move (.tmp (0 : Nat)), none⟩,
  ⟨(some 8), .binOp .geq 119 (.tmp (7 : Nat)) (.const (.int .u32 256)) 119, none⟩]
def math_bits_Len32_r5 : List SO := [⟨(some 9), .move (.tmp (0 : Nat)), none⟩,
  ⟨(some 10), .binOp .shr 119 (.tmp (9 : Nat)) (.const (.int .u64 8)) 128, none⟩,
  ⟨(some 0), .assign (.tmp (10 : Nat)), none⟩]
def math_bits_Len32_r6 : List SO := [⟨(some 11), .move (.tmp (2 : Nat)), none⟩,
  ⟨(some 12), .binOp .add 3 (.tmp (11 : Nat)) (.const (.int .i64 8)) 3, none⟩,
  ⟨(some 2), .assign (.tmp (12 : Nat)), none⟩]
def math_bits_Len32_r7 : List SO := [⟨(some 13), .move (.tmp (2 : Nat)), none⟩,
  ⟨(some 14), .move (.tmp (0 : Nat)), none⟩,
  ⟨(some 15), .convert 119 5 (.tmp (14 : Nat)), none⟩,
  ⟨(some 16), .index 9 (.const (.string ⟨([0, 1, 2, 2, 3, 3, 3, 3, 4, 4, 4, 4, 4, 4, 4, 4, 5, 5, 5, 5, 5, 5, 5, 5, 5, 5, 5, 5, 5, 5, 5, 5, 6, 6, 6, 6, 6, 6, 6, 6, 6, 6, 6, 6, 6, 6, 6, 6, 6, 6, 6, 6, 6, 6, 6, 6, 6, 6, 6, 6, 6, 6, 6, 6, 7, 7, 7, 7, 7, 7, 7, 7, 7, 7, 7, 7, 7, 7, 7, 7, 7, 7, 7, 7, 7, 7, 7, 7, 7, 7, 7, 7, 7, 7, 7, 7, 7, 7, 7, 7, 7, 7, 7, 7, 7, 7, 7, 7, 7, 7, 7, 7, 7, 7, 7, 7, 7, 7, 7, 7, 7, 7, 7, 7, 7, 7, 7, 7, 8, 8, 8, 8, 8, 8, 8, 8, 8, 8, 8, 8, 8, 8, 8, 8, 8, 8, 8, 8, 8, 8, 8, 8, 8, 8, 8, 8, 8, 8, 8, 8, 8, 8, 8, 8, 8, 8, 8, 8, 8, 8, 8, 8, 8, 8, 8, 8, 8, 8, 8, 8, 8, 8, 8, 8, 8, 8, 8, 8, 8, 8, 8, 8, 8, 8, 8, 8, 8, 8, 8, 8, 8, 8, 8, 8, 8, 8, 8, 8, 8, 8, 8, 8, 8, 8, 8, 8, 8, 8, 8, 8, 8, 8, 8, 8, 8, 8, 8, 8, 8, 8, 8, 8, 8, 8, 8, 8, 8, 8, 8, 8, 8, 8, 8, 8, 8, 8, 8, 8, 8, 8, 8, 8, 8, 8, 8, 8] : List UInt8).toArray⟩)) (.tmp (15 : Nat)), none⟩,
  ⟨(some 17), .convert 5 3 (.tmp (16 : Nat)), none⟩,
  ⟨(some 18), .binOp .add 3 (.tmp (13 : Nat)) (.tmp (17 : Nat)) 3, none⟩,
  ⟨(some 2), .assign (.tmp (18 : Nat)), none⟩]
def math_bits_Len32_c : SF := ⟨19, (.seq (.reg math_bits_Len32_r0)
  (.seq (.seq (.reg math_bits_Len32_r1)
  (.cond (.tmp (4 : Nat)) (.seq (.reg math_bits_Len32_r2)
  (.reg math_bits_Len32_r3)) .skip))
  (.seq (.seq (.reg math_bits_Len32_r4)
  (.cond (.tmp (8 : Nat)) (.seq (.reg math_bits_Len32_r5)
  (.reg math_bits_Len32_r6)) .skip))
  (.seq (.reg math_bits_Len32_r7)
  .ret)))), [.tmp 2]⟩
theorem math_bits_Len32_s : slimF Try.prog 122 = some math_bits_Len32_c := by kernel_rfl
abbrev math_bits_Len32_f : Nat := 122
/-- math/bits.Len64 -/
def math_bits_Len64_r0 : List SO := [⟨(some 2), .assign (.const (.int .i64 0)), none⟩]
def math_bits_Len64_r1 : List SO := [⟨(some 3), .move (.tmp (0 : Nat)), none⟩,
  ⟨(some 4), .binOp .geq 68 (.tmp (3 : Nat)) (.const (.int .u64 4294967296)) 68, none⟩]
def math_bits_Len64_r2 : List SO := [⟨(some 5), .move (.tmp (0 : Nat)), none⟩,
  ⟨(some 6), .binOp .shr 68 (.tmp (5 : Nat)) (.const (.int .u64 32)) 128, none⟩,
  ⟨(some 0), .assign (.tmp (6 : Nat)), none⟩]
def math_bits_Len64_r3 : List SO := [⟨(some 2), .assign (.const (.int .i64 32)), none⟩]
def math_bits_Len64_r4 : List SO := [⟨(some 7), .move (.tmp (0 : Nat)), none⟩,
  ⟨(some 8), .binOp .geq 68 (.tmp (7 : Nat)) (.const (.int .u64 65536)) 68, none⟩]
def math_bits_Len64_r5 : List SO := [⟨(some 9), .move (.tmp (0 : Nat)), none⟩,
  ⟨(some 10), .binOp .shr 68 (.tmp (9 : Nat)) (.const (.int .u64 16)) 128, none⟩,
  ⟨(some 0), .assign (.tmp (10 : Nat)), none⟩]
def math_bits_Len64_r6 : List SO := [⟨(some 11), .move (.tmp (2 : Nat)), none⟩,
  ⟨(some 12), .binOp .add 3 (.tmp (11 : Nat)) (.const (.int .i64 16)) 3, none⟩,
  ⟨(some 2), .assign (.tmp (12 : Nat)), none⟩]
def math_bits_Len64_r7 : List SO := [⟨(some 13), .move (.tmp (0 : Nat)), none⟩,
  ⟨(some 14), .binOp .geq 68 (.tmp (13 : Nat)) (.const (.int .u64 256)) 68, none⟩]
def math_bits_Len64_r8 : List SO := [⟨(some 15), .move (.tmp (0 : Nat)), none⟩,
  ⟨(some 16), .binOp .shr 68 (.tmp (15 : Nat)) (.const (.int .u64 8)) 128, none⟩,
  ⟨(some 0), .assign (.tmp (16 : Nat)), none⟩]
def math_bits_Len64_r9 : List SO := [⟨(some 17), .move (.tmp (2 : Nat)), none⟩,
  ⟨(some 18), .binOp .add 3 (.tmp (17 : Nat)) (.const (.int .i64 8)) 3, none⟩,
  ⟨(some 2), .assign (.tmp (18 : Nat)), none⟩]
def math_bits_Len64_r10 : List SO := [⟨(some 19), .move (.tmp (2 : Nat)), none⟩,
  ⟨(some 20), .move (.tmp (0 : Nat)), none⟩,
  ⟨(some 21), .convert 68 5 (.tmp (20 : Nat)), none⟩,
  ⟨(some 22), .index 9 (.const (.string ⟨([0, 1, 2, 2, 3, 3, 3, 3, 4, 4, 4, 4, 4, 4, 4, 4, 5, 5, 5, 5, 5, 5, 5, 5, 5, 5, 5, 5, 5, 5, 5, 5, 6, 6, 6, 6, 6, 6, 6, 6, 6, 6, 6, 6, 6, 6, 6, 6, 6, 6, 6, 6, 6, 6, 6, 6, 6, 6, 6, 6, 6, 6, 6, 6, 7, 7, 7, 7, 7, 7, 7, 7, 7, 7, 7, 7, 7, 7, 7, 7, 7, 7, 7, 7, 7, 7, 7, 7, 7, 7, 7, 7, 7, 7, 7, 7, 7, 7, 7, 7, 7, 7, 7, 7, 7, 7, 7, 7, 7, 7, 7, 7, 7, 7, 7, 7, 7, 7, 7, 7, 7, 7, 7, 7, 7, 7, 7, 7, 8, 8, 8, 8, 8, 8, 8, 8, 8, 8, 8, 8, 8, 8, 8, 8, 8, 8, 8, 8, 8, 8, 8, 8, 8, 8, 8, 8, 8, 8, 8, 8, 8, 8, 8, 8, 8, 8, 8, 8, 8, 8, 8, 8, 8, 8, 8, 8, 8, 8, 8, 8, 8, 8, 8, 8, 8, 8, 8, 8, 8, 8, 8, 8, 8, 8, 8, 8, 8, 8, 8, 8, 8, 8, 8, 8, 8, 8, 8, 8, 8, 8, 8, 8, 8, 8, 8, 8, 8, 8, 8, 8, 8, 8, 8, 8, 8, 8, 8, 8, 8, 8, 8, 8, 8, 8, 8, 8, 8, 8, 8, 8, 8, 8, 8, 8, 8, 8, 8, 8, 8, 8, 8, 8, 8, 8, 8, 8] : List UInt8).toArray⟩)) (.tmp (21 : Nat)), none⟩,
  ⟨(some 23), .convert 5 3 (.tmp (22 : Nat)), none⟩,
  ⟨(some 24), .binOp .add 3 (.tmp (19 : Nat)) (.tmp (23 : Nat)) 3, none⟩,
  ⟨(some 2), .assign (.tmp (24 : Nat)), none⟩]
def math_bits_Len64_c : SF := ⟨25, (.seq (.reg math_bits_Len64_r0)
  (.seq (.seq (.reg math_bits_Len64_r1)
  (.cond (.tmp (4 : Nat)) (.seq (.reg math_bits_Len64_r2)
  (.reg math_bits_Len64_r3)) .skip))
  (.seq (.seq (.reg math_bits_Len64_r4)
  (.cond (.tmp (8 : Nat)) (.seq (.reg math_bits_Len64_r5)
  (.reg math_bits_Len64_r6)) .skip))
  (.seq (.seq (.reg math_bits_Len64_r7)
  (.cond (.tmp (14 : Nat)) (.seq (.reg math_bits_Len64_r8)
  (.reg math_bits_Len64_r9)) .skip))
  (.seq (.reg math_bits_Len64_r10)
  .ret))))), [.tmp 2]⟩
theorem math_bits_Len64_s : slimF Try.prog 123 = some math_bits_Len64_c := by kernel_rfl
abbrev math_bits_Len64_f : Nat := 123

def tbl_bits : List (Nat × SF) := [(113, math_bits_Len_c), (122, math_bits_Len32_c), (123, math_bits_Len64_c)]
theorem tbl_bits_ok : okT Try.prog tbl_bits := ⟨math_bits_Len_s, math_bits_Len32_s, math_bits_Len64_s, trivial⟩

end Go.Proofs.Ythnfbdihihhoiaa
namespace Go.Proofs.Ythnfbdihihhoiaa
open Go Go.Lite
set_option linter.unusedVariables false

/-- printworks/curve.At -/
def curve_At_r0 : List SO := [⟨(some 2), .box 51 (.tmp (0 : Nat)), none⟩,
  ⟨(some 4), .assign (.const (.int .i64 0)), none⟩,
  ⟨(some 5), .assign (.const (.int .i64 0)), none⟩]
def curve_At_r1 : List SO := [⟨(some 7), .load 51 (.tmp (2 : Nat)), none⟩,
  ⟨(some 8), .call ⟨(.value (.func (66 : Nat))), #[(.tmp (7 : Nat))], #[51]⟩, none⟩,
  ⟨(some 6), .assign (.tmp (8 : Nat)), none⟩]
def curve_At_r2 : List SO := [⟨(some 9), .move (.tmp (6 : Nat)), none⟩,
  ⟨(some 10), .binOp .neq 26 (.tmp (9 : Nat)) (.const (.int .i64 0)) 26, none⟩]
def curve_At_r3 : List SO := [⟨(some 11), .move (.tmp (6 : Nat)), none⟩,
  ⟨(some 4), .assign (.const (.int .i64 0)), none⟩,
  ⟨(some 5), .assign (.tmp (11 : Nat)), none⟩]
def curve_At_r4 : List SO := [⟨(some 12), .move (.tmp (1 : Nat)), none⟩,
  ⟨(some 13), .binOp .lss 3 (.tmp (12 : Nat)) (.const (.int .i64 0)) 3, none⟩,
  ⟨(some 14), .move (.tmp (13 : Nat)), none⟩,
  ⟨(some 15), .move (.tmp (1 : Nat)), (some (14, false))⟩,
  ⟨(some 16), .binOp .gtr 3 (.tmp (15 : Nat)) (.const (.int .i64 65280)) 3, (some (14, false))⟩,
  ⟨(some 17), .pick (.tmp (14 : Nat)) (.const (.bool true)) (.tmp (16 : Nat)), none⟩]
def curve_At_r5 : List SO := [⟨(some 4), .assign (.const (.int .i64 0)), none⟩,
  ⟨(some 5), .assign (.const (.int .i64 3)), none⟩]
def curve_At_r6 : List SO := [⟨(some 18), .load 51 (.tmp (2 : Nat)), none⟩,
  ⟨(some 19), .move (.tmp (1 : Nat)), none⟩,
  ⟨(some 20), .call ⟨(.value (.func (67 : Nat))), #[(.tmp (18 : Nat)), (.tmp (19 : Nat))], #[51, 3]⟩, none⟩,
  ⟨(some 4), .assign (.tmp (20 : Nat)), none⟩,
  ⟨(some 5), .assign (.const (.int .i64 0)), none⟩]
def curve_At_c : SF := ⟨21, (.seq (.reg curve_At_r0)
  (.seq (.seq (.reg curve_At_r1)
  (.seq (.reg curve_At_r2)
  (.cond (.tmp (10 : Nat)) (.seq (.reg curve_At_r3)
  .ret) .skip)))
  (.seq (.seq (.reg curve_At_r4)
  (.cond (.tmp (17 : Nat)) (.seq (.reg curve_At_r5)
  .ret) .skip))
  (.seq (.reg curve_At_r6)
  .ret)))), [.tmp 4, .tmp 5]⟩
theorem curve_At_s : slimF Try.prog 28 = some curve_At_c := by kernel_rfl
abbrev curve_At_f : Nat := 28
/-- printworks/curve.Check -/
def curve_Check_r0 : List SO := [⟨(some 1), .box 51 (.tmp (0 : Nat)), none⟩,
  ⟨(some 2), .assign (.const (.int .i64 0)), none⟩]
def curve_Check_r1 : List SO := [⟨(some 6), .fieldAddr 51 (.tmp (1 : Nat)) 0, none⟩,
  ⟨(some 7), .load 49 (.tmp (6 : Nat)), none⟩,
  ⟨(some 8), .call ⟨(.builtin .len), #[(.tmp (7 : Nat))], #[49]⟩, none⟩,
  ⟨(some 3), .assign (.tmp (8 : Nat)), none⟩]
def curve_Check_r2 : List SO := [⟨(some 10), .move (.tmp (3 : Nat)), none⟩,
  ⟨(some 11), .binOp .gtr 3 (.tmp (10 : Nat)) (.const (.int .i64 33)) 3, none⟩,
  ⟨(some 9), .assign (.tmp (11 : Nat)), none⟩]
def curve_Check_r3 : List SO := [⟨(some 2), .assign (.const (.int .i64 2)), none⟩]
def curve_Check_r4 : List SO := [⟨(some 13), .move (.tmp (3 : Nat)), none⟩,
  ⟨(some 14), .binOp .lss 3 (.tmp (13 : Nat)) (.const (.int .i64 2)) 3, none⟩,
  ⟨(some 12), .assign (.tmp (14 : Nat)), none⟩]
def curve_Check_r5 : List SO := [⟨(some 2), .assign (.const (.int .i64 1)), none⟩]
def curve_Check_r6 : List SO := [⟨(some 15), .fieldAddr 51 (.tmp (1 : Nat)) 0, none⟩,
  ⟨(some 16), .load 49 (.tmp (15 : Nat)), none⟩,
  ⟨(some 17), .call ⟨(.builtin .len), #[(.tmp (16 : Nat))], #[49]⟩, none⟩,
  ⟨(some 18), .move (.const (.int .i64 0)), none⟩]
def curve_Check_r7 : List SO := [⟨(some 19), .binOp .lss 3 (.tmp (18 : Nat)) (.tmp (17 : Nat)) 3, none⟩]
def curve_Check_r8 : List SO := [⟨(some 20), .move (.tmp (18 : Nat)), none⟩,
  ⟨(some 21), .indexAddr 49 (.tmp (16 : Nat)) (.tmp (18 : Nat)), none⟩,
  ⟨(some 22), .load 160 (.tmp (21 : Nat)), none⟩,
  ⟨(some 5), .alloc 160, none⟩,
  ⟨(some 4), .assign (.tmp (20 : Nat)), none⟩,
  ⟨none, .store 160 (.tmp (5 : Nat)) (.tmp (22 : Nat)), none⟩]
def curve_Check_r9 : List SO := [⟨(some 23), .fieldAddr 160 (.tmp (5 : Nat)) 0, none⟩,
  ⟨(some 24), .load 3 (.tmp (23 : Nat)), none⟩,
  ⟨(some 25), .binOp .lss 3 (.tmp (24 : Nat)) (.const (.int .i64 0)) 3, none⟩,
  ⟨(some 26), .move (.tmp (25 : Nat)), none⟩,
  ⟨(some 27), .fieldAddr 160 (.tmp (5 : Nat)) 0, (some (26, false))⟩,
  ⟨(some 28), .load 3 (.tmp (27 : Nat)), (some (26, false))⟩,
  ⟨(some 29), .binOp .gtr 3 (.tmp (28 : Nat)) (.const (.int .i64 65280)) 3, (some (26, false))⟩,
  ⟨(some 30), .pick (.tmp (26 : Nat)) (.const (.bool true)) (.tmp (29 : Nat)), none⟩,
  ⟨(some 31), .move (.tmp (30 : Nat)), none⟩,
  ⟨(some 32), .fieldAddr 160 (.tmp (5 : Nat)) 1, (some (31, false))⟩,
  ⟨(some 33), .load 3 (.tmp (32 : Nat)), (some (31, false))⟩,
  ⟨(some 34), .binOp .lss 3 (.tmp (33 : Nat)) (.const (.int .i64 0)) 3, (some (31, false))⟩,
  ⟨(some 35), .pick (.tmp (31 : Nat)) (.const (.bool true)) (.tmp (34 : Nat)), none⟩,
  ⟨(some 36), .move (.tmp (35 : Nat)), none⟩,
  ⟨(some 37), .fieldAddr 160 (.tmp (5 : Nat)) 1, (some (36, false))⟩,
  ⟨(some 38), .load 3 (.tmp (37 : Nat)), (some (36, false))⟩,
  ⟨(some 39), .binOp .gtr 3 (.tmp (38 : Nat)) (.const (.int .i64 65280)) 3, (some (36, false))⟩,
  ⟨(some 40), .pick (.tmp (36 : Nat)) (.const (.bool true)) (.tmp (39 : Nat)), none⟩]
def curve_Check_r10 : List SO := [⟨(some 2), .assign (.const (.int .i64 3)), none⟩]
def curve_Check_r11 : List SO := [⟨(some 41), .move (.tmp (4 : Nat)), none⟩,
  ⟨(some 42), .binOp .gtr 3 (.tmp (41 : Nat)) (.const (.int .i64 0)) 3, none⟩,
  ⟨(some 43), .move (.tmp (42 : Nat)), none⟩,
  ⟨(some 44), .fieldAddr 160 (.tmp (5 : Nat)) 0, (some (43, true))⟩,
  ⟨(some 45), .load 3 (.tmp (44 : Nat)), (some (43, true))⟩,
  ⟨(some 46), .fieldAddr 51 (.tmp (1 : Nat)) 0, (some (43, true))⟩,
  ⟨(some 47), .load 49 (.tmp (46 : Nat)), (some (43, true))⟩,
  ⟨(some 48), .move (.tmp (4 : Nat)), (some (43, true))⟩,
  ⟨(some 49), .binOp .sub 3 (.tmp (48 : Nat)) (.const (.int .i64 1)) 3, (some (43, true))⟩,
  ⟨(some 50), .indexAddr 49 (.tmp (47 : Nat)) (.tmp (49 : Nat)), (some (43, true))⟩,
  ⟨(some 51), .fieldAddr 160 (.tmp (50 : Nat)) 0, (some (43, true))⟩,
  ⟨(some 52), .load 3 (.tmp (51 : Nat)), (some (43, true))⟩,
  ⟨(some 53), .binOp .leq 3 (.tmp (45 : Nat)) (.tmp (52 : Nat)) 3, (some (43, true))⟩,
  ⟨(some 54), .move (.tmp (53 : Nat)), (some (43, true))⟩,
  ⟨(some 55), .fieldAddr 160 (.tmp (5 : Nat)) 1, (some (54, false))⟩,
  ⟨(some 56), .load 3 (.tmp (55 : Nat)), (some (54, false))⟩,
  ⟨(some 57), .fieldAddr 51 (.tmp (1 : Nat)) 0, (some (54, false))⟩,
  ⟨(some 58), .load 49 (.tmp (57 : Nat)), (some (54, false))⟩,
  ⟨(some 59), .move (.tmp (4 : Nat)), (some (54, false))⟩,
  ⟨(some 60), .binOp .sub 3 (.tmp (59 : Nat)) (.const (.int .i64 1)) 3, (some (54, false))⟩,
  ⟨(some 61), .indexAddr 49 (.tmp (58 : Nat)) (.tmp (60 : Nat)), (some (54, false))⟩,
  ⟨(some 62), .fieldAddr 160 (.tmp (61 : Nat)) 1, (some (54, false))⟩,
  ⟨(some 63), .load 3 (.tmp (62 : Nat)), (some (54, false))⟩,
  ⟨(some 64), .binOp .lss 3 (.tmp (56 : Nat)) (.tmp (63 : Nat)) 3, (some (54, false))⟩,
  ⟨(some 65), .pick (.tmp (54 : Nat)) (.const (.bool true)) (.tmp (64 : Nat)), (some (43, true))⟩,
  ⟨(some 66), .pick (.tmp (43 : Nat)) (.tmp (65 : Nat)) (.const (.bool false)), none⟩]
def curve_Check_a11 : List (List Nat) := [[], [0], [1], [2], [3, 2], [2], [5, 2], [2], [7, 2], [6, 8, 2], [9, 2], [10, 2], [4, 11, 2], [12, 2, 2], [13], [14, 13], [13], [16, 13], [13], [18, 13], [17, 19, 13], [20, 13], [21, 13], [15, 22, 13], [13, 23, 2], [2, 24]]
def curve_Check_r12 : List SO := [⟨(some 2), .assign (.const (.int .i64 18)), none⟩]
def curve_Check_r13 : List SO := [⟨(some 67), .binOp .add 3 (.tmp (18 : Nat)) (.const (.int .i64 1)) 3, none⟩,
  ⟨(some 18), .move (.tmp (67 : Nat)), none⟩]
def curve_Check_r14 : List SO := [⟨(some 68), .fieldAddr 51 (.tmp (1 : Nat)) 0, none⟩,
  ⟨(some 69), .load 49 (.tmp (68 : Nat)), none⟩,
  ⟨(some 70), .indexAddr 49 (.tmp (69 : Nat)) (.const (.int .i64 0)), none⟩,
  ⟨(some 71), .fieldAddr 160 (.tmp (70 : Nat)) 0, none⟩,
  ⟨(some 72), .load 3 (.tmp (71 : Nat)), none⟩,
  ⟨(some 73), .binOp .neq 3 (.tmp (72 : Nat)) (.const (.int .i64 0)) 3, none⟩,
  ⟨(some 74), .move (.tmp (73 : Nat)), none⟩,
  ⟨(some 75), .fieldAddr 51 (.tmp (1 : Nat)) 0, (some (74, false))⟩,
  ⟨(some 76), .load 49 (.tmp (75 : Nat)), (some (74, false))⟩,
  ⟨(some 77), .fieldAddr 51 (.tmp (1 : Nat)) 0, (some (74, false))⟩,
  ⟨(some 78), .load 49 (.tmp (77 : Nat)), (some (74, false))⟩,
  ⟨(some 79), .call ⟨(.builtin .len), #[(.tmp (78 : Nat))], #[49]⟩, (some (74, false))⟩,
  ⟨(some 80), .binOp .sub 3 (.tmp (79 : Nat)) (.const (.int .i64 1)) 3, (some (74, false))⟩,
  ⟨(some 81), .indexAddr 49 (.tmp (76 : Nat)) (.tmp (80 : Nat)), (some (74, false))⟩,
  ⟨(some 82), .fieldAddr 160 (.tmp (81 : Nat)) 0, (some (74, false))⟩,
  ⟨(some 83), .load 3 (.tmp (82 : Nat)), (some (74, false))⟩,
  ⟨(some 84), .binOp .neq 3 (.tmp (83 : Nat)) (.const (.int .i64 65280)) 3, (some (74, false))⟩,
  ⟨(some 85), .pick (.tmp (74 : Nat)) (.const (.bool true)) (.tmp (84 : Nat)), none⟩]
def curve_Check_r15 : List SO := [⟨(some 2), .assign (.const (.int .i64 4)), none⟩]
def curve_Check_r16 : List SO := [⟨(some 2), .assign (.const (.int .i64 0)), none⟩]
def curve_Check_c : SF := ⟨86, (.seq (.reg curve_Check_r0)
  (.seq (.seq (.reg curve_Check_r1)
  (.block 0 (.seq (.reg curve_Check_r2)
  (.cond (.tmp (9 : Nat)) (.seq (.reg curve_Check_r3)
  .ret) (.seq (.reg curve_Check_r4)
  (.cond (.tmp (12 : Nat)) (.seq (.reg curve_Check_r5)
  .ret) .skip))))))
  (.seq (.seq (.reg curve_Check_r6)
  (.block 1 (.loop (.seq (.reg curve_Check_r7)
  (.seq (.cond (.tmp (19 : Nat)) .skip (.exit 1))
  (.seq (.block 2 (.seq (.reg curve_Check_r8)
  (.seq (.seq (.reg curve_Check_r9)
  (.cond (.tmp (40 : Nat)) (.seq (.reg curve_Check_r10)
  .ret) .skip))
  (.seq (.regd curve_Check_r11 curve_Check_a11)
  (.cond (.tmp (66 : Nat)) (.seq (.reg curve_Check_r12)
  .ret) .skip)))))
  (.reg curve_Check_r13)))))))
  (.seq (.seq (.reg curve_Check_r14)
  (.cond (.tmp (85 : Nat)) (.seq (.reg curve_Check_r15)
  .ret) .skip))
  (.seq (.reg curve_Check_r16)
  .ret))))), [.tmp 2]⟩
theorem curve_Check_s : slimF Try.prog 66 = some curve_Check_c := by kernel_rfl
abbrev curve_Check_f : Nat := 66
/-- printworks/curve.Raw -/
def curve_Raw_r0 : List SO := [⟨(some 2), .box 51 (.tmp (0 : Nat)), none⟩,
  ⟨(some 4), .assign (.const (.int .i64 0)), none⟩]
def curve_Raw_r1 : List SO := [⟨(some 10), .fieldAddr 51 (.tmp (2 : Nat)) 0, none⟩,
  ⟨(some 11), .load 49 (.tmp (10 : Nat)), none⟩,
  ⟨(some 12), .call ⟨(.builtin .len), #[(.tmp (11 : Nat))], #[49]⟩, none⟩,
  ⟨(some 13), .binOp .sub 3 (.tmp (12 : Nat)) (.const (.int .i64 1)) 3, none⟩,
  ⟨(some 5), .assign (.const (.int .i64 0)), none⟩,
  ⟨(some 6), .assign (.tmp (13 : Nat)), none⟩]
def curve_Raw_a1 : List (List Nat) := [[], [0], [1], [2], [], [3, 4, 0, 1, 2, 3, 4]]
def curve_Raw_r2 : List SO := [⟨(some 14), .move (.tmp (6 : Nat)), none⟩,
  ⟨(some 15), .move (.tmp (5 : Nat)), none⟩,
  ⟨(some 16), .binOp .sub 3 (.tmp (14 : Nat)) (.tmp (15 : Nat)) 3, none⟩,
  ⟨(some 17), .binOp .gtr 3 (.tmp (16 : Nat)) (.const (.int .i64 1)) 3, none⟩]
def curve_Raw_r3 : List SO := [⟨(some 18), .move (.tmp (5 : Nat)), none⟩,
  ⟨(some 19), .move (.tmp (6 : Nat)), none⟩,
  ⟨(some 20), .binOp .add 3 (.tmp (18 : Nat)) (.tmp (19 : Nat)) 3, none⟩,
  ⟨(some 21), .binOp .quo 3 (.tmp (20 : Nat)) (.const (.int .i64 2)) 3, none⟩,
  ⟨(some 7), .assign (.tmp (21 : Nat)), none⟩]
def curve_Raw_r4 : List SO := [⟨(some 22), .fieldAddr 51 (.tmp (2 : Nat)) 0, none⟩,
  ⟨(some 23), .load 49 (.tmp (22 : Nat)), none⟩,
  ⟨(some 24), .move (.tmp (7 : Nat)), none⟩,
  ⟨(some 25), .indexAddr 49 (.tmp (23 : Nat)) (.tmp (24 : Nat)), none⟩,
  ⟨(some 26), .fieldAddr 160 (.tmp (25 : Nat)) 0, none⟩,
  ⟨(some 27), .load 3 (.tmp (26 : Nat)), none⟩,
  ⟨(some 28), .move (.tmp (1 : Nat)), none⟩,
  ⟨(some 29), .binOp .leq 3 (.tmp (27 : Nat)) (.tmp (28 : Nat)) 3, none⟩]
def curve_Raw_r5 : List SO := [⟨(some 30), .move (.tmp (7 : Nat)), none⟩,
  ⟨(some 5), .assign (.tmp (30 : Nat)), none⟩]
def curve_Raw_r6 : List SO := [⟨(some 31), .move (.tmp (7 : Nat)), none⟩,
  ⟨(some 6), .assign (.tmp (31 : Nat)), none⟩]
def curve_Raw_r7 : List SO := [⟨(some 32), .fieldAddr 51 (.tmp (2 : Nat)) 0, none⟩,
  ⟨(some 33), .load 49 (.tmp (32 : Nat)), none⟩,
  ⟨(some 34), .move (.tmp (5 : Nat)), none⟩,
  ⟨(some 35), .indexAddr 49 (.tmp (33 : Nat)) (.tmp (34 : Nat)), none⟩,
  ⟨(some 36), .load 160 (.tmp (35 : Nat)), none⟩,
  ⟨(some 37), .fieldAddr 51 (.tmp (2 : Nat)) 0, none⟩,
  ⟨(some 38), .load 49 (.tmp (37 : Nat)), none⟩,
  ⟨(some 39), .move (.tmp (6 : Nat)), none⟩,
  ⟨(some 40), .indexAddr 49 (.tmp (38 : Nat)) (.tmp (39 : Nat)), none⟩,
  ⟨(some 41), .load 160 (.tmp (40 : Nat)), none⟩,
  ⟨(some 8), .alloc 160, none⟩,
  ⟨(some 9), .alloc 160, none⟩,
  ⟨none, .store 160 (.tmp (8 : Nat)) (.tmp (36 : Nat)), none⟩,
  ⟨none, .store 160 (.tmp (9 : Nat)) (.tmp (41 : Nat)), none⟩]
def curve_Raw_a7 : List (List Nat) := [[], [0], [], [1, 2], [3], [], [5], [], [6, 7], [8], [], [], [10, 4, 0, 1, 2, 3, 4, 10, 11], [11, 9, 12, 0, 1, 2, 3, 4, 5, 6, 7, 8, 9, 10, 11, 12]]
def curve_Raw_r8 : List SO := [⟨(some 42), .fieldAddr 160 (.tmp (8 : Nat)) 1, none⟩,
  ⟨(some 43), .load 3 (.tmp (42 : Nat)), none⟩,
  ⟨(some 44), .fieldAddr 160 (.tmp (9 : Nat)) 1, none⟩,
  ⟨(some 45), .load 3 (.tmp (44 : Nat)), none⟩,
  ⟨(some 46), .fieldAddr 160 (.tmp (8 : Nat)) 1, none⟩,
  ⟨(some 47), .load 3 (.tmp (46 : Nat)), none⟩,
  ⟨(some 48), .binOp .sub 3 (.tmp (45 : Nat)) (.tmp (47 : Nat)) 3, none⟩,
  ⟨(some 49), .move (.tmp (1 : Nat)), none⟩,
  ⟨(some 50), .fieldAddr 160 (.tmp (8 : Nat)) 0, none⟩,
  ⟨(some 51), .load 3 (.tmp (50 : Nat)), none⟩,
  ⟨(some 52), .binOp .sub 3 (.tmp (49 : Nat)) (.tmp (51 : Nat)) 3, none⟩,
  ⟨(some 53), .binOp .mul 3 (.tmp (48 : Nat)) (.tmp (52 : Nat)) 3, none⟩,
  ⟨(some 54), .fieldAddr 160 (.tmp (9 : Nat)) 0, none⟩,
  ⟨(some 55), .load 3 (.tmp (54 : Nat)), none⟩,
  ⟨(some 56), .fieldAddr 160 (.tmp (8 : Nat)) 0, none⟩,
  ⟨(some 57), .load 3 (.tmp (56 : Nat)), none⟩,
  ⟨(some 58), .binOp .sub 3 (.tmp (55 : Nat)) (.tmp (57 : Nat)) 3, none⟩,
  ⟨(some 59), .call ⟨(.value (.func (93 : Nat))), #[(.tmp (53 : Nat)), (.tmp (58 : Nat))], #[3, 3]⟩, none⟩,
  ⟨(some 60), .binOp .add 3 (.tmp (43 : Nat)) (.tmp (59 : Nat)) 3, none⟩,
  ⟨(some 4), .assign (.tmp (60 : Nat)), none⟩]
def curve_Raw_a8 : List (List Nat) := [[], [0], [], [2], [], [4], [3, 5], [], [], [8], [7, 9], [6, 10], [], [12], [], [14], [13, 15], [11, 16], [1, 17], [18, 17, 0, 1, 2, 3, 4, 5, 6, 7, 8, 9, 10, 11, 12, 13, 14, 15, 16, 17, 18]]
def curve_Raw_c : SF := ⟨61, (.seq (.reg curve_Raw_r0)
  (.seq (.regd curve_Raw_r1 curve_Raw_a1)
  (.seq (.block 0 (.loop (.seq (.seq (.reg curve_Raw_r2)
  (.cond (.tmp (17 : Nat)) .skip (.exit 0)))
  (.block 1 (.seq (.reg curve_Raw_r3)
  (.seq (.reg curve_Raw_r4)
  (.cond (.tmp (29 : Nat)) (.reg curve_Raw_r5) (.reg curve_Raw_r6))))))))
  (.seq (.regd curve_Raw_r7 curve_Raw_a7)
  (.seq (.regd curve_Raw_r8 curve_Raw_a8)
  .ret))))), [.tmp 4]⟩
theorem curve_Raw_s : slimF Try.prog 67 = some curve_Raw_c := by kernel_rfl
abbrev curve_Raw_f : Nat := 67
/-- printworks/curve.Nearest -/
def curve_Nearest_r0 : List SO := [⟨(some 4), .assign (.const (.int .i64 0)), none⟩]
def curve_Nearest_r1 : List SO := [⟨(some 6), .move (.tmp (0 : Nat)), none⟩,
  ⟨(some 7), .binOp .mul 3 (.const (.int .i64 2)) (.tmp (6 : Nat)) 3, none⟩,
  ⟨(some 8), .move (.tmp (1 : Nat)), none⟩,
  ⟨(some 9), .binOp .add 3 (.tmp (7 : Nat)) (.tmp (8 : Nat)) 3, none⟩,
  ⟨(some 10), .move (.tmp (1 : Nat)), none⟩,
  ⟨(some 11), .binOp .mul 3 (.const (.int .i64 2)) (.tmp (10 : Nat)) 3, none⟩,
  ⟨(some 0), .assign (.tmp (9 : Nat)), none⟩,
  ⟨(some 1), .assign (.tmp (11 : Nat)), none⟩]
def curve_Nearest_r2 : List SO := [⟨(some 12), .move (.tmp (0 : Nat)), none⟩,
  ⟨(some 13), .move (.tmp (1 : Nat)), none⟩,
  ⟨(some 14), .binOp .quo 3 (.tmp (12 : Nat)) (.tmp (13 : Nat)) 3, none⟩,
  ⟨(some 5), .assign (.tmp (14 : Nat)), none⟩]
def curve_Nearest_r3 : List SO := [⟨(some 15), .move (.tmp (0 : Nat)), none⟩,
  ⟨(some 16), .move (.tmp (1 : Nat)), none⟩,
  ⟨(some 17), .binOp .rem 3 (.tmp (15 : Nat)) (.tmp (16 : Nat)) 3, none⟩,
  ⟨(some 18), .binOp .lss 3 (.tmp (17 : Nat)) (.const (.int .i64 0)) 3, none⟩]
def curve_Nearest_r4 : List SO := [⟨(some 19), .move (.tmp (5 : Nat)), none⟩,
  ⟨(some 20), .binOp .sub 3 (.tmp (19 : Nat)) (.const (.int .i64 1)) 3, none⟩,
  ⟨(some 5), .assign (.tmp (20 : Nat)), none⟩]
def curve_Nearest_r5 : List SO := [⟨(some 21), .move (.tmp (5 : Nat)), none⟩,
  ⟨(some 4), .assign (.tmp (21 : Nat)), none⟩]
def curve_Nearest_c : SF := ⟨22, (.seq (.reg curve_Nearest_r0)
  (.seq (.reg curve_Nearest_r1)
  (.seq (.reg curve_Nearest_r2)
  (.seq (.seq (.reg curve_Nearest_r3)
  (.cond (.tmp (18 : Nat)) (.reg curve_Nearest_r4) .skip))
  (.seq (.reg curve_Nearest_r5)
  .ret))))), [.tmp 4]⟩
theorem curve_Nearest_s : slimF Try.prog 93 = some curve_Nearest_c := by kernel_rfl
abbrev curve_Nearest_f : Nat := 93

def tbl_curve : List (Nat × SF) := [(28, curve_At_c), (66, curve_Check_c), (67, curve_Raw_c), (93, curve_Nearest_c)]
theorem tbl_curve_ok : okT Try.prog tbl_curve := ⟨curve_At_s, curve_Check_s, curve_Raw_s, curve_Nearest_s, trivial⟩

end Go.Proofs.Ythnfbdihihhoiaa
namespace Go.Proofs.Ythnfbdihihhoiaa
open Go Go.Lite
set_option linter.unusedVariables false

/-- printworks/printworkskeep2.ScreenCommonShifts -/
def K2_ScreenCommonShifts_r0 : List SO := [⟨(some 4), .box 84 (.tmp (0 : Nat)), none⟩,
  ⟨(some 5), .box 84 (.tmp (1 : Nat)), none⟩,
  ⟨(some 8), .assign (.const (.bool false)), none⟩]
def K2_ScreenCommonShifts_r1 : List SO := [⟨(some 21), .call ⟨(.value (.func (43 : Nat))), #[], #[]⟩, none⟩,
  ⟨(some 22), .unOp .not 4 (.tmp (21 : Nat)), none⟩]
def K2_ScreenCommonShifts_r2 : List SO := [⟨(some 8), .assign (.const (.bool false)), none⟩]
def K2_ScreenCommonShifts_r3 : List SO := [⟨(some 24), .load 84 (.tmp (4 : Nat)), none⟩,
  ⟨(some 25), .load 84 (.tmp (5 : Nat)), none⟩,
  ⟨(some 26), .call ⟨(.value (.func (46 : Nat))), #[(.tmp (24 : Nat)), (.tmp (25 : Nat))], #[84, 84]⟩, none⟩,
  ⟨(some 23), .move (.tmp (26 : Nat)), none⟩,
  ⟨(some 27), .extract (.tmp (23 : Nat)) 0, none⟩,
  ⟨(some 28), .extract (.tmp (23 : Nat)) 1, none⟩,
  ⟨(some 9), .alloc 91, none⟩,
  ⟨none, .store 91 (.tmp (9 : Nat)) (.tmp (27 : Nat)), none⟩,
  ⟨(some 10), .assign (.tmp (28 : Nat)), none⟩]
def K2_ScreenCommonShifts_r4 : List SO := [⟨(some 29), .move (.tmp (10 : Nat)), none⟩,
  ⟨(some 30), .binOp .neq 26 (.tmp (29 : Nat)) (.const (.int .i64 0)) 26, none⟩]
def K2_ScreenCommonShifts_r5 : List SO := [⟨(some 31), .load 91 (.tmp (9 : Nat)), none⟩,
  ⟨(some 32), .build 91 #[], none⟩,
  ⟨(some 33), .binOp .eql 91 (.tmp (31 : Nat)) (.tmp (32 : Nat)) 91, none⟩,
  ⟨(some 8), .assign (.tmp (33 : Nat)), none⟩]
def K2_ScreenCommonShifts_r6 : List SO := [⟨(some 34), .move (.tmp (2 : Nat)), none⟩,
  ⟨(some 35), .call ⟨(.value (.func (17 : Nat))), #[(.tmp (34 : Nat)), (.const (.int .i64 1000))], #[3, 3]⟩, none⟩,
  ⟨(some 36), .move (.tmp (3 : Nat)), none⟩,
  ⟨(some 37), .call ⟨(.value (.func (17 : Nat))), #[(.tmp (36 : Nat)), (.const (.int .i64 1000))], #[3, 3]⟩, none⟩,
  ⟨(some 2), .assign (.tmp (35 : Nat)), none⟩,
  ⟨(some 3), .assign (.tmp (37 : Nat)), none⟩]
def K2_ScreenCommonShifts_r7 : List SO := [⟨(some 38), .load 84 (.tmp (4 : Nat)), none⟩,
  ⟨(some 39), .load 84 (.tmp (5 : Nat)), none⟩,
  ⟨(some 40), .build 94 #[(0, (.tmp (38 : Nat))), (1, (.tmp (39 : Nat)))], none⟩,
  ⟨(some 41), .move (.const (.int .i64 0)), none⟩]
def K2_ScreenCommonShifts_r8 : List SO := [⟨(some 42), .binOp .lss 3 (.tmp (41 : Nat)) (.const (.int .i64 2)) 3, none⟩]
def K2_ScreenCommonShifts_r9 : List SO := [⟨(some 43), .index 94 (.tmp (40 : Nat)) (.tmp (41 : Nat)), none⟩,
  ⟨(some 12), .alloc 84, none⟩,
  ⟨none, .store 84 (.tmp (12 : Nat)) (.tmp (43 : Nat)), none⟩]
def K2_ScreenCommonShifts_r10 : List SO := [⟨(some 45), .load 84 (.tmp (12 : Nat)), none⟩,
  ⟨(some 46), .move (.tmp (2 : Nat)), none⟩,
  ⟨(some 47), .move (.tmp (3 : Nat)), none⟩,
  ⟨(some 48), .call ⟨(.value (.func (45 : Nat))), #[(.tmp (45 : Nat)), (.tmp (46 : Nat)), (.tmp (47 : Nat))], #[84, 3, 3]⟩, none⟩,
  ⟨(some 44), .move (.tmp (48 : Nat)), none⟩,
  ⟨(some 49), .extract (.tmp (44 : Nat)) 0, none⟩,
  ⟨(some 50), .extract (.tmp (44 : Nat)) 1, none⟩,
  ⟨(some 13), .assign (.tmp (49 : Nat)), none⟩,
  ⟨(some 14), .assign (.tmp (50 : Nat)), none⟩]
def K2_ScreenCommonShifts_r11 : List SO := [⟨(some 52), .load 84 (.tmp (12 : Nat)), none⟩,
  ⟨(some 53), .move (.tmp (2 : Nat)), none⟩,
  ⟨(some 54), .fieldAddr 91 (.tmp (9 : Nat)) 0, none⟩,
  ⟨(some 55), .load 3 (.tmp (54 : Nat)), none⟩,
  ⟨(some 56), .binOp .add 3 (.tmp (53 : Nat)) (.tmp (55 : Nat)) 3, none⟩,
  ⟨(some 57), .move (.tmp (3 : Nat)), none⟩,
  ⟨(some 58), .call ⟨(.value (.func (45 : Nat))), #[(.tmp (52 : Nat)), (.tmp (56 : Nat)), (.tmp (57 : Nat))], #[84, 3, 3]⟩, none⟩,
  ⟨(some 51), .move (.tmp (58 : Nat)), none⟩,
  ⟨(some 59), .extract (.tmp (51 : Nat)) 0, none⟩,
  ⟨(some 60), .extract (.tmp (51 : Nat)) 1, none⟩,
  ⟨(some 15), .assign (.tmp (59 : Nat)), none⟩,
  ⟨(some 16), .assign (.tmp (60 : Nat)), none⟩]
def K2_ScreenCommonShifts_r12 : List SO := [⟨(some 62), .load 84 (.tmp (12 : Nat)), none⟩,
  ⟨(some 63), .move (.tmp (2 : Nat)), none⟩,
  ⟨(some 64), .fieldAddr 91 (.tmp (9 : Nat)) 1, none⟩,
  ⟨(some 65), .load 3 (.tmp (64 : Nat)), none⟩,
  ⟨(some 66), .binOp .add 3 (.tmp (63 : Nat)) (.tmp (65 : Nat)) 3, none⟩,
  ⟨(some 67), .move (.tmp (3 : Nat)), none⟩,
  ⟨(some 68), .fieldAddr 91 (.tmp (9 : Nat)) 2, none⟩,
  ⟨(some 69), .load 3 (.tmp (68 : Nat)), none⟩,
  ⟨(some 70), .binOp .add 3 (.tmp (67 : Nat)) (.tmp (69 : Nat)) 3, none⟩,
  ⟨(some 71), .call ⟨(.value (.func (45 : Nat))), #[(.tmp (62 : Nat)), (.tmp (66 : Nat)), (.tmp (70 : Nat))], #[84, 3, 3]⟩, none⟩,
  ⟨(some 61), .move (.tmp (71 : Nat)), none⟩,
  ⟨(some 72), .extract (.tmp (61 : Nat)) 0, none⟩,
  ⟨(some 73), .extract (.tmp (61 : Nat)) 1, none⟩,
  ⟨(some 17), .assign (.tmp (72 : Nat)), none⟩,
  ⟨(some 18), .assign (.tmp (73 : Nat)), none⟩]
def K2_ScreenCommonShifts_r13 : List SO := [⟨(some 74), .move (.tmp (14 : Nat)), none⟩,
  ⟨(some 75), .binOp .neq 26 (.tmp (74 : Nat)) (.const (.int .i64 0)) 26, none⟩,
  ⟨(some 76), .move (.tmp (75 : Nat)), none⟩,
  ⟨(some 77), .move (.tmp (16 : Nat)), (some (76, false))⟩,
  ⟨(some 78), .binOp .neq 26 (.tmp (77 : Nat)) (.const (.int .i64 0)) 26, (some (76, false))⟩,
  ⟨(some 79), .pick (.tmp (76 : Nat)) (.const (.bool true)) (.tmp (78 : Nat)), none⟩,
  ⟨(some 80), .move (.tmp (79 : Nat)), none⟩,
  ⟨(some 81), .move (.tmp (18 : Nat)), (some (80, false))⟩,
  ⟨(some 82), .binOp .neq 26 (.tmp (81 : Nat)) (.const (.int .i64 0)) 26, (some (80, false))⟩,
  ⟨(some 83), .pick (.tmp (80 : Nat)) (.const (.bool true)) (.tmp (82 : Nat)), none⟩,
  ⟨(some 84), .move (.tmp (83 : Nat)), none⟩,
  ⟨(some 85), .move (.tmp (13 : Nat)), (some (84, false))⟩,
  ⟨(some 86), .move (.tmp (15 : Nat)), (some (84, false))⟩,
  ⟨(some 87), .binOp .neq 3 (.tmp (85 : Nat)) (.tmp (86 : Nat)) 3, (some (84, false))⟩,
  ⟨(some 88), .pick (.tmp (84 : Nat)) (.const (.bool true)) (.tmp (87 : Nat)), none⟩,
  ⟨(some 89), .move (.tmp (88 : Nat)), none⟩,
  ⟨(some 90), .move (.tmp (13 : Nat)), (some (89, false))⟩,
  ⟨(some 91), .move (.tmp (17 : Nat)), (some (89, false))⟩,
  ⟨(some 92), .binOp .neq 3 (.tmp (90 : Nat)) (.tmp (91 : Nat)) 3, (some (89, false))⟩,
  ⟨(some 93), .pick (.tmp (89 : Nat)) (.const (.bool true)) (.tmp (92 : Nat)), none⟩]
def K2_ScreenCommonShifts_r14 : List SO := [⟨(some 8), .assign (.const (.bool false)), none⟩]
def K2_ScreenCommonShifts_r15 : List SO := [⟨(some 94), .binOp .add 3 (.tmp (41 : Nat)) (.const (.int .i64 1)) 3, none⟩,
  ⟨(some 41), .move (.tmp (94 : Nat)), none⟩]
def K2_ScreenCommonShifts_r16 : List SO := [⟨(some 95), .fieldAddr 84 (.tmp (4 : Nat)) 0, none⟩,
  ⟨(some 96), .load 3 (.tmp (95 : Nat)), none⟩,
  ⟨(some 97), .fieldAddr 84 (.tmp (4 : Nat)) 0, none⟩,
  ⟨(some 98), .load 3 (.tmp (97 : Nat)), none⟩,
  ⟨(some 99), .binOp .mul 3 (.tmp (96 : Nat)) (.tmp (98 : Nat)) 3, none⟩,
  ⟨(some 100), .fieldAddr 84 (.tmp (4 : Nat)) 1, none⟩,
  ⟨(some 101), .load 3 (.tmp (100 : Nat)), none⟩,
  ⟨(some 102), .fieldAddr 84 (.tmp (4 : Nat)) 1, none⟩,
  ⟨(some 103), .load 3 (.tmp (102 : Nat)), none⟩,
  ⟨(some 104), .binOp .mul 3 (.tmp (101 : Nat)) (.tmp (103 : Nat)) 3, none⟩,
  ⟨(some 105), .binOp .add 3 (.tmp (99 : Nat)) (.tmp (104 : Nat)) 3, none⟩,
  ⟨(some 106), .fieldAddr 84 (.tmp (5 : Nat)) 0, none⟩,
  ⟨(some 107), .load 3 (.tmp (106 : Nat)), none⟩,
  ⟨(some 108), .fieldAddr 84 (.tmp (5 : Nat)) 0, none⟩,
  ⟨(some 109), .load 3 (.tmp (108 : Nat)), none⟩,
  ⟨(some 110), .binOp .mul 3 (.tmp (107 : Nat)) (.tmp (109 : Nat)) 3, none⟩,
  ⟨(some 111), .fieldAddr 84 (.tmp (5 : Nat)) 1, none⟩,
  ⟨(some 112), .load 3 (.tmp (111 : Nat)), none⟩,
  ⟨(some 113), .fieldAddr 84 (.tmp (5 : Nat)) 1, none⟩,
  ⟨(some 114), .load 3 (.tmp (113 : Nat)), none⟩,
  ⟨(some 115), .binOp .mul 3 (.tmp (112 : Nat)) (.tmp (114 : Nat)) 3, none⟩,
  ⟨(some 116), .binOp .add 3 (.tmp (110 : Nat)) (.tmp (115 : Nat)) 3, none⟩,
  ⟨(some 19), .assign (.tmp (105 : Nat)), none⟩,
  ⟨(some 20), .assign (.tmp (116 : Nat)), none⟩]
def K2_ScreenCommonShifts_a16 : List (List Nat) := [[], [0], [], [2], [1, 3], [], [5], [], [7], [6, 8], [4, 9], [], [11], [], [13], [12, 14], [], [16], [], [18], [17, 19], [15, 20], [10, 0, 1, 2, 3, 4, 5, 6, 7, 8, 9, 10], [21, 22, 0, 1, 2, 3, 4, 5, 6, 7, 8, 9, 10, 11, 12, 13, 14, 15, 16, 17, 18, 19, 20, 21, 22]]
def K2_ScreenCommonShifts_r17 : List SO := [⟨(some 117), .fieldAddr 91 (.tmp (9 : Nat)) 0, none⟩,
  ⟨(some 118), .load 3 (.tmp (117 : Nat)), none⟩,
  ⟨(some 119), .binOp .gtr 3 (.tmp (118 : Nat)) (.const (.int .i64 0)) 3, none⟩,
  ⟨(some 120), .move (.tmp (119 : Nat)), none⟩,
  ⟨(some 121), .fieldAddr 91 (.tmp (9 : Nat)) 2, (some (120, true))⟩,
  ⟨(some 122), .load 3 (.tmp (121 : Nat)), (some (120, true))⟩,
  ⟨(some 123), .binOp .gtr 3 (.tmp (122 : Nat)) (.const (.int .i64 0)) 3, (some (120, true))⟩,
  ⟨(some 124), .pick (.tmp (120 : Nat)) (.tmp (123 : Nat)) (.const (.bool false)), none⟩,
  ⟨(some 125), .move (.tmp (124 : Nat)), none⟩,
  ⟨(some 126), .fieldAddr 91 (.tmp (9 : Nat)) 1, (some (125, true))⟩,
  ⟨(some 127), .load 3 (.tmp (126 : Nat)), (some (125, true))⟩,
  ⟨(some 128), .binOp .geq 3 (.tmp (127 : Nat)) (.const (.int .i64 0)) 3, (some (125, true))⟩,
  ⟨(some 129), .pick (.tmp (125 : Nat)) (.tmp (128 : Nat)) (.const (.bool false)), none⟩,
  ⟨(some 130), .move (.tmp (129 : Nat)), none⟩,
  ⟨(some 131), .fieldAddr 91 (.tmp (9 : Nat)) 1, (some (130, true))⟩,
  ⟨(some 132), .load 3 (.tmp (131 : Nat)), (some (130, true))⟩,
  ⟨(some 133), .fieldAddr 91 (.tmp (9 : Nat)) 0, (some (130, true))⟩,
  ⟨(some 134), .load 3 (.tmp (133 : Nat)), (some (130, true))⟩,
  ⟨(some 135), .binOp .lss 3 (.tmp (132 : Nat)) (.tmp (134 : Nat)) 3, (some (130, true))⟩,
  ⟨(some 136), .pick (.tmp (130 : Nat)) (.tmp (135 : Nat)) (.const (.bool false)), none⟩,
  ⟨(some 137), .move (.tmp (136 : Nat)), none⟩,
  ⟨(some 138), .move (.tmp (19 : Nat)), (some (137, true))⟩,
  ⟨(some 139), .move (.tmp (20 : Nat)), (some (137, true))⟩,
  ⟨(some 140), .call ⟨(.value (.func (47 : Nat))), #[(.tmp (138 : Nat)), (.tmp (139 : Nat))], #[3, 3]⟩, (some (137, true))⟩,
  ⟨(some 141), .binOp .gtr 3 (.tmp (140 : Nat)) (.const (.int .i64 1)) 3, (some (137, true))⟩,
  ⟨(some 142), .move (.tmp (141 : Nat)), (some (137, true))⟩,
  ⟨(some 143), .fieldAddr 91 (.tmp (9 : Nat)) 0, (some (142, false))⟩,
  ⟨(some 144), .load 3 (.tmp (143 : Nat)), (some (142, false))⟩,
  ⟨(some 145), .fieldAddr 91 (.tmp (9 : Nat)) 2, (some (142, false))⟩,
  ⟨(some 146), .load 3 (.tmp (145 : Nat)), (some (142, false))⟩,
  ⟨(some 147), .binOp .mul 3 (.tmp (144 : Nat)) (.tmp (146 : Nat)) 3, (some (142, false))⟩,
  ⟨(some 148), .move (.tmp (19 : Nat)), (some (142, false))⟩,
  ⟨(some 149), .move (.tmp (20 : Nat)), (some (142, false))⟩,
  ⟨(some 150), .binOp .mul 3 (.tmp (148 : Nat)) (.tmp (149 : Nat)) 3, (some (142, false))⟩,
  ⟨(some 151), .binOp .eql 3 (.tmp (147 : Nat)) (.tmp (150 : Nat)) 3, (some (142, false))⟩,
  ⟨(some 152), .pick (.tmp (142 : Nat)) (.const (.bool true)) (.tmp (151 : Nat)), (some (137, true))⟩,
  ⟨(some 153), .pick (.tmp (137 : Nat)) (.tmp (152 : Nat)) (.const (.bool false)), none⟩,
  ⟨(some 8), .assign (.tmp (153 : Nat)), none⟩]
def K2_ScreenCommonShifts_c : SF := ⟨154, (.seq (.reg K2_ScreenCommonShifts_r0)
  (.seq (.seq (.reg K2_ScreenCommonShifts_r1)
  (.cond (.tmp (22 : Nat)) (.seq (.reg K2_ScreenCommonShifts_r2)
  .ret) .skip))
  (.seq (.reg K2_ScreenCommonShifts_r3)
  (.seq (.seq (.reg K2_ScreenCommonShifts_r4)
  (.cond (.tmp (30 : Nat)) (.seq (.reg K2_ScreenCommonShifts_r5)
  .ret) .skip))
  (.seq (.reg K2_ScreenCommonShifts_r6)
  (.seq (.seq (.reg K2_ScreenCommonShifts_r7)
  (.block 0 (.loop (.seq (.reg K2_ScreenCommonShifts_r8)
  (.seq (.cond (.tmp (42 : Nat)) .skip (.exit 0))
  (.seq (.block 1 (.seq (.reg K2_ScreenCommonShifts_r9)
  (.seq (.reg K2_ScreenCommonShifts_r10)
  (.seq (.reg K2_ScreenCommonShifts_r11)
  (.seq (.reg K2_ScreenCommonShifts_r12)
  (.seq (.reg K2_ScreenCommonShifts_r13)
  (.cond (.tmp (93 : Nat)) (.seq (.reg K2_ScreenCommonShifts_r14)
  .ret) .skip)))))))
  (.reg K2_ScreenCommonShifts_r15)))))))
  (.seq (.regd K2_ScreenCommonShifts_r16 K2_ScreenCommonShifts_a16)
  (.seq (.reg K2_ScreenCommonShifts_r17)
  .ret)))))))), [.tmp 8]⟩
theorem K2_ScreenCommonShifts_s : slimF Try.prog 14 = some K2_ScreenCommonShifts_c := by kernel_rfl
abbrev K2_ScreenCommonShifts_f : Nat := 14

def tbl_ScreenCommonShifts : List (Nat × SF) := [(14, K2_ScreenCommonShifts_c)]
theorem tbl_ScreenCommonShifts_ok : okT Try.prog tbl_ScreenCommonShifts := ⟨K2_ScreenCommonShifts_s, trivial⟩

end Go.Proofs.Ythnfbdihihhoiaa
