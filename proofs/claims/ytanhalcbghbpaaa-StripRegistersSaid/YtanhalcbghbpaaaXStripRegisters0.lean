/- Printed by program: the functions' code in few words; the kernel checks it against the translation. -/
import Derived.Test.YtanhalcbghbpaaaRows
import Derived.Test.YtanhalcbghbpaaaLiteTP
namespace Go.Proofs.Ytanhalcbghbpaaa
open Go Go.Lite
set_option linter.unusedVariables false

/-- Int -/
abbrev Ei : Nat := 1
/-- Int -/
abbrev Ey : Nat := 2
/-- Int × Int × List (Int) -/
abbrev E2iLyJ : Nat := 3
/-- Int × Int -/
abbrev E2i : Nat := 4
/-- Int × Int × Int -/
abbrev E3i : Nat := 5
@[reducible] def A (e : Nat) : Type := match e with
  | 0 => Bool
  | 1 => Int
  | 2 => Int
  | 3 => Int × Int × List (Int)
  | 4 => Int × Int
  | 5 => Int × Int × Int
  | 6 => Int × Int × Int × Int × Int
  | 7 => Int × Int × Int × Int
  | 8 => Int × Int × Int × Int × Int × Int
  | _ => Unit
def eSz (e : Nat) : Nat := match e with
  | 0 => 1
  | 1 => 1
  | 2 => 1
  | 3 => 3
  | 4 => 2
  | 5 => 3
  | 6 => 5
  | 7 => 4
  | 8 => 6
  | _ => 1
def eD (e : Nat) : A e := match e with
  | 0 => false
  | 1 => (0 : Int)
  | 2 => (0 : Int)
  | 3 => ((0 : Int), (0 : Int), ([] : List (Int)))
  | 4 => ((0 : Int), (0 : Int))
  | 5 => ((0 : Int), (0 : Int), (0 : Int))
  | 6 => ((0 : Int), (0 : Int), (0 : Int), (0 : Int), (0 : Int))
  | 7 => ((0 : Int), (0 : Int), (0 : Int), (0 : Int))
  | 8 => ((0 : Int), (0 : Int), (0 : Int), (0 : Int), (0 : Int), (0 : Int))
  | _ + 9 => ()
def encL0 (x : Bool) : List LV := [.bool (x)]
def enc0 (x : Bool) : List (TV A) := [.bool (x)]
def dec0 (cs : List (TV A)) : Option (Bool) := match cs with
  | [.bool x0] => some x0
  | _ => none
def encL1 (x : Int) : List LV := [.int .i64 (x)]
def enc1 (x : Int) : List (TV A) := [.int .i64 (x)]
def dec1 (cs : List (TV A)) : Option (Int) := match cs with
  | [.int .i64 x0] => some x0
  | _ => none
def encL2 (x : Int) : List LV := [.int .u8 (x)]
def enc2 (x : Int) : List (TV A) := [.int .u8 (x)]
def dec2 (cs : List (TV A)) : Option (Int) := match cs with
  | [.int .u8 x0] => some x0
  | _ => none
def encL3 (x : Int × Int × List (Int)) : List LV := [.int .i64 (x.1), .int .i64 (x.2.1), .ps 1 (List.length (x.2.2)) (List.flatMap encL2 (x.2.2))]
def enc3 (x : Int × Int × List (Int)) : List (TV A) := [.int .i64 (x.1), .int .i64 (x.2.1), .lst 2 (x.2.2)]
def dec3 (cs : List (TV A)) : Option (Int × Int × List (Int)) := match cs with
  | [.int .i64 x0, .int .i64 x1, .lst 2 x2] => some (x0, x1, x2)
  | _ => none
def encL4 (x : Int × Int) : List LV := [.int .i64 (x.1), .int .i64 (x.2)]
def enc4 (x : Int × Int) : List (TV A) := [.int .i64 (x.1), .int .i64 (x.2)]
def dec4 (cs : List (TV A)) : Option (Int × Int) := match cs with
  | [.int .i64 x0, .int .i64 x1] => some (x0, x1)
  | _ => none
def encL5 (x : Int × Int × Int) : List LV := [.int .i64 (x.1), .int .i64 (x.2.1), .int .i64 (x.2.2)]
def enc5 (x : Int × Int × Int) : List (TV A) := [.int .i64 (x.1), .int .i64 (x.2.1), .int .i64 (x.2.2)]
def dec5 (cs : List (TV A)) : Option (Int × Int × Int) := match cs with
  | [.int .i64 x0, .int .i64 x1, .int .i64 x2] => some (x0, x1, x2)
  | _ => none
def encL6 (x : Int × Int × Int × Int × Int) : List LV := [.int .i64 (x.1), .int .i64 (x.2.1), .int .i64 (x.2.2.1), .int .i64 (x.2.2.2.1), .int .i64 (x.2.2.2.2)]
def enc6 (x : Int × Int × Int × Int × Int) : List (TV A) := [.int .i64 (x.1), .int .i64 (x.2.1), .int .i64 (x.2.2.1), .int .i64 (x.2.2.2.1), .int .i64 (x.2.2.2.2)]
def dec6 (cs : List (TV A)) : Option (Int × Int × Int × Int × Int) := match cs with
  | [.int .i64 x0, .int .i64 x1, .int .i64 x2, .int .i64 x3, .int .i64 x4] => some (x0, x1, x2, x3, x4)
  | _ => none
def encL7 (x : Int × Int × Int × Int) : List LV := [.int .i64 (x.1), .int .i64 (x.2.1), .int .i64 (x.2.2.1), .int .i64 (x.2.2.2)]
def enc7 (x : Int × Int × Int × Int) : List (TV A) := [.int .i64 (x.1), .int .i64 (x.2.1), .int .i64 (x.2.2.1), .int .i64 (x.2.2.2)]
def dec7 (cs : List (TV A)) : Option (Int × Int × Int × Int) := match cs with
  | [.int .i64 x0, .int .i64 x1, .int .i64 x2, .int .i64 x3] => some (x0, x1, x2, x3)
  | _ => none
def encL8 (x : Int × Int × Int × Int × Int × Int) : List LV := [.int .i64 (x.1), .int .i64 (x.2.1), .int .i64 (x.2.2.1), .int .i64 (x.2.2.2.1), .int .i64 (x.2.2.2.2.1), .int .i64 (x.2.2.2.2.2)]
def enc8 (x : Int × Int × Int × Int × Int × Int) : List (TV A) := [.int .i64 (x.1), .int .i64 (x.2.1), .int .i64 (x.2.2.1), .int .i64 (x.2.2.2.1), .int .i64 (x.2.2.2.2.1), .int .i64 (x.2.2.2.2.2)]
def dec8 (cs : List (TV A)) : Option (Int × Int × Int × Int × Int × Int) := match cs with
  | [.int .i64 x0, .int .i64 x1, .int .i64 x2, .int .i64 x3, .int .i64 x4, .int .i64 x5] => some (x0, x1, x2, x3, x4, x5)
  | _ => none
def eEncL (e : Nat) (a : A e) : List LV := match e, a with
  | 0, a => encL0 a
  | 1, a => encL1 a
  | 2, a => encL2 a
  | 3, a => encL3 a
  | 4, a => encL4 a
  | 5, a => encL5 a
  | 6, a => encL6 a
  | 7, a => encL7 a
  | 8, a => encL8 a
  | _ + 9, _ => [.nilp]
def eEnc (e : Nat) (a : A e) : List (TV A) := match e, a with
  | 0, a => enc0 a
  | 1, a => enc1 a
  | 2, a => enc2 a
  | 3, a => enc3 a
  | 4, a => enc4 a
  | 5, a => enc5 a
  | 6, a => enc6 a
  | 7, a => enc7 a
  | 8, a => enc8 a
  | _ + 9, _ => [.nilp]
def eDec (e : Nat) (cs : List (TV A)) : Option (A e) := match e with
  | 0 => dec0 cs
  | 1 => dec1 cs
  | 2 => dec2 cs
  | 3 => dec3 cs
  | 4 => dec4 cs
  | 5 => dec5 cs
  | 6 => dec6 cs
  | 7 => dec7 cs
  | 8 => dec8 cs
  | _ + 9 => none
def eEl (t : Nat) : Option Nat := match t with
  | 25 => some 0
  | 22 => some 1
  | 38 => some 3
  | 35 => some 4
  | 60 => some 5
  | 26 => some 2
  | 74 => some 6
  | 77 => some 3
  | 82 => some 7
  | 106 => some 8
  | _ => none
def fl (e : Nat) : Bool := match e with
  | 0 => true
  | 1 => true
  | 2 => true
  | 3 => false
  | 4 => true
  | 5 => true
  | 6 => true
  | 7 => true
  | 8 => true
  | _ => false
def eByt (e : Nat) : Option (List (A e) → List Int) := match e with
  | 2 => some fun xs => xs
  | _ => none
theorem flat1 : ∀ xs : List Int, xs.flatMap (fun x => [LV.int .u8 x]) = xs.map (LV.int .u8)
  | [] => rfl
  | x :: r => congrArg (LV.int .u8 x :: ·) (flat1 r)
def R : Reg A := ⟨eSz, eD, eEncL, eEnc, eDec, eEl, eByt⟩
theorem R_ok : R.Ok where
  pos e := by show 0 < eSz e; unfold eSz; split <;> decide
  len e a := match e, a with
    | 0, a => rfl
    | 1, a => rfl
    | 2, a => rfl
    | 3, a => rfl
    | 4, a => rfl
    | 5, a => rfl
    | 6, a => rfl
    | 7, a => rfl
    | 8, a => rfl
    | e + 9, a => rfl
  ok e a := match e, a with
    | 0, a => rfl
    | 1, a => rfl
    | 2, a => rfl
    | 3, a => rfl
    | 4, a => rfl
    | 5, a => rfl
    | 6, a => rfl
    | 7, a => rfl
    | 8, a => rfl
    | e + 9, a => rfl
  dec e cs a h := match e, a, h with
    | 0, a, h => by
      replace h : dec0 cs = some a := h
      unfold dec0 at h
      split at h
      · cases h; rfl
      · cases h
    | 1, a, h => by
      replace h : dec1 cs = some a := h
      unfold dec1 at h
      split at h
      · cases h; rfl
      · cases h
    | 2, a, h => by
      replace h : dec2 cs = some a := h
      unfold dec2 at h
      split at h
      · cases h; rfl
      · cases h
    | 3, a, h => by
      replace h : dec3 cs = some a := h
      unfold dec3 at h
      split at h
      · cases h; rfl
      · cases h
    | 4, a, h => by
      replace h : dec4 cs = some a := h
      unfold dec4 at h
      split at h
      · cases h; rfl
      · cases h
    | 5, a, h => by
      replace h : dec5 cs = some a := h
      unfold dec5 at h
      split at h
      · cases h; rfl
      · cases h
    | 6, a, h => by
      replace h : dec6 cs = some a := h
      unfold dec6 at h
      split at h
      · cases h; rfl
      · cases h
    | 7, a, h => by
      replace h : dec7 cs = some a := h
      unfold dec7 at h
      split at h
      · cases h; rfl
      · cases h
    | 8, a, h => by
      replace h : dec8 cs = some a := h
      unfold dec8 at h
      split at h
      · cases h; rfl
      · cases h
    | e + 9, a, h => by cases h
  free e a := match e, a with
    | 0, a => rfl
    | 1, a => rfl
    | 2, a => rfl
    | 3, a => rfl
    | 4, a => rfl
    | 5, a => rfl
    | 6, a => rfl
    | 7, a => rfl
    | 8, a => rfl
    | e + 9, a => rfl
  sol e a := match e, a with
    | 0, a => rfl
    | 1, a => rfl
    | 2, a => rfl
    | 3, a => rfl
    | 4, a => rfl
    | 5, a => rfl
    | 6, a => rfl
    | 7, a => rfl
    | 8, a => rfl
    | e + 9, a => rfl
  byt e f h xs := match e, f, h with
    | 0, f, h => by cases h
    | 1, f, h => by cases h
    | 2, f, h => by cases h; exact flat1 xs
    | 3, f, h => by cases h
    | 4, f, h => by cases h
    | 5, f, h => by cases h
    | 6, f, h => by cases h
    | 7, f, h => by cases h
    | 8, f, h => by cases h
    | e + 9, f, h => by cases h
theorem fl_ok : ∀ e, fl e = true → ∀ a, psfreeL (R.encL e a) = true := fun e h a => match e, h, a with
  | 0, h, a => rfl
  | 1, h, a => rfl
  | 2, h, a => rfl
  | 3, h, a => by cases h
  | 4, h, a => rfl
  | 5, h, a => rfl
  | 6, h, a => rfl
  | 7, h, a => rfl
  | 8, h, a => rfl
  | e + 9, h, a => rfl

def tyL : List (Nat × TI) := [(0, ⟨.other, 1, false, [.dead]⟩),
  (3, ⟨.int .i64, 1, false, [.int .i64 0]⟩),
  (25, ⟨.slice 1 1 [.bool false], 1, false, [.nils]⟩),
  (4, ⟨.bool, 1, false, [.bool false]⟩),
  (22, ⟨.slice 1 8 [.int .i64 0], 1, false, [.nils]⟩),
  (28, ⟨.struct [(0, 1, false), (1, 1, false), (2, 1, false)], 3, true, [.int .i64 0, .int .i64 0, .nils]⟩),
  (31, ⟨.struct [(0, 1, false), (1, 1, false)], 2, true, [.int .i64 0, .int .i64 0]⟩),
  (38, ⟨.slice 3 40 [.int .i64 0, .int .i64 0, .nils], 1, false, [.nils]⟩),
  (32, ⟨.int .i64, 1, false, [.int .i64 0]⟩),
  (35, ⟨.slice 2 16 [.int .i64 0, .int .i64 0], 1, false, [.nils]⟩),
  (47, ⟨.struct [(0, 1, false), (1, 1, false), (2, 1, false)], 3, true, [.int .i64 0, .int .i64 0, .nils]⟩),
  (9, ⟨.str, 1, false, [.str ⟨([] : List UInt8).toArray⟩]⟩),
  (60, ⟨.slice 3 24 [.int .i64 0, .int .i64 0, .int .i64 0], 1, false, [.nils]⟩),
  (66, ⟨.struct [(0, 1, false), (1, 1, false), (2, 1, false)], 3, true, [.int .i64 0, .int .i64 0, .int .i64 0]⟩),
  (26, ⟨.slice 1 1 [.int .u8 0], 1, false, [.nils]⟩),
  (74, ⟨.slice 5 40 [.int .i64 0, .int .i64 0, .int .i64 0, .int .i64 0, .int .i64 0], 1, false, [.nils]⟩),
  (77, ⟨.slice 3 40 [.int .i64 0, .int .i64 0, .nils], 1, false, [.nils]⟩),
  (80, ⟨.struct [(0, 1, false), (1, 1, false), (2, 1, false)], 3, true, [.int .i64 0, .int .i64 0, .nils]⟩),
  (82, ⟨.slice 4 32 [.int .i64 0, .int .i64 0, .int .i64 0, .int .i64 0], 1, false, [.nils]⟩),
  (86, ⟨.struct [(0, 1, false), (1, 1, false), (2, 1, false), (3, 1, false)], 4, true, [.int .i64 0, .int .i64 0, .int .i64 0, .int .i64 0]⟩),
  (94, ⟨.struct [(0, 1, false), (1, 1, false), (2, 1, false), (3, 1, false), (4, 1, false)], 5, true, [.int .i64 0, .int .i64 0, .int .i64 0, .int .i64 0, .int .i64 0]⟩),
  (5, ⟨.int .u8, 1, false, [.int .u8 0]⟩),
  (97, ⟨.other, 1, false, [.nilp]⟩),
  (105, ⟨.other, 1, false, [.nilp]⟩),
  (106, ⟨.slice 6 48 [.int .i64 0, .int .i64 0, .int .i64 0, .int .i64 0, .int .i64 0, .int .i64 0], 1, false, [.nils]⟩),
  (108, ⟨.arr 6 1 false, 6, true, [.int .i64 0, .int .i64 0, .int .i64 0, .int .i64 0, .int .i64 0, .int .i64 0]⟩),
  (118, ⟨.other, 1, false, [.nilf]⟩),
  (123, ⟨.other, 1, false, [.nilf]⟩),
  (126, ⟨.other, 1, false, [.nilf]⟩),
  (127, ⟨.arr 4 1 false, 4, true, [.int .i64 0, .int .i64 0, .int .i64 0, .int .i64 0]⟩),
  (128, ⟨.other, 1, false, [.nilf]⟩)]
theorem tyL_ok : okL (tiOf Try.prog) tyL := ⟨by kernel_rfl, by kernel_rfl, by kernel_rfl, by kernel_rfl, by kernel_rfl, by kernel_rfl, by kernel_rfl, by kernel_rfl, by kernel_rfl, by kernel_rfl, by kernel_rfl, by kernel_rfl, by kernel_rfl, by kernel_rfl, by kernel_rfl, by kernel_rfl, by kernel_rfl, by kernel_rfl, by kernel_rfl, by kernel_rfl, by kernel_rfl, by kernel_rfl, by kernel_rfl, by kernel_rfl, by kernel_rfl, by kernel_rfl, by kernel_rfl, by kernel_rfl, by kernel_rfl, by kernel_rfl, by kernel_rfl, trivial⟩
def eqL : List (Nat × List Nat) := [(31, [0, 0]), (86, [0, 0, 0, 0]), (94, [0, 0, 0, 0, 0]), (66, [0, 0, 0])]
theorem eqL_ok : okL (eqOf Try.prog) eqL := ⟨by kernel_rfl, by kernel_rfl, by kernel_rfl, by kernel_rfl, trivial⟩
def nlL : List (Nat × Nat) := [(32, 0), (31, 0), (3, 0), (9, 0), (86, 0), (94, 0), (4, 0), (66, 0), (5, 0), (26, 3)]
theorem nlL_ok : okN (nilOf Try.prog) nlL := ⟨by kernel_rfl, by kernel_rfl, by kernel_rfl, by kernel_rfl, by kernel_rfl, by kernel_rfl, by kernel_rfl, by kernel_rfl, by kernel_rfl, by kernel_rfl, trivial⟩
noncomputable def ty : TT := ⟨lookT tyL (tiOf Try.prog), lookT eqL (eqOf Try.prog), lookN nlL (nilOf Try.prog)⟩
theorem ty_ok : ty = ttOf Try.prog := by
  unfold ty ttOf
  rw [lookT_eq tyL_ok, lookT_eq eqL_ok, lookN_eq nlL_ok]
def W2i (x : Int × Int) : Prop := rng .i64 x.1 ∧ rng .i64 x.2
theorem rdi : R.d Ei = (0 : Int) := rfl
theorem rdy : R.d Ey = (0 : Int) := rfl
theorem rd2i : R.d E2i = ((0 : Int), (0 : Int)) := rfl
theorem rd3i : R.d E3i = ((0 : Int), (0 : Int), (0 : Int)) := rfl
theorem env : Env A R Try.prog ty fl := ⟨R_ok, ty_ok, fl_ok, by kernel_rfl⟩

end Go.Proofs.Ytanhalcbghbpaaa
namespace Go.Proofs.Ytanhalcbghbpaaa
open Go Go.Lite
set_option linter.unusedVariables false

/-- printworks/bitmap.Turn -/
def bitmap_Turn_r0 : List SO := [⟨(some 2), .box 28 (.tmp (0 : Nat)), none⟩,
  ⟨(some 4), .alloc 28, none⟩,
  ⟨(some 5), .assign (.const (.int .i64 0)), none⟩]
def bitmap_Turn_r1 : List SO := [⟨(some 7), .load 28 (.tmp (2 : Nat)), none⟩,
  ⟨(some 8), .call ⟨(.value (.func (22 : Nat))), #[(.tmp (7 : Nat))], #[28]⟩, none⟩,
  ⟨(some 6), .assign (.tmp (8 : Nat)), none⟩]
def bitmap_Turn_r2 : List SO := [⟨(some 9), .move (.tmp (6 : Nat)), none⟩,
  ⟨(some 10), .binOp .neq 32 (.tmp (9 : Nat)) (.const (.int .i64 0)) 32, none⟩]
def bitmap_Turn_r3 : List SO := [⟨(some 11), .build 28 #[], none⟩,
  ⟨(some 12), .move (.tmp (6 : Nat)), none⟩,
  ⟨none, .store 28 (.tmp (4 : Nat)) (.tmp (11 : Nat)), none⟩,
  ⟨(some 5), .assign (.tmp (12 : Nat)), none⟩]
def bitmap_Turn_r4 : List SO := [⟨(some 13), .move (.tmp (1 : Nat)), none⟩,
  ⟨(some 14), .binOp .lss 3 (.tmp (13 : Nat)) (.const (.int .i64 0)) 3, none⟩,
  ⟨(some 15), .move (.tmp (14 : Nat)), none⟩,
  ⟨(some 16), .move (.tmp (1 : Nat)), (some (15, false))⟩,
  ⟨(some 17), .binOp .gtr 3 (.tmp (16 : Nat)) (.const (.int .i64 7)) 3, (some (15, false))⟩,
  ⟨(some 18), .pick (.tmp (15 : Nat)) (.const (.bool true)) (.tmp (17 : Nat)), none⟩]
def bitmap_Turn_r5 : List SO := [⟨(some 19), .build 28 #[], none⟩,
  ⟨none, .store 28 (.tmp (4 : Nat)) (.tmp (19 : Nat)), none⟩,
  ⟨(some 5), .assign (.const (.int .i64 3)), none⟩]
def bitmap_Turn_r6 : List SO := [⟨(some 20), .move (.tmp (1 : Nat)), none⟩,
  ⟨(some 21), .call ⟨(.value (.func (55 : Nat))), #[(.tmp (2 : Nat)), (.tmp (20 : Nat))], #[97, 3]⟩, none⟩,
  ⟨none, .store 28 (.tmp (4 : Nat)) (.tmp (21 : Nat)), none⟩,
  ⟨(some 5), .assign (.const (.int .i64 0)), none⟩]
def bitmap_Turn_c : SF := ⟨22, (.seq (.reg bitmap_Turn_r0)
  (.seq (.seq (.reg bitmap_Turn_r1)
  (.seq (.reg bitmap_Turn_r2)
  (.cond (.tmp (10 : Nat)) (.seq (.reg bitmap_Turn_r3)
  .ret) .skip)))
  (.seq (.seq (.reg bitmap_Turn_r4)
  (.cond (.tmp (18 : Nat)) (.seq (.reg bitmap_Turn_r5)
  .ret) .skip))
  (.seq (.reg bitmap_Turn_r6)
  .ret)))), [.cell 4 28, .tmp 5]⟩
theorem bitmap_Turn_s : slimF Try.prog 21 = some bitmap_Turn_c := by kernel_rfl
/-- printworks/bitmap.Check -/
def bitmap_Check_r0 : List SO := [⟨(some 1), .box 28 (.tmp (0 : Nat)), none⟩,
  ⟨(some 2), .assign (.const (.int .i64 0)), none⟩]
def bitmap_Check_r1 : List SO := [⟨(some 6), .fieldAddr 28 (.tmp (1 : Nat)) 0, none⟩,
  ⟨(some 7), .load 3 (.tmp (6 : Nat)), none⟩,
  ⟨(some 8), .binOp .lss 3 (.tmp (7 : Nat)) (.const (.int .i64 1)) 3, none⟩,
  ⟨(some 9), .move (.tmp (8 : Nat)), none⟩,
  ⟨(some 10), .fieldAddr 28 (.tmp (1 : Nat)) 0, (some (9, false))⟩,
  ⟨(some 11), .load 3 (.tmp (10 : Nat)), (some (9, false))⟩,
  ⟨(some 12), .binOp .gtr 3 (.tmp (11 : Nat)) (.const (.int .i64 1024)) 3, (some (9, false))⟩,
  ⟨(some 13), .pick (.tmp (9 : Nat)) (.const (.bool true)) (.tmp (12 : Nat)), none⟩,
  ⟨(some 14), .move (.tmp (13 : Nat)), none⟩,
  ⟨(some 15), .fieldAddr 28 (.tmp (1 : Nat)) 1, (some (14, false))⟩,
  ⟨(some 16), .load 3 (.tmp (15 : Nat)), (some (14, false))⟩,
  ⟨(some 17), .binOp .lss 3 (.tmp (16 : Nat)) (.const (.int .i64 1)) 3, (some (14, false))⟩,
  ⟨(some 18), .pick (.tmp (14 : Nat)) (.const (.bool true)) (.tmp (17 : Nat)), none⟩,
  ⟨(some 19), .move (.tmp (18 : Nat)), none⟩,
  ⟨(some 20), .fieldAddr 28 (.tmp (1 : Nat)) 1, (some (19, false))⟩,
  ⟨(some 21), .load 3 (.tmp (20 : Nat)), (some (19, false))⟩,
  ⟨(some 22), .binOp .gtr 3 (.tmp (21 : Nat)) (.const (.int .i64 1024)) 3, (some (19, false))⟩,
  ⟨(some 23), .pick (.tmp (19 : Nat)) (.const (.bool true)) (.tmp (22 : Nat)), none⟩]
def bitmap_Check_r2 : List SO := [⟨(some 2), .assign (.const (.int .i64 3)), none⟩]
def bitmap_Check_r3 : List SO := [⟨(some 24), .fieldAddr 28 (.tmp (1 : Nat)) 0, none⟩,
  ⟨(some 25), .load 3 (.tmp (24 : Nat)), none⟩,
  ⟨(some 26), .call ⟨(.value (.func (56 : Nat))), #[(.tmp (25 : Nat))], #[3]⟩, none⟩,
  ⟨(some 3), .assign (.tmp (26 : Nat)), none⟩]
def bitmap_Check_r4 : List SO := [⟨(some 27), .fieldAddr 28 (.tmp (1 : Nat)) 2, none⟩,
  ⟨(some 28), .load 26 (.tmp (27 : Nat)), none⟩,
  ⟨(some 29), .call ⟨(.builtin .len), #[(.tmp (28 : Nat))], #[26]⟩, none⟩,
  ⟨(some 30), .move (.tmp (3 : Nat)), none⟩,
  ⟨(some 31), .fieldAddr 28 (.tmp (1 : Nat)) 1, none⟩,
  ⟨(some 32), .load 3 (.tmp (31 : Nat)), none⟩,
  ⟨(some 33), .binOp .mul 3 (.tmp (30 : Nat)) (.tmp (32 : Nat)) 3, none⟩,
  ⟨(some 34), .binOp .neq 3 (.tmp (29 : Nat)) (.tmp (33 : Nat)) 3, none⟩]
def bitmap_Check_r5 : List SO := [⟨(some 2), .assign (.const (.int .i64 4)), none⟩]
def bitmap_Check_r6 : List SO := [⟨(some 35), .move (.tmp (3 : Nat)), none⟩,
  ⟨(some 36), .binOp .mul 3 (.const (.int .i64 8)) (.tmp (35 : Nat)) 3, none⟩,
  ⟨(some 37), .fieldAddr 28 (.tmp (1 : Nat)) 0, none⟩,
  ⟨(some 38), .load 3 (.tmp (37 : Nat)), none⟩,
  ⟨(some 39), .binOp .sub 3 (.tmp (36 : Nat)) (.tmp (38 : Nat)) 3, none⟩,
  ⟨(some 40), .binOp .shl 5 (.const (.int .u8 1)) (.tmp (39 : Nat)) 3, none⟩,
  ⟨(some 41), .binOp .sub 5 (.tmp (40 : Nat)) (.const (.int .u8 1)) 5, none⟩,
  ⟨(some 4), .assign (.tmp (41 : Nat)), none⟩]
def bitmap_Check_r7 : List SO := [⟨(some 42), .move (.tmp (4 : Nat)), none⟩,
  ⟨(some 43), .binOp .neq 5 (.tmp (42 : Nat)) (.const (.int .u8 0)) 5, none⟩]
def bitmap_Check_r8 : List SO := [⟨(some 44), .fieldAddr 28 (.tmp (1 : Nat)) 1, none⟩,
  ⟨(some 45), .load 3 (.tmp (44 : Nat)), none⟩,
  ⟨(some 46), .move (.const (.int .i64 0)), none⟩]
def bitmap_Check_r9 : List SO := [⟨(some 47), .binOp .lss 3 (.tmp (46 : Nat)) (.tmp (45 : Nat)) 3, none⟩]
def bitmap_Check_r10 : List SO := [⟨(some 48), .move (.tmp (46 : Nat)), none⟩,
  ⟨(some 5), .assign (.tmp (48 : Nat)), none⟩]
def bitmap_Check_r11 : List SO := [⟨(some 49), .fieldAddr 28 (.tmp (1 : Nat)) 2, none⟩,
  ⟨(some 50), .load 26 (.tmp (49 : Nat)), none⟩,
  ⟨(some 51), .move (.tmp (5 : Nat)), none⟩,
  ⟨(some 52), .move (.tmp (3 : Nat)), none⟩,
  ⟨(some 53), .binOp .mul 3 (.tmp (51 : Nat)) (.tmp (52 : Nat)) 3, none⟩,
  ⟨(some 54), .move (.tmp (3 : Nat)), none⟩,
  ⟨(some 55), .binOp .add 3 (.tmp (53 : Nat)) (.tmp (54 : Nat)) 3, none⟩,
  ⟨(some 56), .binOp .sub 3 (.tmp (55 : Nat)) (.const (.int .i64 1)) 3, none⟩,
  ⟨(some 57), .indexAddr 26 (.tmp (50 : Nat)) (.tmp (56 : Nat)), none⟩,
  ⟨(some 58), .load 5 (.tmp (57 : Nat)), none⟩,
  ⟨(some 59), .move (.tmp (4 : Nat)), none⟩,
  ⟨(some 60), .binOp .and 5 (.tmp (58 : Nat)) (.tmp (59 : Nat)) 5, none⟩,
  ⟨(some 61), .binOp .neq 5 (.tmp (60 : Nat)) (.const (.int .u8 0)) 5, none⟩]
def bitmap_Check_r12 : List SO := [⟨(some 2), .assign (.const (.int .i64 4)), none⟩]
def bitmap_Check_r13 : List SO := [⟨(some 62), .binOp .add 3 (.tmp (46 : Nat)) (.const (.int .i64 1)) 3, none⟩,
  ⟨(some 46), .move (.tmp (62 : Nat)), none⟩]
def bitmap_Check_r14 : List SO := [⟨(some 2), .assign (.const (.int .i64 0)), none⟩]
def bitmap_Check_c : SF := ⟨63, (.seq (.reg bitmap_Check_r0)
  (.seq (.seq (.reg bitmap_Check_r1)
  (.cond (.tmp (23 : Nat)) (.seq (.reg bitmap_Check_r2)
  .ret) .skip))
  (.seq (.reg bitmap_Check_r3)
  (.seq (.seq (.reg bitmap_Check_r4)
  (.cond (.tmp (34 : Nat)) (.seq (.reg bitmap_Check_r5)
  .ret) .skip))
  (.seq (.seq (.reg bitmap_Check_r6)
  (.seq (.reg bitmap_Check_r7)
  (.cond (.tmp (43 : Nat)) (.seq (.reg bitmap_Check_r8)
  (.block 0 (.loop (.seq (.reg bitmap_Check_r9)
  (.seq (.cond (.tmp (47 : Nat)) .skip (.exit 0))
  (.seq (.block 1 (.seq (.reg bitmap_Check_r10)
  (.seq (.reg bitmap_Check_r11)
  (.cond (.tmp (61 : Nat)) (.seq (.reg bitmap_Check_r12)
  .ret) .skip))))
  (.reg bitmap_Check_r13))))))) .skip)))
  (.seq (.reg bitmap_Check_r14)
  .ret)))))), [.tmp 2]⟩
theorem bitmap_Check_s : slimF Try.prog 22 = some bitmap_Check_c := by kernel_rfl
abbrev bitmap_Check_f : Nat := 22
/-- printworks/bitmap.Runs -/
def bitmap_Runs_r0 : List SO := [⟨(some 1), .box 28 (.tmp (0 : Nat)), none⟩,
  ⟨(some 2), .assign (.const (.slice none 0 0)), none⟩,
  ⟨(some 3), .assign (.const (.int .i64 0)), none⟩]
def bitmap_Runs_r1 : List SO := [⟨(some 8), .load 28 (.tmp (1 : Nat)), none⟩,
  ⟨(some 9), .call ⟨(.value (.func (22 : Nat))), #[(.tmp (8 : Nat))], #[28]⟩, none⟩,
  ⟨(some 4), .assign (.tmp (9 : Nat)), none⟩]
def bitmap_Runs_r2 : List SO := [⟨(some 10), .move (.tmp (4 : Nat)), none⟩,
  ⟨(some 11), .binOp .neq 32 (.tmp (10 : Nat)) (.const (.int .i64 0)) 32, none⟩]
def bitmap_Runs_r3 : List SO := [⟨(some 12), .move (.tmp (4 : Nat)), none⟩,
  ⟨(some 2), .assign (.const (.slice none 0 0)), none⟩,
  ⟨(some 3), .assign (.tmp (12 : Nat)), none⟩]
def bitmap_Runs_r4 : List SO := [⟨(some 5), .alloc 60, none⟩]
def bitmap_Runs_r5 : List SO := [⟨(some 13), .fieldAddr 28 (.tmp (1 : Nat)) 1, none⟩,
  ⟨(some 14), .load 3 (.tmp (13 : Nat)), none⟩,
  ⟨(some 15), .move (.const (.int .i64 0)), none⟩]
def bitmap_Runs_r6 : List SO := [⟨(some 16), .binOp .lss 3 (.tmp (15 : Nat)) (.tmp (14 : Nat)) 3, none⟩]
def bitmap_Runs_r7 : List SO := [⟨(some 17), .move (.tmp (15 : Nat)), none⟩,
  ⟨(some 6), .assign (.tmp (17 : Nat)), none⟩]
def bitmap_Runs_r8 : List SO := [⟨(some 18), .move (.tmp (6 : Nat)), none⟩,
  ⟨(some 19), .call ⟨(.value (.func (65 : Nat))), #[(.tmp (1 : Nat)), (.tmp (18 : Nat))], #[97, 3]⟩, none⟩]
def bitmap_Runs_r9 : List SO := [⟨(some 7), .alloc 66, none⟩,
  ⟨none, .store 66 (.tmp (7 : Nat)) (.tmp (20 : Nat)), none⟩]
def bitmap_Runs_r10 : List SO := [⟨(some 21), .load 60 (.tmp (5 : Nat)), none⟩,
  ⟨(some 22), .load 66 (.tmp (7 : Nat)), none⟩,
  ⟨(some 23), .buildSlice 60 1 #[(0, (.tmp (22 : Nat)))], none⟩,
  ⟨(some 24), .call ⟨(.builtin .append), #[(.tmp (21 : Nat)), (.tmp (23 : Nat))], #[60, 60]⟩, none⟩,
  ⟨none, .store 60 (.tmp (5 : Nat)) (.tmp (24 : Nat)), none⟩]
def bitmap_Runs_r11 : List SO := [⟨(some 25), .binOp .add 3 (.tmp (15 : Nat)) (.const (.int .i64 1)) 3, none⟩,
  ⟨(some 15), .move (.tmp (25 : Nat)), none⟩]
def bitmap_Runs_r12 : List SO := [⟨(some 26), .load 60 (.tmp (5 : Nat)), none⟩,
  ⟨(some 2), .assign (.tmp (26 : Nat)), none⟩,
  ⟨(some 3), .assign (.const (.int .i64 0)), none⟩]
def bitmap_Runs_c : SF := ⟨27, (.seq (.reg bitmap_Runs_r0)
  (.seq (.seq (.reg bitmap_Runs_r1)
  (.seq (.reg bitmap_Runs_r2)
  (.cond (.tmp (11 : Nat)) (.seq (.reg bitmap_Runs_r3)
  .ret) .skip)))
  (.seq (.reg bitmap_Runs_r4)
  (.seq (.seq (.reg bitmap_Runs_r5)
  (.block 0 (.loop (.seq (.reg bitmap_Runs_r6)
  (.seq (.cond (.tmp (16 : Nat)) .skip (.exit 0))
  (.seq (.block 1 (.seq (.reg bitmap_Runs_r7)
  (.seq (.reg bitmap_Runs_r8)
  (.block 2 (.rf (.tmp (19 : Nat)) [20] (.reg bitmap_Runs_r9) (.block 3 (.reg bitmap_Runs_r10)))))))
  (.reg bitmap_Runs_r11)))))))
  (.seq (.reg bitmap_Runs_r12)
  .ret))))), [.tmp 2, .tmp 3]⟩
theorem bitmap_Runs_s : slimF Try.prog 33 = some bitmap_Runs_c := by kernel_rfl
abbrev bitmap_Runs_f : Nat := 33
/-- printworks/bitmap.Count -/
def bitmap_Count_r0 : List SO := [⟨(some 1), .box 28 (.tmp (0 : Nat)), none⟩,
  ⟨(some 2), .assign (.const (.int .i64 0)), none⟩,
  ⟨(some 3), .assign (.const (.int .i64 0)), none⟩]
def bitmap_Count_r1 : List SO := [⟨(some 8), .load 28 (.tmp (1 : Nat)), none⟩,
  ⟨(some 9), .call ⟨(.value (.func (22 : Nat))), #[(.tmp (8 : Nat))], #[28]⟩, none⟩,
  ⟨(some 4), .assign (.tmp (9 : Nat)), none⟩]
def bitmap_Count_r2 : List SO := [⟨(some 10), .move (.tmp (4 : Nat)), none⟩,
  ⟨(some 11), .binOp .neq 32 (.tmp (10 : Nat)) (.const (.int .i64 0)) 32, none⟩]
def bitmap_Count_r3 : List SO := [⟨(some 12), .move (.tmp (4 : Nat)), none⟩,
  ⟨(some 2), .assign (.const (.int .i64 0)), none⟩,
  ⟨(some 3), .assign (.tmp (12 : Nat)), none⟩]
def bitmap_Count_r4 : List SO := [⟨(some 5), .assign (.const (.int .i64 0)), none⟩]
def bitmap_Count_r5 : List SO := [⟨(some 13), .fieldAddr 28 (.tmp (1 : Nat)) 2, none⟩,
  ⟨(some 14), .load 26 (.tmp (13 : Nat)), none⟩,
  ⟨(some 15), .call ⟨(.builtin .len), #[(.tmp (14 : Nat))], #[26]⟩, none⟩,
  ⟨(some 16), .move (.const (.int .i64 0)), none⟩]
def bitmap_Count_r6 : List SO := [⟨(some 17), .binOp .lss 3 (.tmp (16 : Nat)) (.tmp (15 : Nat)) 3, none⟩]
def bitmap_Count_r7 : List SO := [⟨(some 18), .indexAddr 26 (.tmp (14 : Nat)) (.tmp (16 : Nat)), none⟩,
  ⟨(some 19), .load 5 (.tmp (18 : Nat)), none⟩,
  ⟨(some 7), .assign (.tmp (19 : Nat)), none⟩]
def bitmap_Count_r8 : List SO := [⟨(some 20), .move (.tmp (5 : Nat)), none⟩,
  ⟨(some 21), .move (.tmp (7 : Nat)), none⟩,
  ⟨(some 22), .call ⟨(.value (.func (66 : Nat))), #[(.tmp (21 : Nat))], #[5]⟩, none⟩,
  ⟨(some 23), .binOp .add 3 (.tmp (20 : Nat)) (.tmp (22 : Nat)) 3, none⟩,
  ⟨(some 5), .assign (.tmp (23 : Nat)), none⟩]
def bitmap_Count_r9 : List SO := [⟨(some 24), .binOp .add 3 (.tmp (16 : Nat)) (.const (.int .i64 1)) 3, none⟩,
  ⟨(some 16), .move (.tmp (24 : Nat)), none⟩]
def bitmap_Count_r10 : List SO := [⟨(some 25), .move (.tmp (5 : Nat)), none⟩,
  ⟨(some 2), .assign (.tmp (25 : Nat)), none⟩,
  ⟨(some 3), .assign (.const (.int .i64 0)), none⟩]
def bitmap_Count_c : SF := ⟨26, (.seq (.reg bitmap_Count_r0)
  (.seq (.seq (.reg bitmap_Count_r1)
  (.seq (.reg bitmap_Count_r2)
  (.cond (.tmp (11 : Nat)) (.seq (.reg bitmap_Count_r3)
  .ret) .skip)))
  (.seq (.reg bitmap_Count_r4)
  (.seq (.seq (.reg bitmap_Count_r5)
  (.block 0 (.loop (.seq (.reg bitmap_Count_r6)
  (.seq (.cond (.tmp (17 : Nat)) .skip (.exit 0))
  (.seq (.block 1 (.seq (.reg bitmap_Count_r7)
  (.reg bitmap_Count_r8)))
  (.reg bitmap_Count_r9)))))))
  (.seq (.reg bitmap_Count_r10)
  .ret))))), [.tmp 2, .tmp 3]⟩
theorem bitmap_Count_s : slimF Try.prog 34 = some bitmap_Count_c := by kernel_rfl
/-- printworks/bitmap.FromRuns -/
def bitmap_FromRuns_r0 : List SO := [⟨(some 6), .alloc 28, none⟩,
  ⟨(some 7), .assign (.const (.int .i64 0)), none⟩]
def bitmap_FromRuns_r1 : List SO := [⟨(some 12), .move (.tmp (0 : Nat)), none⟩,
  ⟨(some 13), .binOp .lss 3 (.tmp (12 : Nat)) (.const (.int .i64 1)) 3, none⟩,
  ⟨(some 14), .move (.tmp (13 : Nat)), none⟩,
  ⟨(some 15), .move (.tmp (0 : Nat)), (some (14, false))⟩,
  ⟨(some 16), .binOp .gtr 3 (.tmp (15 : Nat)) (.const (.int .i64 1024)) 3, (some (14, false))⟩,
  ⟨(some 17), .pick (.tmp (14 : Nat)) (.const (.bool true)) (.tmp (16 : Nat)), none⟩,
  ⟨(some 18), .move (.tmp (17 : Nat)), none⟩,
  ⟨(some 19), .move (.tmp (1 : Nat)), (some (18, false))⟩,
  ⟨(some 20), .binOp .lss 3 (.tmp (19 : Nat)) (.const (.int .i64 1)) 3, (some (18, false))⟩,
  ⟨(some 21), .pick (.tmp (18 : Nat)) (.const (.bool true)) (.tmp (20 : Nat)), none⟩,
  ⟨(some 22), .move (.tmp (21 : Nat)), none⟩,
  ⟨(some 23), .move (.tmp (1 : Nat)), (some (22, false))⟩,
  ⟨(some 24), .binOp .gtr 3 (.tmp (23 : Nat)) (.const (.int .i64 1024)) 3, (some (22, false))⟩,
  ⟨(some 25), .pick (.tmp (22 : Nat)) (.const (.bool true)) (.tmp (24 : Nat)), none⟩]
def bitmap_FromRuns_r2 : List SO := [⟨(some 26), .build 28 #[], none⟩,
  ⟨none, .store 28 (.tmp (6 : Nat)) (.tmp (26 : Nat)), none⟩,
  ⟨(some 7), .assign (.const (.int .i64 3)), none⟩]
def bitmap_FromRuns_r3 : List SO := [⟨(some 27), .move (.tmp (0 : Nat)), none⟩,
  ⟨(some 28), .move (.tmp (1 : Nat)), none⟩,
  ⟨(some 29), .call ⟨(.value (.func (67 : Nat))), #[(.tmp (27 : Nat)), (.tmp (28 : Nat))], #[3, 3]⟩, none⟩,
  ⟨(some 8), .alloc 28, none⟩,
  ⟨none, .store 28 (.tmp (8 : Nat)) (.tmp (29 : Nat)), none⟩]
def bitmap_FromRuns_r4 : List SO := [⟨(some 30), .move (.tmp (2 : Nat)), none⟩,
  ⟨(some 31), .call ⟨(.builtin .len), #[(.tmp (30 : Nat))], #[60]⟩, none⟩,
  ⟨(some 32), .move (.const (.int .i64 0)), none⟩]
def bitmap_FromRuns_r5 : List SO := [⟨(some 33), .binOp .lss 3 (.tmp (32 : Nat)) (.tmp (31 : Nat)) 3, none⟩]
def bitmap_FromRuns_r6 : List SO := [⟨(some 34), .move (.tmp (32 : Nat)), none⟩,
  ⟨(some 35), .indexAddr 60 (.tmp (30 : Nat)) (.tmp (32 : Nat)), none⟩,
  ⟨(some 36), .load 66 (.tmp (35 : Nat)), none⟩,
  ⟨(some 10), .alloc 66, none⟩,
  ⟨(some 9), .assign (.tmp (34 : Nat)), none⟩,
  ⟨none, .store 66 (.tmp (10 : Nat)) (.tmp (36 : Nat)), none⟩]
def bitmap_FromRuns_r7 : List SO := [⟨(some 37), .fieldAddr 66 (.tmp (10 : Nat)) 0, none⟩,
  ⟨(some 38), .load 3 (.tmp (37 : Nat)), none⟩,
  ⟨(some 39), .binOp .lss 3 (.tmp (38 : Nat)) (.const (.int .i64 0)) 3, none⟩,
  ⟨(some 40), .move (.tmp (39 : Nat)), none⟩,
  ⟨(some 41), .fieldAddr 66 (.tmp (10 : Nat)) 0, (some (40, false))⟩,
  ⟨(some 42), .load 3 (.tmp (41 : Nat)), (some (40, false))⟩,
  ⟨(some 43), .move (.tmp (1 : Nat)), (some (40, false))⟩,
  ⟨(some 44), .binOp .geq 3 (.tmp (42 : Nat)) (.tmp (43 : Nat)) 3, (some (40, false))⟩,
  ⟨(some 45), .pick (.tmp (40 : Nat)) (.const (.bool true)) (.tmp (44 : Nat)), none⟩,
  ⟨(some 46), .move (.tmp (45 : Nat)), none⟩,
  ⟨(some 47), .fieldAddr 66 (.tmp (10 : Nat)) 1, (some (46, false))⟩,
  ⟨(some 48), .load 3 (.tmp (47 : Nat)), (some (46, false))⟩,
  ⟨(some 49), .binOp .lss 3 (.tmp (48 : Nat)) (.const (.int .i64 0)) 3, (some (46, false))⟩,
  ⟨(some 50), .pick (.tmp (46 : Nat)) (.const (.bool true)) (.tmp (49 : Nat)), none⟩,
  ⟨(some 51), .move (.tmp (50 : Nat)), none⟩,
  ⟨(some 52), .fieldAddr 66 (.tmp (10 : Nat)) 2, (some (51, false))⟩,
  ⟨(some 53), .load 3 (.tmp (52 : Nat)), (some (51, false))⟩,
  ⟨(some 54), .move (.tmp (0 : Nat)), (some (51, false))⟩,
  ⟨(some 55), .binOp .gtr 3 (.tmp (53 : Nat)) (.tmp (54 : Nat)) 3, (some (51, false))⟩,
  ⟨(some 56), .pick (.tmp (51 : Nat)) (.const (.bool true)) (.tmp (55 : Nat)), none⟩,
  ⟨(some 57), .move (.tmp (56 : Nat)), none⟩,
  ⟨(some 58), .fieldAddr 66 (.tmp (10 : Nat)) 1, (some (57, false))⟩,
  ⟨(some 59), .load 3 (.tmp (58 : Nat)), (some (57, false))⟩,
  ⟨(some 60), .fieldAddr 66 (.tmp (10 : Nat)) 2, (some (57, false))⟩,
  ⟨(some 61), .load 3 (.tmp (60 : Nat)), (some (57, false))⟩,
  ⟨(some 62), .binOp .geq 3 (.tmp (59 : Nat)) (.tmp (61 : Nat)) 3, (some (57, false))⟩,
  ⟨(some 63), .pick (.tmp (57 : Nat)) (.const (.bool true)) (.tmp (62 : Nat)), none⟩]
def bitmap_FromRuns_r8 : List SO := [⟨(some 64), .build 28 #[], none⟩,
  ⟨none, .store 28 (.tmp (6 : Nat)) (.tmp (64 : Nat)), none⟩,
  ⟨(some 7), .assign (.const (.int .i64 3)), none⟩]
def bitmap_FromRuns_r9 : List SO := [⟨(some 65), .move (.tmp (9 : Nat)), none⟩,
  ⟨(some 66), .binOp .gtr 3 (.tmp (65 : Nat)) (.const (.int .i64 0)) 3, none⟩,
  ⟨(some 67), .move (.tmp (66 : Nat)), none⟩,
  ⟨(some 68), .fieldAddr 66 (.tmp (10 : Nat)) 0, (some (67, true))⟩,
  ⟨(some 69), .load 3 (.tmp (68 : Nat)), (some (67, true))⟩,
  ⟨(some 70), .move (.tmp (2 : Nat)), (some (67, true))⟩,
  ⟨(some 71), .move (.tmp (9 : Nat)), (some (67, true))⟩,
  ⟨(some 72), .binOp .sub 3 (.tmp (71 : Nat)) (.const (.int .i64 1)) 3, (some (67, true))⟩,
  ⟨(some 73), .indexAddr 60 (.tmp (70 : Nat)) (.tmp (72 : Nat)), (some (67, true))⟩,
  ⟨(some 74), .fieldAddr 66 (.tmp (73 : Nat)) 0, (some (67, true))⟩,
  ⟨(some 75), .load 3 (.tmp (74 : Nat)), (some (67, true))⟩,
  ⟨(some 76), .binOp .lss 3 (.tmp (69 : Nat)) (.tmp (75 : Nat)) 3, (some (67, true))⟩,
  ⟨(some 77), .move (.tmp (76 : Nat)), (some (67, true))⟩,
  ⟨(some 78), .fieldAddr 66 (.tmp (10 : Nat)) 0, (some (77, false))⟩,
  ⟨(some 79), .load 3 (.tmp (78 : Nat)), (some (77, false))⟩,
  ⟨(some 80), .move (.tmp (2 : Nat)), (some (77, false))⟩,
  ⟨(some 81), .move (.tmp (9 : Nat)), (some (77, false))⟩,
  ⟨(some 82), .binOp .sub 3 (.tmp (81 : Nat)) (.const (.int .i64 1)) 3, (some (77, false))⟩,
  ⟨(some 83), .indexAddr 60 (.tmp (80 : Nat)) (.tmp (82 : Nat)), (some (77, false))⟩,
  ⟨(some 84), .fieldAddr 66 (.tmp (83 : Nat)) 0, (some (77, false))⟩,
  ⟨(some 85), .load 3 (.tmp (84 : Nat)), (some (77, false))⟩,
  ⟨(some 86), .binOp .eql 3 (.tmp (79 : Nat)) (.tmp (85 : Nat)) 3, (some (77, false))⟩,
  ⟨(some 87), .move (.tmp (86 : Nat)), (some (77, false))⟩,
  ⟨(some 88), .fieldAddr 66 (.tmp (10 : Nat)) 1, (some (87, true))⟩,
  ⟨(some 89), .load 3 (.tmp (88 : Nat)), (some (87, true))⟩,
  ⟨(some 90), .move (.tmp (2 : Nat)), (some (87, true))⟩,
  ⟨(some 91), .move (.tmp (9 : Nat)), (some (87, true))⟩,
  ⟨(some 92), .binOp .sub 3 (.tmp (91 : Nat)) (.const (.int .i64 1)) 3, (some (87, true))⟩,
  ⟨(some 93), .indexAddr 60 (.tmp (90 : Nat)) (.tmp (92 : Nat)), (some (87, true))⟩,
  ⟨(some 94), .fieldAddr 66 (.tmp (93 : Nat)) 2, (some (87, true))⟩,
  ⟨(some 95), .load 3 (.tmp (94 : Nat)), (some (87, true))⟩,
  ⟨(some 96), .binOp .leq 3 (.tmp (89 : Nat)) (.tmp (95 : Nat)) 3, (some (87, true))⟩,
  ⟨(some 97), .pick (.tmp (87 : Nat)) (.tmp (96 : Nat)) (.const (.bool false)), (some (77, false))⟩,
  ⟨(some 98), .pick (.tmp (77 : Nat)) (.const (.bool true)) (.tmp (97 : Nat)), (some (67, true))⟩,
  ⟨(some 99), .pick (.tmp (67 : Nat)) (.tmp (98 : Nat)) (.const (.bool false)), none⟩]
def bitmap_FromRuns_a9 : List (List Nat) := [[], [0], [1], [2], [3, 2], [2], [2], [6, 2], [5, 7, 2], [8, 2], [9, 2], [4, 10, 2], [11, 2, 2], [12], [13, 12], [12], [12], [16, 12], [15, 17, 12], [18, 12], [19, 12], [14, 20, 12], [21, 12, 12], [22], [23, 22], [22], [22], [26, 22], [25, 27, 22], [28, 22], [29, 22], [24, 30, 22], [22, 31, 12], [12, 32, 2], [2, 33]]
def bitmap_FromRuns_r10 : List SO := [⟨(some 100), .build 28 #[], none⟩,
  ⟨none, .store 28 (.tmp (6 : Nat)) (.tmp (100 : Nat)), none⟩,
  ⟨(some 7), .assign (.const (.int .i64 18)), none⟩]
def bitmap_FromRuns_r11 : List SO := [⟨(some 101), .fieldAddr 66 (.tmp (10 : Nat)) 1, none⟩,
  ⟨(some 102), .load 3 (.tmp (101 : Nat)), none⟩,
  ⟨(some 11), .assign (.tmp (102 : Nat)), none⟩]
def bitmap_FromRuns_r12 : List SO := [⟨(some 103), .move (.tmp (11 : Nat)), none⟩,
  ⟨(some 104), .fieldAddr 66 (.tmp (10 : Nat)) 2, none⟩,
  ⟨(some 105), .load 3 (.tmp (104 : Nat)), none⟩,
  ⟨(some 106), .binOp .lss 3 (.tmp (103 : Nat)) (.tmp (105 : Nat)) 3, none⟩]
def bitmap_FromRuns_r13 : List SO := [⟨(some 109), .move (.tmp (11 : Nat)), none⟩,
  ⟨(some 110), .fieldAddr 66 (.tmp (10 : Nat)) 0, none⟩,
  ⟨(some 111), .load 3 (.tmp (110 : Nat)), none⟩,
  ⟨(some 112), .call ⟨(.value (.func (68 : Nat))), #[(.tmp (8 : Nat)), (.tmp (109 : Nat)), (.tmp (111 : Nat))], #[97, 3, 3]⟩, none⟩]
def bitmap_FromRuns_r14 : List SO := [⟨(some 107), .move (.tmp (11 : Nat)), none⟩,
  ⟨(some 108), .binOp .add 3 (.tmp (107 : Nat)) (.const (.int .i64 1)) 3, none⟩,
  ⟨(some 11), .assign (.tmp (108 : Nat)), none⟩]
def bitmap_FromRuns_r15 : List SO := [⟨(some 113), .binOp .add 3 (.tmp (32 : Nat)) (.const (.int .i64 1)) 3, none⟩,
  ⟨(some 32), .move (.tmp (113 : Nat)), none⟩]
def bitmap_FromRuns_r16 : List SO := [⟨(some 114), .load 28 (.tmp (8 : Nat)), none⟩,
  ⟨none, .store 28 (.tmp (6 : Nat)) (.tmp (114 : Nat)), none⟩,
  ⟨(some 7), .assign (.const (.int .i64 0)), none⟩]
def bitmap_FromRuns_c : SF := ⟨115, (.seq (.reg bitmap_FromRuns_r0)
  (.seq (.seq (.reg bitmap_FromRuns_r1)
  (.cond (.tmp (25 : Nat)) (.seq (.reg bitmap_FromRuns_r2)
  .ret) .skip))
  (.seq (.reg bitmap_FromRuns_r3)
  (.seq (.seq (.reg bitmap_FromRuns_r4)
  (.block 0 (.loop (.seq (.reg bitmap_FromRuns_r5)
  (.seq (.cond (.tmp (33 : Nat)) .skip (.exit 0))
  (.seq (.block 1 (.seq (.reg bitmap_FromRuns_r6)
  (.seq (.seq (.reg bitmap_FromRuns_r7)
  (.cond (.tmp (63 : Nat)) (.seq (.reg bitmap_FromRuns_r8)
  .ret) .skip))
  (.seq (.seq (.regd bitmap_FromRuns_r9 bitmap_FromRuns_a9)
  (.cond (.tmp (99 : Nat)) (.seq (.reg bitmap_FromRuns_r10)
  .ret) .skip))
  (.seq (.reg bitmap_FromRuns_r11)
  (.block 2 (.loop (.seq (.seq (.reg bitmap_FromRuns_r12)
  (.cond (.tmp (106 : Nat)) .skip (.exit 2)))
  (.seq (.block 3 (.reg bitmap_FromRuns_r13))
  (.reg bitmap_FromRuns_r14))))))))))
  (.reg bitmap_FromRuns_r15)))))))
  (.seq (.reg bitmap_FromRuns_r16)
  .ret))))), [.cell 6 28, .tmp 7]⟩
theorem bitmap_FromRuns_s : slimF Try.prog 35 = some bitmap_FromRuns_c := by kernel_rfl
abbrev bitmap_FromRuns_f : Nat := 35
/-- printworks/bitmap.Spread -/
def bitmap_Spread_r0 : List SO := [⟨(some 2), .box 28 (.tmp (0 : Nat)), none⟩,
  ⟨(some 4), .alloc 28, none⟩,
  ⟨(some 5), .assign (.const (.int .i64 0)), none⟩]
def bitmap_Spread_r1 : List SO := [⟨(some 7), .load 28 (.tmp (2 : Nat)), none⟩,
  ⟨(some 8), .call ⟨(.value (.func (22 : Nat))), #[(.tmp (7 : Nat))], #[28]⟩, none⟩,
  ⟨(some 6), .assign (.tmp (8 : Nat)), none⟩]
def bitmap_Spread_r2 : List SO := [⟨(some 9), .move (.tmp (6 : Nat)), none⟩,
  ⟨(some 10), .binOp .neq 32 (.tmp (9 : Nat)) (.const (.int .i64 0)) 32, none⟩]
def bitmap_Spread_r3 : List SO := [⟨(some 11), .build 28 #[], none⟩,
  ⟨(some 12), .move (.tmp (6 : Nat)), none⟩,
  ⟨none, .store 28 (.tmp (4 : Nat)) (.tmp (11 : Nat)), none⟩,
  ⟨(some 5), .assign (.tmp (12 : Nat)), none⟩]
def bitmap_Spread_r4 : List SO := [⟨(some 13), .move (.tmp (1 : Nat)), none⟩,
  ⟨(some 14), .binOp .lss 3 (.tmp (13 : Nat)) (.const (.int .i64 0)) 3, none⟩,
  ⟨(some 15), .move (.tmp (14 : Nat)), none⟩,
  ⟨(some 16), .move (.tmp (1 : Nat)), (some (15, false))⟩,
  ⟨(some 17), .binOp .gtr 3 (.tmp (16 : Nat)) (.const (.int .i64 16)) 3, (some (15, false))⟩,
  ⟨(some 18), .pick (.tmp (15 : Nat)) (.const (.bool true)) (.tmp (17 : Nat)), none⟩]
def bitmap_Spread_r5 : List SO := [⟨(some 19), .build 28 #[], none⟩,
  ⟨none, .store 28 (.tmp (4 : Nat)) (.tmp (19 : Nat)), none⟩,
  ⟨(some 5), .assign (.const (.int .i64 3)), none⟩]
def bitmap_Spread_r6 : List SO := [⟨(some 20), .move (.tmp (1 : Nat)), none⟩,
  ⟨(some 21), .call ⟨(.value (.func (69 : Nat))), #[(.tmp (2 : Nat)), (.tmp (20 : Nat))], #[97, 3]⟩, none⟩,
  ⟨none, .store 28 (.tmp (4 : Nat)) (.tmp (21 : Nat)), none⟩,
  ⟨(some 5), .assign (.const (.int .i64 0)), none⟩]
def bitmap_Spread_c : SF := ⟨22, (.seq (.reg bitmap_Spread_r0)
  (.seq (.seq (.reg bitmap_Spread_r1)
  (.seq (.reg bitmap_Spread_r2)
  (.cond (.tmp (10 : Nat)) (.seq (.reg bitmap_Spread_r3)
  .ret) .skip)))
  (.seq (.seq (.reg bitmap_Spread_r4)
  (.cond (.tmp (18 : Nat)) (.seq (.reg bitmap_Spread_r5)
  .ret) .skip))
  (.seq (.reg bitmap_Spread_r6)
  .ret)))), [.cell 4 28, .tmp 5]⟩
theorem bitmap_Spread_s : slimF Try.prog 36 = some bitmap_Spread_c := by kernel_rfl
/-- printworks/bitmap.Or -/
def bitmap_Or_r0 : List SO := [⟨(some 2), .box 28 (.tmp (0 : Nat)), none⟩,
  ⟨(some 3), .box 28 (.tmp (1 : Nat)), none⟩,
  ⟨(some 4), .alloc 28, none⟩,
  ⟨(some 5), .assign (.const (.int .i64 0)), none⟩]
def bitmap_Or_r1 : List SO := [⟨(some 6), .load 28 (.tmp (2 : Nat)), none⟩,
  ⟨(some 7), .load 28 (.tmp (3 : Nat)), none⟩,
  ⟨(some 8), .call ⟨(.value (.func (70 : Nat))), #[(.tmp (6 : Nat)), (.tmp (7 : Nat)), (.func (71 : Nat))], #[28, 28, 118]⟩, none⟩,
  ⟨(some 9), .extract (.tmp (8 : Nat)) 0, none⟩,
  ⟨(some 10), .extract (.tmp (8 : Nat)) 1, none⟩,
  ⟨none, .store 28 (.tmp (4 : Nat)) (.tmp (9 : Nat)), none⟩,
  ⟨(some 5), .assign (.tmp (10 : Nat)), none⟩]
def bitmap_Or_c : SF := ⟨11, (.seq (.reg bitmap_Or_r0)
  (.seq (.reg bitmap_Or_r1)
  .ret)), [.cell 4 28, .tmp 5]⟩
theorem bitmap_Or_s : slimF Try.prog 37 = some bitmap_Or_c := by kernel_rfl
/-- printworks/bitmap.And -/
def bitmap_And_r0 : List SO := [⟨(some 2), .box 28 (.tmp (0 : Nat)), none⟩,
  ⟨(some 3), .box 28 (.tmp (1 : Nat)), none⟩,
  ⟨(some 4), .alloc 28, none⟩,
  ⟨(some 5), .assign (.const (.int .i64 0)), none⟩]
def bitmap_And_r1 : List SO := [⟨(some 6), .load 28 (.tmp (2 : Nat)), none⟩,
  ⟨(some 7), .load 28 (.tmp (3 : Nat)), none⟩,
  ⟨(some 8), .call ⟨(.value (.func (70 : Nat))), #[(.tmp (6 : Nat)), (.tmp (7 : Nat)), (.func (72 : Nat))], #[28, 28, 118]⟩, none⟩,
  ⟨(some 9), .extract (.tmp (8 : Nat)) 0, none⟩,
  ⟨(some 10), .extract (.tmp (8 : Nat)) 1, none⟩,
  ⟨none, .store 28 (.tmp (4 : Nat)) (.tmp (9 : Nat)), none⟩,
  ⟨(some 5), .assign (.tmp (10 : Nat)), none⟩]
def bitmap_And_c : SF := ⟨11, (.seq (.reg bitmap_And_r0)
  (.seq (.reg bitmap_And_r1)
  .ret)), [.cell 4 28, .tmp 5]⟩
theorem bitmap_And_s : slimF Try.prog 38 = some bitmap_And_c := by kernel_rfl
/-- printworks/bitmap.Minus -/
def bitmap_Minus_r0 : List SO := [⟨(some 2), .box 28 (.tmp (0 : Nat)), none⟩,
  ⟨(some 3), .box 28 (.tmp (1 : Nat)), none⟩,
  ⟨(some 4), .alloc 28, none⟩,
  ⟨(some 5), .assign (.const (.int .i64 0)), none⟩]
def bitmap_Minus_r1 : List SO := [⟨(some 6), .load 28 (.tmp (2 : Nat)), none⟩,
  ⟨(some 7), .load 28 (.tmp (3 : Nat)), none⟩,
  ⟨(some 8), .call ⟨(.value (.func (70 : Nat))), #[(.tmp (6 : Nat)), (.tmp (7 : Nat)), (.func (73 : Nat))], #[28, 28, 118]⟩, none⟩,
  ⟨(some 9), .extract (.tmp (8 : Nat)) 0, none⟩,
  ⟨(some 10), .extract (.tmp (8 : Nat)) 1, none⟩,
  ⟨none, .store 28 (.tmp (4 : Nat)) (.tmp (9 : Nat)), none⟩,
  ⟨(some 5), .assign (.tmp (10 : Nat)), none⟩]
def bitmap_Minus_c : SF := ⟨11, (.seq (.reg bitmap_Minus_r0)
  (.seq (.reg bitmap_Minus_r1)
  .ret)), [.cell 4 28, .tmp 5]⟩
theorem bitmap_Minus_s : slimF Try.prog 39 = some bitmap_Minus_c := by kernel_rfl
/-- printworks/bitmap.FromPlate -/
def bitmap_FromPlate_r0 : List SO := [⟨(some 2), .box 80 (.tmp (0 : Nat)), none⟩,
  ⟨(some 3), .box 3 (.tmp (1 : Nat)), none⟩,
  ⟨(some 4), .alloc 28, none⟩,
  ⟨(some 5), .assign (.const (.int .i64 0)), none⟩]
def bitmap_FromPlate_r1 : List SO := [⟨(some 7), .load 80 (.tmp (2 : Nat)), none⟩,
  ⟨(some 8), .call ⟨(.value (.func (76 : Nat))), #[(.tmp (7 : Nat))], #[80]⟩, none⟩,
  ⟨(some 6), .assign (.tmp (8 : Nat)), none⟩]
def bitmap_FromPlate_r2 : List SO := [⟨(some 9), .move (.tmp (6 : Nat)), none⟩,
  ⟨(some 10), .binOp .neq 32 (.tmp (9 : Nat)) (.const (.int .i64 0)) 32, none⟩]
def bitmap_FromPlate_r3 : List SO := [⟨(some 11), .build 28 #[], none⟩,
  ⟨(some 12), .move (.tmp (6 : Nat)), none⟩,
  ⟨none, .store 28 (.tmp (4 : Nat)) (.tmp (11 : Nat)), none⟩,
  ⟨(some 5), .assign (.tmp (12 : Nat)), none⟩]
def bitmap_FromPlate_r4 : List SO := [⟨(some 13), .load 3 (.tmp (3 : Nat)), none⟩,
  ⟨(some 14), .binOp .lss 3 (.tmp (13 : Nat)) (.const (.int .i64 1)) 3, none⟩,
  ⟨(some 15), .move (.tmp (14 : Nat)), none⟩,
  ⟨(some 16), .load 3 (.tmp (3 : Nat)), (some (15, false))⟩,
  ⟨(some 17), .binOp .gtr 3 (.tmp (16 : Nat)) (.const (.int .i64 255)) 3, (some (15, false))⟩,
  ⟨(some 18), .pick (.tmp (15 : Nat)) (.const (.bool true)) (.tmp (17 : Nat)), none⟩]
def bitmap_FromPlate_r5 : List SO := [⟨(some 19), .build 28 #[], none⟩,
  ⟨none, .store 28 (.tmp (4 : Nat)) (.tmp (19 : Nat)), none⟩,
  ⟨(some 5), .assign (.const (.int .i64 3)), none⟩]
def bitmap_FromPlate_r6 : List SO := [⟨(some 20), .fieldAddr 80 (.tmp (2 : Nat)) 0, none⟩,
  ⟨(some 21), .load 3 (.tmp (20 : Nat)), none⟩,
  ⟨(some 22), .fieldAddr 80 (.tmp (2 : Nat)) 1, none⟩,
  ⟨(some 23), .load 3 (.tmp (22 : Nat)), none⟩,
  ⟨(some 24), .makeFunc (.func (78 : Nat)) #[] #[(.tmp (2 : Nat)), (.tmp (3 : Nat))], none⟩,
  ⟨(some 25), .call ⟨(.value (.func (77 : Nat))), #[(.tmp (21 : Nat)), (.tmp (23 : Nat)), (.tmp (24 : Nat))], #[3, 3, 123]⟩, none⟩,
  ⟨none, .store 28 (.tmp (4 : Nat)) (.tmp (25 : Nat)), none⟩,
  ⟨(some 5), .assign (.const (.int .i64 0)), none⟩]
def bitmap_FromPlate_c : SF := ⟨26, (.seq (.reg bitmap_FromPlate_r0)
  (.seq (.seq (.reg bitmap_FromPlate_r1)
  (.seq (.reg bitmap_FromPlate_r2)
  (.cond (.tmp (10 : Nat)) (.seq (.reg bitmap_FromPlate_r3)
  .ret) .skip)))
  (.seq (.seq (.reg bitmap_FromPlate_r4)
  (.cond (.tmp (18 : Nat)) (.seq (.reg bitmap_FromPlate_r5)
  .ret) .skip))
  (.seq (.reg bitmap_FromPlate_r6)
  .ret)))), [.cell 4 28, .tmp 5]⟩
theorem bitmap_FromPlate_s : slimF Try.prog 45 = some bitmap_FromPlate_c := by kernel_rfl
/-- printworks/bitmap.Is -/
def bitmap_Is_r0 : List SO := [⟨(some 6), .assign (.const (.bool false)), none⟩]
def bitmap_Is_r1 : List SO := [⟨(some 7), .move (.tmp (1 : Nat)), none⟩,
  ⟨(some 8), .binOp .geq 3 (.tmp (7 : Nat)) (.const (.int .i64 0)) 3, none⟩,
  ⟨(some 9), .move (.tmp (8 : Nat)), none⟩,
  ⟨(some 10), .move (.tmp (1 : Nat)), (some (9, true))⟩,
  ⟨(some 11), .move (.tmp (0 : Nat)), (some (9, true))⟩,
  ⟨(some 12), .nilCheck (.tmp (11 : Nat)), (some (9, true))⟩,
  ⟨(some 13), .fieldAddr 28 (.tmp (12 : Nat)) 0, (some (9, true))⟩,
  ⟨(some 14), .load 3 (.tmp (13 : Nat)), (some (9, true))⟩,
  ⟨(some 15), .binOp .lss 3 (.tmp (10 : Nat)) (.tmp (14 : Nat)) 3, (some (9, true))⟩,
  ⟨(some 16), .pick (.tmp (9 : Nat)) (.tmp (15 : Nat)) (.const (.bool false)), none⟩,
  ⟨(some 17), .move (.tmp (16 : Nat)), none⟩,
  ⟨(some 18), .move (.tmp (2 : Nat)), (some (17, true))⟩,
  ⟨(some 19), .binOp .geq 3 (.tmp (18 : Nat)) (.const (.int .i64 0)) 3, (some (17, true))⟩,
  ⟨(some 20), .pick (.tmp (17 : Nat)) (.tmp (19 : Nat)) (.const (.bool false)), none⟩,
  ⟨(some 21), .move (.tmp (20 : Nat)), none⟩,
  ⟨(some 22), .move (.tmp (2 : Nat)), (some (21, true))⟩,
  ⟨(some 23), .move (.tmp (0 : Nat)), (some (21, true))⟩,
  ⟨(some 24), .nilCheck (.tmp (23 : Nat)), (some (21, true))⟩,
  ⟨(some 25), .fieldAddr 28 (.tmp (24 : Nat)) 1, (some (21, true))⟩,
  ⟨(some 26), .load 3 (.tmp (25 : Nat)), (some (21, true))⟩,
  ⟨(some 27), .binOp .lss 3 (.tmp (22 : Nat)) (.tmp (26 : Nat)) 3, (some (21, true))⟩,
  ⟨(some 28), .pick (.tmp (21 : Nat)) (.tmp (27 : Nat)) (.const (.bool false)), none⟩,
  ⟨(some 29), .move (.tmp (28 : Nat)), none⟩,
  ⟨(some 30), .move (.tmp (0 : Nat)), (some (29, true))⟩,
  ⟨(some 31), .nilCheck (.tmp (30 : Nat)), (some (29, true))⟩,
  ⟨(some 32), .fieldAddr 28 (.tmp (31 : Nat)) 2, (some (29, true))⟩,
  ⟨(some 33), .load 26 (.tmp (32 : Nat)), (some (29, true))⟩,
  ⟨(some 34), .move (.tmp (2 : Nat)), (some (29, true))⟩,
  ⟨(some 35), .move (.tmp (0 : Nat)), (some (29, true))⟩,
  ⟨(some 36), .nilCheck (.tmp (35 : Nat)), (some (29, true))⟩,
  ⟨(some 37), .fieldAddr 28 (.tmp (36 : Nat)) 0, (some (29, true))⟩,
  ⟨(some 38), .load 3 (.tmp (37 : Nat)), (some (29, true))⟩,
  ⟨(some 39), .call ⟨(.value (.func (56 : Nat))), #[(.tmp (38 : Nat))], #[3]⟩, (some (29, true))⟩,
  ⟨(some 40), .binOp .mul 3 (.tmp (34 : Nat)) (.tmp (39 : Nat)) 3, (some (29, true))⟩,
  ⟨(some 41), .move (.tmp (1 : Nat)), (some (29, true))⟩,
  ⟨(some 42), .binOp .quo 3 (.tmp (41 : Nat)) (.const (.int .i64 8)) 3, (some (29, true))⟩,
  ⟨(some 43), .binOp .add 3 (.tmp (40 : Nat)) (.tmp (42 : Nat)) 3, (some (29, true))⟩,
  ⟨(some 44), .indexAddr 26 (.tmp (33 : Nat)) (.tmp (43 : Nat)), (some (29, true))⟩,
  ⟨(some 45), .load 5 (.tmp (44 : Nat)), (some (29, true))⟩,
  ⟨(some 46), .move (.tmp (1 : Nat)), (some (29, true))⟩,
  ⟨(some 47), .binOp .rem 3 (.tmp (46 : Nat)) (.const (.int .i64 8)) 3, (some (29, true))⟩,
  ⟨(some 48), .binOp .shr 5 (.const (.int .u8 128)) (.tmp (47 : Nat)) 3, (some (29, true))⟩,
  ⟨(some 49), .binOp .and 5 (.tmp (45 : Nat)) (.tmp (48 : Nat)) 5, (some (29, true))⟩,
  ⟨(some 50), .binOp .neq 5 (.tmp (49 : Nat)) (.const (.int .u8 0)) 5, (some (29, true))⟩,
  ⟨(some 51), .pick (.tmp (29 : Nat)) (.tmp (50 : Nat)) (.const (.bool false)), none⟩,
  ⟨(some 6), .assign (.tmp (51 : Nat)), none⟩]
def bitmap_Is_a1 : List (List Nat) := [[], [0], [1], [2], [2], [4, 2], [5, 2], [6, 2], [3, 7, 2], [2, 8], [9, 2], [10], [11, 10], [10, 12], [13, 10], [14], [14], [16, 14], [17, 14], [18, 14], [15, 19, 14], [14, 20], [21, 14], [22], [23, 22], [24, 22], [25, 22], [22], [22], [28, 22], [29, 22], [30, 22], [31, 22, 22], [27, 32, 22], [22], [34, 22], [33, 35, 22], [26, 36, 22], [37, 22], [22], [39, 22], [40, 22], [38, 41, 22], [42, 22], [22, 43], [44, 32, 0, 1, 2, 3, 4, 5, 6, 7, 8, 9, 10, 11, 12, 13, 14, 15, 16, 17, 18, 19, 20, 21, 22, 23, 24, 25, 26, 27, 28, 29, 30, 31, 32, 33, 34, 35, 36, 37, 38, 39, 40, 41, 42, 43, 44]]
def bitmap_Is_c : SF := ⟨52, (.seq (.reg bitmap_Is_r0)
  (.seq (.regd bitmap_Is_r1 bitmap_Is_a1)
  .ret)), [.tmp 6]⟩
theorem bitmap_Is_s : slimF Try.prog 52 = some bitmap_Is_c := by kernel_rfl
abbrev bitmap_Is_f : Nat := 52
/-- printworks/bitmap.Set -/
def bitmap_Set_r0 : List SO := [⟨(some 4), .box 28 (.tmp (0 : Nat)), none⟩,
  ⟨(some 8), .alloc 28, none⟩,
  ⟨(some 9), .assign (.const (.int .i64 0)), none⟩]
def bitmap_Set_r1 : List SO := [⟨(some 11), .load 28 (.tmp (4 : Nat)), none⟩,
  ⟨(some 12), .call ⟨(.value (.func (22 : Nat))), #[(.tmp (11 : Nat))], #[28]⟩, none⟩,
  ⟨(some 10), .assign (.tmp (12 : Nat)), none⟩]
def bitmap_Set_r2 : List SO := [⟨(some 13), .move (.tmp (10 : Nat)), none⟩,
  ⟨(some 14), .binOp .neq 32 (.tmp (13 : Nat)) (.const (.int .i64 0)) 32, none⟩]
def bitmap_Set_r3 : List SO := [⟨(some 15), .build 28 #[], none⟩,
  ⟨(some 16), .move (.tmp (10 : Nat)), none⟩,
  ⟨none, .store 28 (.tmp (8 : Nat)) (.tmp (15 : Nat)), none⟩,
  ⟨(some 9), .assign (.tmp (16 : Nat)), none⟩]
def bitmap_Set_r4 : List SO := [⟨(some 17), .move (.tmp (1 : Nat)), none⟩,
  ⟨(some 18), .binOp .lss 3 (.tmp (17 : Nat)) (.const (.int .i64 0)) 3, none⟩,
  ⟨(some 19), .move (.tmp (18 : Nat)), none⟩,
  ⟨(some 20), .move (.tmp (1 : Nat)), (some (19, false))⟩,
  ⟨(some 21), .fieldAddr 28 (.tmp (4 : Nat)) 0, (some (19, false))⟩,
  ⟨(some 22), .load 3 (.tmp (21 : Nat)), (some (19, false))⟩,
  ⟨(some 23), .binOp .geq 3 (.tmp (20 : Nat)) (.tmp (22 : Nat)) 3, (some (19, false))⟩,
  ⟨(some 24), .pick (.tmp (19 : Nat)) (.const (.bool true)) (.tmp (23 : Nat)), none⟩,
  ⟨(some 25), .move (.tmp (24 : Nat)), none⟩,
  ⟨(some 26), .move (.tmp (2 : Nat)), (some (25, false))⟩,
  ⟨(some 27), .binOp .lss 3 (.tmp (26 : Nat)) (.const (.int .i64 0)) 3, (some (25, false))⟩,
  ⟨(some 28), .pick (.tmp (25 : Nat)) (.const (.bool true)) (.tmp (27 : Nat)), none⟩,
  ⟨(some 29), .move (.tmp (28 : Nat)), none⟩,
  ⟨(some 30), .move (.tmp (2 : Nat)), (some (29, false))⟩,
  ⟨(some 31), .fieldAddr 28 (.tmp (4 : Nat)) 1, (some (29, false))⟩,
  ⟨(some 32), .load 3 (.tmp (31 : Nat)), (some (29, false))⟩,
  ⟨(some 33), .binOp .geq 3 (.tmp (30 : Nat)) (.tmp (32 : Nat)) 3, (some (29, false))⟩,
  ⟨(some 34), .pick (.tmp (29 : Nat)) (.const (.bool true)) (.tmp (33 : Nat)), none⟩]
def bitmap_Set_r5 : List SO := [⟨(some 35), .build 28 #[], none⟩,
  ⟨none, .store 28 (.tmp (8 : Nat)) (.tmp (35 : Nat)), none⟩,
  ⟨(some 9), .assign (.const (.int .i64 3)), none⟩]
def bitmap_Set_r6 : List SO := [⟨(some 36), .fieldAddr 28 (.tmp (4 : Nat)) 2, none⟩,
  ⟨(some 37), .load 26 (.tmp (36 : Nat)), none⟩,
  ⟨(some 38), .call ⟨(.builtin .append), #[(.const (.slice none 0 0)), (.tmp (37 : Nat))], #[26, 26]⟩, none⟩,
  ⟨(some 39), .fieldAddr 28 (.tmp (4 : Nat)) 2, none⟩,
  ⟨none, .store 26 (.tmp (39 : Nat)) (.tmp (38 : Nat)), none⟩]
def bitmap_Set_r7 : List SO := [⟨(some 40), .move (.tmp (3 : Nat)), none⟩]
def bitmap_Set_r8 : List SO := [⟨(some 41), .move (.tmp (1 : Nat)), none⟩,
  ⟨(some 42), .move (.tmp (2 : Nat)), none⟩,
  ⟨(some 43), .call ⟨(.value (.func (68 : Nat))), #[(.tmp (4 : Nat)), (.tmp (41 : Nat)), (.tmp (42 : Nat))], #[97, 3, 3]⟩, none⟩]
def bitmap_Set_r9 : List SO := [⟨(some 44), .fieldAddr 28 (.tmp (4 : Nat)) 2, none⟩,
  ⟨(some 45), .load 26 (.tmp (44 : Nat)), none⟩,
  ⟨(some 46), .move (.tmp (2 : Nat)), none⟩,
  ⟨(some 47), .fieldAddr 28 (.tmp (4 : Nat)) 0, none⟩,
  ⟨(some 48), .load 3 (.tmp (47 : Nat)), none⟩,
  ⟨(some 49), .call ⟨(.value (.func (56 : Nat))), #[(.tmp (48 : Nat))], #[3]⟩, none⟩,
  ⟨(some 50), .binOp .mul 3 (.tmp (46 : Nat)) (.tmp (49 : Nat)) 3, none⟩,
  ⟨(some 51), .move (.tmp (1 : Nat)), none⟩,
  ⟨(some 52), .binOp .quo 3 (.tmp (51 : Nat)) (.const (.int .i64 8)) 3, none⟩,
  ⟨(some 53), .binOp .add 3 (.tmp (50 : Nat)) (.tmp (52 : Nat)) 3, none⟩,
  ⟨(some 54), .indexAddr 26 (.tmp (45 : Nat)) (.tmp (53 : Nat)), none⟩,
  ⟨(some 55), .load 5 (.tmp (54 : Nat)), none⟩,
  ⟨(some 56), .move (.tmp (1 : Nat)), none⟩,
  ⟨(some 57), .binOp .rem 3 (.tmp (56 : Nat)) (.const (.int .i64 8)) 3, none⟩,
  ⟨(some 58), .binOp .shr 5 (.const (.int .u8 128)) (.tmp (57 : Nat)) 3, none⟩,
  ⟨(some 59), .binOp .andNot 5 (.tmp (55 : Nat)) (.tmp (58 : Nat)) 5, none⟩,
  ⟨(some 60), .indexAddr 26 (.tmp (45 : Nat)) (.tmp (53 : Nat)), none⟩,
  ⟨none, .store 5 (.tmp (60 : Nat)) (.tmp (59 : Nat)), none⟩]
def bitmap_Set_a9 : List (List Nat) := [[], [0], [], [], [3], [4], [2, 5], [], [7], [6, 8], [1, 9], [10], [], [12], [13], [11, 14], [1, 9, 0, 1, 2, 3, 4, 5, 6, 7, 8, 9, 10, 11, 12, 13, 14, 15], [16, 15, 5, 0, 1, 2, 3, 4, 5, 6, 7, 8, 9, 10, 11, 12, 13, 14, 15]]
def bitmap_Set_r10 : List SO := [⟨(some 61), .load 28 (.tmp (4 : Nat)), none⟩,
  ⟨none, .store 28 (.tmp (8 : Nat)) (.tmp (61 : Nat)), none⟩,
  ⟨(some 9), .assign (.const (.int .i64 0)), none⟩]
def bitmap_Set_c : SF := ⟨62, (.seq (.reg bitmap_Set_r0)
  (.seq (.seq (.reg bitmap_Set_r1)
  (.seq (.reg bitmap_Set_r2)
  (.cond (.tmp (14 : Nat)) (.seq (.reg bitmap_Set_r3)
  .ret) .skip)))
  (.seq (.seq (.reg bitmap_Set_r4)
  (.cond (.tmp (34 : Nat)) (.seq (.reg bitmap_Set_r5)
  .ret) .skip))
  (.seq (.reg bitmap_Set_r6)
  (.seq (.seq (.reg bitmap_Set_r7)
  (.cond (.tmp (40 : Nat)) (.reg bitmap_Set_r8) (.regd bitmap_Set_r9 bitmap_Set_a9)))
  (.seq (.reg bitmap_Set_r10)
  .ret)))))), [.cell 8 28, .tmp 9]⟩
theorem bitmap_Set_s : slimF Try.prog 53 = some bitmap_Set_c := by kernel_rfl
/-- printworks/bitmap.Turned -/
def bitmap_Turned_r0 : List SO := [⟨(some 2), .box 97 (.tmp (0 : Nat)), none⟩,
  ⟨(some 4), .alloc 28, none⟩]
def bitmap_Turned_r1 : List SO := [⟨(some 7), .load 97 (.tmp (2 : Nat)), none⟩,
  ⟨(some 8), .nilCheck (.tmp (7 : Nat)), none⟩,
  ⟨(some 9), .load 28 (.tmp (8 : Nat)), none⟩,
  ⟨(some 5), .alloc 28, none⟩,
  ⟨none, .store 28 (.tmp (5 : Nat)) (.tmp (9 : Nat)), none⟩]
def bitmap_Turned_r2 : List SO := [⟨(some 10), .load 97 (.tmp (2 : Nat)), none⟩,
  ⟨(some 11), .nilCheck (.tmp (10 : Nat)), none⟩,
  ⟨(some 12), .fieldAddr 28 (.tmp (11 : Nat)) 2, none⟩,
  ⟨(some 13), .load 26 (.tmp (12 : Nat)), none⟩,
  ⟨(some 14), .call ⟨(.builtin .append), #[(.const (.slice none 0 0)), (.tmp (13 : Nat))], #[26, 26]⟩, none⟩,
  ⟨(some 15), .fieldAddr 28 (.tmp (5 : Nat)) 2, none⟩,
  ⟨none, .store 26 (.tmp (15 : Nat)) (.tmp (14 : Nat)), none⟩]
def bitmap_Turned_r3 : List SO := [⟨(some 16), .move (.tmp (1 : Nat)), none⟩,
  ⟨(some 17), .binOp .geq 3 (.tmp (16 : Nat)) (.const (.int .i64 4)) 3, none⟩]
def bitmap_Turned_r4 : List SO := [⟨(some 18), .load 97 (.tmp (2 : Nat)), none⟩,
  ⟨(some 19), .nilCheck (.tmp (18 : Nat)), none⟩,
  ⟨(some 20), .fieldAddr 28 (.tmp (19 : Nat)) 0, none⟩,
  ⟨(some 21), .load 3 (.tmp (20 : Nat)), none⟩,
  ⟨(some 22), .load 97 (.tmp (2 : Nat)), none⟩,
  ⟨(some 23), .nilCheck (.tmp (22 : Nat)), none⟩,
  ⟨(some 24), .fieldAddr 28 (.tmp (23 : Nat)) 1, none⟩,
  ⟨(some 25), .load 3 (.tmp (24 : Nat)), none⟩,
  ⟨(some 26), .makeFunc (.func (81 : Nat)) #[] #[(.tmp (2 : Nat))], none⟩,
  ⟨(some 27), .call ⟨(.value (.func (77 : Nat))), #[(.tmp (21 : Nat)), (.tmp (25 : Nat)), (.tmp (26 : Nat))], #[3, 3, 123]⟩, none⟩,
  ⟨none, .store 28 (.tmp (5 : Nat)) (.tmp (27 : Nat)), none⟩]
def bitmap_Turned_a4 : List (List Nat) := [[], [0], [1], [2], [], [4], [5], [6], [], [3, 7, 8], [9, 9, 0, 1, 2, 3, 4, 5, 6, 7, 8, 9]]
def bitmap_Turned_r5 : List SO := [⟨(some 28), .move (.tmp (1 : Nat)), none⟩,
  ⟨(some 29), .binOp .rem 3 (.tmp (28 : Nat)) (.const (.int .i64 4)) 3, none⟩,
  ⟨(some 30), .move (.const (.int .i64 0)), none⟩]
def bitmap_Turned_r6 : List SO := [⟨(some 31), .binOp .lss 3 (.tmp (30 : Nat)) (.tmp (29 : Nat)) 3, none⟩]
def bitmap_Turned_r7 : List SO := [⟨(some 32), .load 28 (.tmp (5 : Nat)), none⟩,
  ⟨(some 6), .alloc 28, none⟩,
  ⟨none, .store 28 (.tmp (6 : Nat)) (.tmp (32 : Nat)), none⟩]
def bitmap_Turned_r8 : List SO := [⟨(some 33), .fieldAddr 28 (.tmp (6 : Nat)) 1, none⟩,
  ⟨(some 34), .load 3 (.tmp (33 : Nat)), none⟩,
  ⟨(some 35), .fieldAddr 28 (.tmp (6 : Nat)) 0, none⟩,
  ⟨(some 36), .load 3 (.tmp (35 : Nat)), none⟩,
  ⟨(some 37), .makeFunc (.func (82 : Nat)) #[] #[(.tmp (6 : Nat))], none⟩,
  ⟨(some 38), .call ⟨(.value (.func (77 : Nat))), #[(.tmp (34 : Nat)), (.tmp (36 : Nat)), (.tmp (37 : Nat))], #[3, 3, 123]⟩, none⟩,
  ⟨none, .store 28 (.tmp (5 : Nat)) (.tmp (38 : Nat)), none⟩]
def bitmap_Turned_r9 : List SO := [⟨(some 39), .binOp .add 3 (.tmp (30 : Nat)) (.const (.int .i64 1)) 3, none⟩,
  ⟨(some 30), .move (.tmp (39 : Nat)), none⟩]
def bitmap_Turned_r10 : List SO := [⟨(some 40), .load 28 (.tmp (5 : Nat)), none⟩,
  ⟨none, .store 28 (.tmp (4 : Nat)) (.tmp (40 : Nat)), none⟩]
def bitmap_Turned_c : SF := ⟨41, (.seq (.reg bitmap_Turned_r0)
  (.seq (.reg bitmap_Turned_r1)
  (.seq (.reg bitmap_Turned_r2)
  (.seq (.seq (.reg bitmap_Turned_r3)
  (.cond (.tmp (17 : Nat)) (.regd bitmap_Turned_r4 bitmap_Turned_a4) .skip))
  (.seq (.seq (.reg bitmap_Turned_r5)
  (.block 0 (.loop (.seq (.reg bitmap_Turned_r6)
  (.seq (.cond (.tmp (31 : Nat)) .skip (.exit 0))
  (.seq (.block 1 (.seq (.reg bitmap_Turned_r7)
  (.reg bitmap_Turned_r8)))
  (.reg bitmap_Turned_r9)))))))
  (.seq (.reg bitmap_Turned_r10)
  .ret)))))), [.cell 4 28]⟩
theorem bitmap_Turned_s : slimF Try.prog 55 = some bitmap_Turned_c := by kernel_rfl
/-- printworks/bitmap.stride -/
def bitmap_stride_r0 : List SO := [⟨(some 2), .assign (.const (.int .i64 0)), none⟩]
def bitmap_stride_r1 : List SO := [⟨(some 3), .move (.tmp (0 : Nat)), none⟩,
  ⟨(some 4), .binOp .add 3 (.tmp (3 : Nat)) (.const (.int .i64 7)) 3, none⟩,
  ⟨(some 5), .binOp .quo 3 (.tmp (4 : Nat)) (.const (.int .i64 8)) 3, none⟩,
  ⟨(some 2), .assign (.tmp (5 : Nat)), none⟩]
def bitmap_stride_c : SF := ⟨6, (.seq (.reg bitmap_stride_r0)
  (.seq (.reg bitmap_stride_r1)
  .ret)), [.tmp 2]⟩
theorem bitmap_stride_s : slimF Try.prog 56 = some bitmap_stride_c := by kernel_rfl
abbrev bitmap_stride_f : Nat := 56
/-- printworks/bitmap.Row -/
def bitmap_Row_r0 : List SO := [⟨(some 2), .box 97 (.tmp (0 : Nat)), none⟩,
  ⟨(some 3), .box 3 (.tmp (1 : Nat)), none⟩,
  ⟨(some 4), .assign (.const .nilFunc), none⟩]
def bitmap_Row_r1 : List SO := [⟨(some 5), .makeFunc (.func (85 : Nat)) #[] #[(.tmp (2 : Nat)), (.tmp (3 : Nat))], none⟩,
  ⟨(some 4), .assign (.tmp (5 : Nat)), none⟩]
def bitmap_Row_c : SF := ⟨6, (.seq (.reg bitmap_Row_r0)
  (.seq (.reg bitmap_Row_r1)
  .ret)), [.tmp 4]⟩
theorem bitmap_Row_s : slimF Try.prog 65 = some bitmap_Row_c := by kernel_rfl
abbrev bitmap_Row_f : Nat := 65
/-- printworks/bitmap.Blank -/
def bitmap_Blank_r0 : List SO := [⟨(some 4), .alloc 28, none⟩]
def bitmap_Blank_r1 : List SO := [⟨(some 5), .move (.tmp (0 : Nat)), none⟩,
  ⟨(some 6), .move (.tmp (1 : Nat)), none⟩,
  ⟨(some 7), .move (.tmp (0 : Nat)), none⟩,
  ⟨(some 8), .call ⟨(.value (.func (56 : Nat))), #[(.tmp (7 : Nat))], #[3]⟩, none⟩,
  ⟨(some 9), .move (.tmp (1 : Nat)), none⟩,
  ⟨(some 10), .binOp .mul 3 (.tmp (8 : Nat)) (.tmp (9 : Nat)) 3, none⟩,
  ⟨(some 11), .makeSlice 26 (.tmp (10 : Nat)) (.tmp (10 : Nat)), none⟩,
  ⟨(some 12), .build 28 #[(0, (.tmp (5 : Nat))), (1, (.tmp (6 : Nat))), (2, (.tmp (11 : Nat)))], none⟩,
  ⟨none, .store 28 (.tmp (4 : Nat)) (.tmp (12 : Nat)), none⟩]
def bitmap_Blank_c : SF := ⟨13, (.seq (.reg bitmap_Blank_r0)
  (.seq (.reg bitmap_Blank_r1)
  .ret)), [.cell 4 28]⟩
theorem bitmap_Blank_s : slimF Try.prog 67 = some bitmap_Blank_c := by kernel_rfl
abbrev bitmap_Blank_f : Nat := 67
/-- printworks/bitmap.Mark -/
def bitmap_Mark_r0 : List SO := [⟨(some 6), .move (.tmp (0 : Nat)), none⟩,
  ⟨(some 7), .nilCheck (.tmp (6 : Nat)), none⟩,
  ⟨(some 8), .fieldAddr 28 (.tmp (7 : Nat)) 2, none⟩,
  ⟨(some 9), .load 26 (.tmp (8 : Nat)), none⟩,
  ⟨(some 10), .move (.tmp (2 : Nat)), none⟩,
  ⟨(some 11), .move (.tmp (0 : Nat)), none⟩,
  ⟨(some 12), .nilCheck (.tmp (11 : Nat)), none⟩,
  ⟨(some 13), .fieldAddr 28 (.tmp (12 : Nat)) 0, none⟩,
  ⟨(some 14), .load 3 (.tmp (13 : Nat)), none⟩,
  ⟨(some 15), .call ⟨(.value (.func (56 : Nat))), #[(.tmp (14 : Nat))], #[3]⟩, none⟩,
  ⟨(some 16), .binOp .mul 3 (.tmp (10 : Nat)) (.tmp (15 : Nat)) 3, none⟩,
  ⟨(some 17), .move (.tmp (1 : Nat)), none⟩,
  ⟨(some 18), .binOp .quo 3 (.tmp (17 : Nat)) (.const (.int .i64 8)) 3, none⟩,
  ⟨(some 19), .binOp .add 3 (.tmp (16 : Nat)) (.tmp (18 : Nat)) 3, none⟩,
  ⟨(some 20), .indexAddr 26 (.tmp (9 : Nat)) (.tmp (19 : Nat)), none⟩,
  ⟨(some 21), .load 5 (.tmp (20 : Nat)), none⟩,
  ⟨(some 22), .move (.tmp (1 : Nat)), none⟩,
  ⟨(some 23), .binOp .rem 3 (.tmp (22 : Nat)) (.const (.int .i64 8)) 3, none⟩,
  ⟨(some 24), .binOp .shr 5 (.const (.int .u8 128)) (.tmp (23 : Nat)) 3, none⟩,
  ⟨(some 25), .binOp .or 5 (.tmp (21 : Nat)) (.tmp (24 : Nat)) 5, none⟩,
  ⟨(some 26), .indexAddr 26 (.tmp (9 : Nat)) (.tmp (19 : Nat)), none⟩,
  ⟨none, .store 5 (.tmp (26 : Nat)) (.tmp (25 : Nat)), none⟩]
def bitmap_Mark_a0 : List (List Nat) := [[], [0], [1], [2], [], [], [5], [6], [7], [8], [4, 9], [], [11], [10, 12], [3, 13], [14], [], [16], [17], [15, 18], [3, 13, 0, 1, 2, 3, 4, 5, 6, 7, 8, 9, 10, 11, 12, 13, 14, 15, 16, 17, 18, 19], [20, 19, 9, 0, 1, 2, 3, 4, 5, 6, 7, 8, 9, 10, 11, 12, 13, 14, 15, 16, 17, 18, 19]]
def bitmap_Mark_c : SF := ⟨27, (.regd bitmap_Mark_r0 bitmap_Mark_a0), []⟩
theorem bitmap_Mark_s : slimF Try.prog 68 = some bitmap_Mark_c := by kernel_rfl
abbrev bitmap_Mark_f : Nat := 68
/-- printworks/bitmap.Grown -/
def bitmap_Grown_r0 : List SO := [⟨(some 4), .alloc 28, none⟩]
def bitmap_Grown_r1 : List SO := [⟨(some 7), .move (.tmp (0 : Nat)), none⟩,
  ⟨(some 8), .nilCheck (.tmp (7 : Nat)), none⟩,
  ⟨(some 9), .load 28 (.tmp (8 : Nat)), none⟩,
  ⟨(some 5), .alloc 28, none⟩,
  ⟨none, .store 28 (.tmp (5 : Nat)) (.tmp (9 : Nat)), none⟩]
def bitmap_Grown_r2 : List SO := [⟨(some 10), .move (.tmp (0 : Nat)), none⟩,
  ⟨(some 11), .nilCheck (.tmp (10 : Nat)), none⟩,
  ⟨(some 12), .fieldAddr 28 (.tmp (11 : Nat)) 2, none⟩,
  ⟨(some 13), .load 26 (.tmp (12 : Nat)), none⟩,
  ⟨(some 14), .call ⟨(.builtin .append), #[(.const (.slice none 0 0)), (.tmp (13 : Nat))], #[26, 26]⟩, none⟩,
  ⟨(some 15), .fieldAddr 28 (.tmp (5 : Nat)) 2, none⟩,
  ⟨none, .store 26 (.tmp (15 : Nat)) (.tmp (14 : Nat)), none⟩]
def bitmap_Grown_r3 : List SO := [⟨(some 16), .move (.tmp (1 : Nat)), none⟩,
  ⟨(some 17), .move (.const (.int .i64 0)), none⟩]
def bitmap_Grown_r4 : List SO := [⟨(some 18), .binOp .lss 3 (.tmp (17 : Nat)) (.tmp (16 : Nat)) 3, none⟩]
def bitmap_Grown_r5 : List SO := [⟨(some 19), .load 28 (.tmp (5 : Nat)), none⟩,
  ⟨(some 6), .alloc 28, none⟩,
  ⟨none, .store 28 (.tmp (6 : Nat)) (.tmp (19 : Nat)), none⟩]
def bitmap_Grown_r6 : List SO := [⟨(some 20), .fieldAddr 28 (.tmp (6 : Nat)) 0, none⟩,
  ⟨(some 21), .load 3 (.tmp (20 : Nat)), none⟩,
  ⟨(some 22), .fieldAddr 28 (.tmp (6 : Nat)) 1, none⟩,
  ⟨(some 23), .load 3 (.tmp (22 : Nat)), none⟩,
  ⟨(some 24), .makeFunc (.func (86 : Nat)) #[] #[(.tmp (6 : Nat))], none⟩,
  ⟨(some 25), .call ⟨(.value (.func (77 : Nat))), #[(.tmp (21 : Nat)), (.tmp (23 : Nat)), (.tmp (24 : Nat))], #[3, 3, 123]⟩, none⟩,
  ⟨none, .store 28 (.tmp (5 : Nat)) (.tmp (25 : Nat)), none⟩]
def bitmap_Grown_r7 : List SO := [⟨(some 26), .binOp .add 3 (.tmp (17 : Nat)) (.const (.int .i64 1)) 3, none⟩,
  ⟨(some 17), .move (.tmp (26 : Nat)), none⟩]
def bitmap_Grown_r8 : List SO := [⟨(some 27), .load 28 (.tmp (5 : Nat)), none⟩,
  ⟨none, .store 28 (.tmp (4 : Nat)) (.tmp (27 : Nat)), none⟩]
def bitmap_Grown_c : SF := ⟨28, (.seq (.reg bitmap_Grown_r0)
  (.seq (.reg bitmap_Grown_r1)
  (.seq (.reg bitmap_Grown_r2)
  (.seq (.seq (.reg bitmap_Grown_r3)
  (.block 0 (.loop (.seq (.reg bitmap_Grown_r4)
  (.seq (.cond (.tmp (18 : Nat)) .skip (.exit 0))
  (.seq (.block 1 (.seq (.reg bitmap_Grown_r5)
  (.reg bitmap_Grown_r6)))
  (.reg bitmap_Grown_r7)))))))
  (.seq (.reg bitmap_Grown_r8)
  .ret))))), [.cell 4 28]⟩
theorem bitmap_Grown_s : slimF Try.prog 69 = some bitmap_Grown_c := by kernel_rfl
abbrev bitmap_Grown_f : Nat := 69
/-- printworks/bitmap.merge -/
def bitmap_merge_r0 : List SO := [⟨(some 3), .box 28 (.tmp (0 : Nat)), none⟩,
  ⟨(some 4), .box 28 (.tmp (1 : Nat)), none⟩,
  ⟨(some 6), .alloc 28, none⟩,
  ⟨(some 7), .assign (.const (.int .i64 0)), none⟩]
def bitmap_merge_r1 : List SO := [⟨(some 13), .load 28 (.tmp (3 : Nat)), none⟩,
  ⟨(some 14), .call ⟨(.value (.func (22 : Nat))), #[(.tmp (13 : Nat))], #[28]⟩, none⟩,
  ⟨(some 8), .assign (.tmp (14 : Nat)), none⟩]
def bitmap_merge_r2 : List SO := [⟨(some 15), .move (.tmp (8 : Nat)), none⟩,
  ⟨(some 16), .binOp .neq 32 (.tmp (15 : Nat)) (.const (.int .i64 0)) 32, none⟩]
def bitmap_merge_r3 : List SO := [⟨(some 17), .build 28 #[], none⟩,
  ⟨(some 18), .move (.tmp (8 : Nat)), none⟩,
  ⟨none, .store 28 (.tmp (6 : Nat)) (.tmp (17 : Nat)), none⟩,
  ⟨(some 7), .assign (.tmp (18 : Nat)), none⟩]
def bitmap_merge_r4 : List SO := [⟨(some 19), .load 28 (.tmp (4 : Nat)), none⟩,
  ⟨(some 20), .call ⟨(.value (.func (22 : Nat))), #[(.tmp (19 : Nat))], #[28]⟩, none⟩,
  ⟨(some 9), .assign (.tmp (20 : Nat)), none⟩]
def bitmap_merge_r5 : List SO := [⟨(some 21), .move (.tmp (9 : Nat)), none⟩,
  ⟨(some 22), .binOp .neq 32 (.tmp (21 : Nat)) (.const (.int .i64 0)) 32, none⟩]
def bitmap_merge_r6 : List SO := [⟨(some 23), .build 28 #[], none⟩,
  ⟨(some 24), .move (.tmp (9 : Nat)), none⟩,
  ⟨none, .store 28 (.tmp (6 : Nat)) (.tmp (23 : Nat)), none⟩,
  ⟨(some 7), .assign (.tmp (24 : Nat)), none⟩]
def bitmap_merge_r7 : List SO := [⟨(some 25), .fieldAddr 28 (.tmp (3 : Nat)) 0, none⟩,
  ⟨(some 26), .load 3 (.tmp (25 : Nat)), none⟩,
  ⟨(some 27), .fieldAddr 28 (.tmp (4 : Nat)) 0, none⟩,
  ⟨(some 28), .load 3 (.tmp (27 : Nat)), none⟩,
  ⟨(some 29), .binOp .neq 3 (.tmp (26 : Nat)) (.tmp (28 : Nat)) 3, none⟩,
  ⟨(some 30), .move (.tmp (29 : Nat)), none⟩,
  ⟨(some 31), .fieldAddr 28 (.tmp (3 : Nat)) 1, (some (30, false))⟩,
  ⟨(some 32), .load 3 (.tmp (31 : Nat)), (some (30, false))⟩,
  ⟨(some 33), .fieldAddr 28 (.tmp (4 : Nat)) 1, (some (30, false))⟩,
  ⟨(some 34), .load 3 (.tmp (33 : Nat)), (some (30, false))⟩,
  ⟨(some 35), .binOp .neq 3 (.tmp (32 : Nat)) (.tmp (34 : Nat)) 3, (some (30, false))⟩,
  ⟨(some 36), .pick (.tmp (30 : Nat)) (.const (.bool true)) (.tmp (35 : Nat)), none⟩]
def bitmap_merge_r8 : List SO := [⟨(some 37), .build 28 #[], none⟩,
  ⟨none, .store 28 (.tmp (6 : Nat)) (.tmp (37 : Nat)), none⟩,
  ⟨(some 7), .assign (.const (.int .i64 4)), none⟩]
def bitmap_merge_r9 : List SO := [⟨(some 38), .fieldAddr 28 (.tmp (3 : Nat)) 0, none⟩,
  ⟨(some 39), .load 3 (.tmp (38 : Nat)), none⟩,
  ⟨(some 40), .fieldAddr 28 (.tmp (3 : Nat)) 1, none⟩,
  ⟨(some 41), .load 3 (.tmp (40 : Nat)), none⟩,
  ⟨(some 42), .call ⟨(.value (.func (67 : Nat))), #[(.tmp (39 : Nat)), (.tmp (41 : Nat))], #[3, 3]⟩, none⟩,
  ⟨(some 10), .alloc 28, none⟩,
  ⟨none, .store 28 (.tmp (10 : Nat)) (.tmp (42 : Nat)), none⟩]
def bitmap_merge_r10 : List SO := [⟨(some 43), .fieldAddr 28 (.tmp (3 : Nat)) 2, none⟩,
  ⟨(some 44), .load 26 (.tmp (43 : Nat)), none⟩,
  ⟨(some 45), .call ⟨(.builtin .len), #[(.tmp (44 : Nat))], #[26]⟩, none⟩,
  ⟨(some 46), .move (.const (.int .i64 0)), none⟩]
def bitmap_merge_r11 : List SO := [⟨(some 47), .binOp .lss 3 (.tmp (46 : Nat)) (.tmp (45 : Nat)) 3, none⟩]
def bitmap_merge_r12 : List SO := [⟨(some 48), .move (.tmp (46 : Nat)), none⟩,
  ⟨(some 49), .indexAddr 26 (.tmp (44 : Nat)) (.tmp (46 : Nat)), none⟩,
  ⟨(some 50), .load 5 (.tmp (49 : Nat)), none⟩,
  ⟨(some 11), .assign (.tmp (48 : Nat)), none⟩,
  ⟨(some 12), .assign (.tmp (50 : Nat)), none⟩]
def bitmap_merge_r13 : List SO := [⟨(some 51), .fieldAddr 28 (.tmp (10 : Nat)) 2, none⟩,
  ⟨(some 52), .load 26 (.tmp (51 : Nat)), none⟩,
  ⟨(some 53), .move (.tmp (11 : Nat)), none⟩,
  ⟨(some 54), .move (.tmp (2 : Nat)), none⟩,
  ⟨(some 55), .move (.tmp (12 : Nat)), none⟩,
  ⟨(some 56), .fieldAddr 28 (.tmp (4 : Nat)) 2, none⟩,
  ⟨(some 57), .load 26 (.tmp (56 : Nat)), none⟩,
  ⟨(some 58), .move (.tmp (11 : Nat)), none⟩,
  ⟨(some 59), .indexAddr 26 (.tmp (57 : Nat)) (.tmp (58 : Nat)), none⟩,
  ⟨(some 60), .load 5 (.tmp (59 : Nat)), none⟩,
  ⟨(some 61), .call ⟨(.value (.tmp (54 : Nat))), #[(.tmp (55 : Nat)), (.tmp (60 : Nat))], #[5, 5]⟩, none⟩,
  ⟨(some 62), .indexAddr 26 (.tmp (52 : Nat)) (.tmp (53 : Nat)), none⟩,
  ⟨none, .store 5 (.tmp (62 : Nat)) (.tmp (61 : Nat)), none⟩]
def bitmap_merge_a13 : List (List Nat) := [[], [0], [], [], [], [], [5], [], [6, 7], [8], [3, 4, 9], [1, 2, 0, 1, 2, 3, 4, 5, 6, 7, 8, 9, 10], [11, 10, 10, 0, 1, 2, 3, 4, 5, 6, 7, 8, 9, 10]]
def bitmap_merge_r14 : List SO := [⟨(some 63), .binOp .add 3 (.tmp (46 : Nat)) (.const (.int .i64 1)) 3, none⟩,
  ⟨(some 46), .move (.tmp (63 : Nat)), none⟩]
def bitmap_merge_r15 : List SO := [⟨(some 64), .load 28 (.tmp (10 : Nat)), none⟩,
  ⟨none, .store 28 (.tmp (6 : Nat)) (.tmp (64 : Nat)), none⟩,
  ⟨(some 7), .assign (.const (.int .i64 0)), none⟩]
def bitmap_merge_c : SF := ⟨65, (.seq (.reg bitmap_merge_r0)
  (.seq (.seq (.reg bitmap_merge_r1)
  (.seq (.reg bitmap_merge_r2)
  (.cond (.tmp (16 : Nat)) (.seq (.reg bitmap_merge_r3)
  .ret) .skip)))
  (.seq (.seq (.reg bitmap_merge_r4)
  (.seq (.reg bitmap_merge_r5)
  (.cond (.tmp (22 : Nat)) (.seq (.reg bitmap_merge_r6)
  .ret) .skip)))
  (.seq (.seq (.reg bitmap_merge_r7)
  (.cond (.tmp (36 : Nat)) (.seq (.reg bitmap_merge_r8)
  .ret) .skip))
  (.seq (.reg bitmap_merge_r9)
  (.seq (.seq (.reg bitmap_merge_r10)
  (.block 0 (.loop (.seq (.reg bitmap_merge_r11)
  (.seq (.cond (.tmp (47 : Nat)) .skip (.exit 0))
  (.seq (.block 1 (.seq (.reg bitmap_merge_r12)
  (.regd bitmap_merge_r13 bitmap_merge_a13)))
  (.reg bitmap_merge_r14)))))))
  (.seq (.reg bitmap_merge_r15)
  .ret))))))), [.cell 6 28, .tmp 7]⟩
theorem bitmap_merge_s : slimF Try.prog 70 = some bitmap_merge_c := by kernel_rfl
/-- printworks/bitmap.Or$1 -/
def bitmap_Or_1_r0 : List SO := [⟨(some 4), .assign (.const (.int .u8 0)), none⟩]
def bitmap_Or_1_r1 : List SO := [⟨(some 5), .move (.tmp (0 : Nat)), none⟩,
  ⟨(some 6), .move (.tmp (1 : Nat)), none⟩,
  ⟨(some 7), .binOp .or 5 (.tmp (5 : Nat)) (.tmp (6 : Nat)) 5, none⟩,
  ⟨(some 4), .assign (.tmp (7 : Nat)), none⟩]
def bitmap_Or_1_c : SF := ⟨8, (.seq (.reg bitmap_Or_1_r0)
  (.seq (.reg bitmap_Or_1_r1)
  .ret)), [.tmp 4]⟩
theorem bitmap_Or_1_s : slimF Try.prog 71 = some bitmap_Or_1_c := by kernel_rfl
/-- printworks/bitmap.And$1 -/
def bitmap_And_1_r0 : List SO := [⟨(some 4), .assign (.const (.int .u8 0)), none⟩]
def bitmap_And_1_r1 : List SO := [⟨(some 5), .move (.tmp (0 : Nat)), none⟩,
  ⟨(some 6), .move (.tmp (1 : Nat)), none⟩,
  ⟨(some 7), .binOp .and 5 (.tmp (5 : Nat)) (.tmp (6 : Nat)) 5, none⟩,
  ⟨(some 4), .assign (.tmp (7 : Nat)), none⟩]
def bitmap_And_1_c : SF := ⟨8, (.seq (.reg bitmap_And_1_r0)
  (.seq (.reg bitmap_And_1_r1)
  .ret)), [.tmp 4]⟩
theorem bitmap_And_1_s : slimF Try.prog 72 = some bitmap_And_1_c := by kernel_rfl
/-- printworks/bitmap.Minus$1 -/
def bitmap_Minus_1_r0 : List SO := [⟨(some 4), .assign (.const (.int .u8 0)), none⟩]
def bitmap_Minus_1_r1 : List SO := [⟨(some 5), .move (.tmp (0 : Nat)), none⟩,
  ⟨(some 6), .move (.tmp (1 : Nat)), none⟩,
  ⟨(some 7), .binOp .andNot 5 (.tmp (5 : Nat)) (.tmp (6 : Nat)) 5, none⟩,
  ⟨(some 4), .assign (.tmp (7 : Nat)), none⟩]
def bitmap_Minus_1_c : SF := ⟨8, (.seq (.reg bitmap_Minus_1_r0)
  (.seq (.reg bitmap_Minus_1_r1)
  .ret)), [.tmp 4]⟩
theorem bitmap_Minus_1_s : slimF Try.prog 73 = some bitmap_Minus_1_c := by kernel_rfl
/-- printworks/bitmap.FromPlate$1 -/
def bitmap_FromPlate_1_r0 : List SO := [⟨(some 6), .assign (.const (.bool false)), none⟩]
def bitmap_FromPlate_1_r1 : List SO := [⟨(some 7), .fieldAddr 80 (.tmp (2 : Nat)) 2, none⟩,
  ⟨(some 8), .load 26 (.tmp (7 : Nat)), none⟩,
  ⟨(some 9), .move (.tmp (1 : Nat)), none⟩,
  ⟨(some 10), .fieldAddr 80 (.tmp (2 : Nat)) 0, none⟩,
  ⟨(some 11), .load 3 (.tmp (10 : Nat)), none⟩,
  ⟨(some 12), .binOp .mul 3 (.tmp (9 : Nat)) (.tmp (11 : Nat)) 3, none⟩,
  ⟨(some 13), .move (.tmp (0 : Nat)), none⟩,
  ⟨(some 14), .binOp .add 3 (.tmp (12 : Nat)) (.tmp (13 : Nat)) 3, none⟩,
  ⟨(some 15), .indexAddr 26 (.tmp (8 : Nat)) (.tmp (14 : Nat)), none⟩,
  ⟨(some 16), .load 5 (.tmp (15 : Nat)), none⟩,
  ⟨(some 17), .convert 5 3 (.tmp (16 : Nat)), none⟩,
  ⟨(some 18), .load 3 (.tmp (3 : Nat)), none⟩,
  ⟨(some 19), .binOp .geq 3 (.tmp (17 : Nat)) (.tmp (18 : Nat)) 3, none⟩,
  ⟨(some 6), .assign (.tmp (19 : Nat)), none⟩]
def bitmap_FromPlate_1_a1 : List (List Nat) := [[], [0], [], [], [3], [2, 4], [], [5, 6], [1, 7], [8], [9], [], [10, 11], [12, 0, 1, 2, 3, 4, 5, 6, 7, 8, 9, 10, 11, 12]]
def bitmap_FromPlate_1_c : SF := ⟨20, (.seq (.reg bitmap_FromPlate_1_r0)
  (.seq (.regd bitmap_FromPlate_1_r1 bitmap_FromPlate_1_a1)
  .ret)), [.tmp 6]⟩
theorem bitmap_FromPlate_1_s : slimF Try.prog 78 = some bitmap_FromPlate_1_c := by kernel_rfl
/-- printworks/bitmap.from -/
def bitmap_from_r0 : List SO := [⟨(some 6), .alloc 28, none⟩]
def bitmap_from_r1 : List SO := [⟨(some 10), .move (.tmp (0 : Nat)), none⟩,
  ⟨(some 11), .move (.tmp (1 : Nat)), none⟩,
  ⟨(some 12), .call ⟨(.value (.func (67 : Nat))), #[(.tmp (10 : Nat)), (.tmp (11 : Nat))], #[3, 3]⟩, none⟩,
  ⟨(some 7), .alloc 28, none⟩,
  ⟨none, .store 28 (.tmp (7 : Nat)) (.tmp (12 : Nat)), none⟩]
def bitmap_from_r2 : List SO := [⟨(some 13), .move (.tmp (1 : Nat)), none⟩,
  ⟨(some 14), .move (.const (.int .i64 0)), none⟩]
def bitmap_from_r3 : List SO := [⟨(some 15), .binOp .lss 3 (.tmp (14 : Nat)) (.tmp (13 : Nat)) 3, none⟩]
def bitmap_from_r4 : List SO := [⟨(some 16), .move (.tmp (14 : Nat)), none⟩,
  ⟨(some 8), .assign (.tmp (16 : Nat)), none⟩]
def bitmap_from_r5 : List SO := [⟨(some 17), .move (.tmp (0 : Nat)), none⟩,
  ⟨(some 18), .move (.const (.int .i64 0)), none⟩]
def bitmap_from_r6 : List SO := [⟨(some 19), .binOp .lss 3 (.tmp (18 : Nat)) (.tmp (17 : Nat)) 3, none⟩]
def bitmap_from_r7 : List SO := [⟨(some 20), .move (.tmp (18 : Nat)), none⟩,
  ⟨(some 9), .assign (.tmp (20 : Nat)), none⟩]
def bitmap_from_r8 : List SO := [⟨(some 21), .move (.tmp (2 : Nat)), none⟩,
  ⟨(some 22), .move (.tmp (9 : Nat)), none⟩,
  ⟨(some 23), .move (.tmp (8 : Nat)), none⟩,
  ⟨(some 24), .call ⟨(.value (.tmp (21 : Nat))), #[(.tmp (22 : Nat)), (.tmp (23 : Nat))], #[3, 3]⟩, none⟩]
def bitmap_from_r9 : List SO := [⟨(some 25), .move (.tmp (9 : Nat)), none⟩,
  ⟨(some 26), .move (.tmp (8 : Nat)), none⟩,
  ⟨(some 27), .call ⟨(.value (.func (68 : Nat))), #[(.tmp (7 : Nat)), (.tmp (25 : Nat)), (.tmp (26 : Nat))], #[97, 3, 3]⟩, none⟩]
def bitmap_from_r10 : List SO := [⟨(some 28), .binOp .add 3 (.tmp (18 : Nat)) (.const (.int .i64 1)) 3, none⟩,
  ⟨(some 18), .move (.tmp (28 : Nat)), none⟩]
def bitmap_from_r11 : List SO := [⟨(some 29), .binOp .add 3 (.tmp (14 : Nat)) (.const (.int .i64 1)) 3, none⟩,
  ⟨(some 14), .move (.tmp (29 : Nat)), none⟩]
def bitmap_from_r12 : List SO := [⟨(some 30), .load 28 (.tmp (7 : Nat)), none⟩,
  ⟨none, .store 28 (.tmp (6 : Nat)) (.tmp (30 : Nat)), none⟩]
def bitmap_from_c : SF := ⟨31, (.seq (.reg bitmap_from_r0)
  (.seq (.reg bitmap_from_r1)
  (.seq (.seq (.reg bitmap_from_r2)
  (.block 0 (.loop (.seq (.reg bitmap_from_r3)
  (.seq (.cond (.tmp (15 : Nat)) .skip (.exit 0))
  (.seq (.block 1 (.seq (.reg bitmap_from_r4)
  (.seq (.reg bitmap_from_r5)
  (.block 2 (.loop (.seq (.reg bitmap_from_r6)
  (.seq (.cond (.tmp (19 : Nat)) .skip (.exit 2))
  (.seq (.block 3 (.seq (.reg bitmap_from_r7)
  (.seq (.reg bitmap_from_r8)
  (.cond (.tmp (24 : Nat)) (.reg bitmap_from_r9) .skip))))
  (.reg bitmap_from_r10)))))))))
  (.reg bitmap_from_r11)))))))
  (.seq (.reg bitmap_from_r12)
  .ret)))), [.cell 6 28]⟩
theorem bitmap_from_s : slimF Try.prog 77 = some bitmap_from_c := by kernel_rfl
/-- printworks/bitmap.Turned$1 -/
def bitmap_Turned_1_r0 : List SO := [⟨(some 5), .assign (.const (.bool false)), none⟩]
def bitmap_Turned_1_r1 : List SO := [⟨(some 6), .load 97 (.tmp (2 : Nat)), none⟩,
  ⟨(some 7), .load 97 (.tmp (2 : Nat)), none⟩,
  ⟨(some 8), .nilCheck (.tmp (7 : Nat)), none⟩,
  ⟨(some 9), .fieldAddr 28 (.tmp (8 : Nat)) 0, none⟩,
  ⟨(some 10), .load 3 (.tmp (9 : Nat)), none⟩,
  ⟨(some 11), .binOp .sub 3 (.tmp (10 : Nat)) (.const (.int .i64 1)) 3, none⟩,
  ⟨(some 12), .move (.tmp (0 : Nat)), none⟩,
  ⟨(some 13), .binOp .sub 3 (.tmp (11 : Nat)) (.tmp (12 : Nat)) 3, none⟩,
  ⟨(some 14), .move (.tmp (1 : Nat)), none⟩,
  ⟨(some 15), .call ⟨(.value (.func (52 : Nat))), #[(.tmp (6 : Nat)), (.tmp (13 : Nat)), (.tmp (14 : Nat))], #[97, 3, 3]⟩, none⟩,
  ⟨(some 5), .assign (.tmp (15 : Nat)), none⟩]
def bitmap_Turned_1_a1 : List (List Nat) := [[], [], [1], [2], [3], [4], [], [5, 6], [], [0, 7, 8], [9, 9, 0, 1, 2, 3, 4, 5, 6, 7, 8, 9]]
def bitmap_Turned_1_c : SF := ⟨16, (.seq (.reg bitmap_Turned_1_r0)
  (.seq (.regd bitmap_Turned_1_r1 bitmap_Turned_1_a1)
  .ret)), [.tmp 5]⟩
theorem bitmap_Turned_1_s : slimF Try.prog 81 = some bitmap_Turned_1_c := by kernel_rfl
/-- printworks/bitmap.Turned$2 -/
def bitmap_Turned_2_r0 : List SO := [⟨(some 5), .assign (.const (.bool false)), none⟩]
def bitmap_Turned_2_r1 : List SO := [⟨(some 6), .move (.tmp (1 : Nat)), none⟩,
  ⟨(some 7), .fieldAddr 28 (.tmp (2 : Nat)) 1, none⟩,
  ⟨(some 8), .load 3 (.tmp (7 : Nat)), none⟩,
  ⟨(some 9), .binOp .sub 3 (.tmp (8 : Nat)) (.const (.int .i64 1)) 3, none⟩,
  ⟨(some 10), .move (.tmp (0 : Nat)), none⟩,
  ⟨(some 11), .binOp .sub 3 (.tmp (9 : Nat)) (.tmp (10 : Nat)) 3, none⟩,
  ⟨(some 12), .call ⟨(.value (.func (52 : Nat))), #[(.tmp (2 : Nat)), (.tmp (6 : Nat)), (.tmp (11 : Nat))], #[97, 3, 3]⟩, none⟩,
  ⟨(some 5), .assign (.tmp (12 : Nat)), none⟩]
def bitmap_Turned_2_c : SF := ⟨13, (.seq (.reg bitmap_Turned_2_r0)
  (.seq (.reg bitmap_Turned_2_r1)
  .ret)), [.tmp 5]⟩
theorem bitmap_Turned_2_s : slimF Try.prog 82 = some bitmap_Turned_2_c := by kernel_rfl
/-- printworks/bitmap.Row$1 -/
def bitmap_Row_1_r0 : List SO := [⟨(some 4), .assign (.const (.int .i64 0)), none⟩]
def bitmap_Row_1_r1 : List SO := [⟨(some 6), .move (.tmp (4 : Nat)), none⟩,
  ⟨(some 7), .load 97 (.tmp (1 : Nat)), none⟩,
  ⟨(some 8), .nilCheck (.tmp (7 : Nat)), none⟩,
  ⟨(some 9), .fieldAddr 28 (.tmp (8 : Nat)) 0, none⟩,
  ⟨(some 10), .load 3 (.tmp (9 : Nat)), none⟩,
  ⟨(some 11), .binOp .lss 3 (.tmp (6 : Nat)) (.tmp (10 : Nat)) 3, none⟩]
def bitmap_Row_1_r2 : List SO := [⟨(some 12), .load 97 (.tmp (1 : Nat)), none⟩,
  ⟨(some 13), .move (.tmp (4 : Nat)), none⟩,
  ⟨(some 14), .load 3 (.tmp (2 : Nat)), none⟩,
  ⟨(some 15), .call ⟨(.value (.func (52 : Nat))), #[(.tmp (12 : Nat)), (.tmp (13 : Nat)), (.tmp (14 : Nat))], #[97, 3, 3]⟩, none⟩,
  ⟨(some 16), .unOp .not 4 (.tmp (15 : Nat)), none⟩]
def bitmap_Row_1_r3 : List SO := [⟨(some 17), .move (.tmp (4 : Nat)), none⟩,
  ⟨(some 18), .binOp .add 3 (.tmp (17 : Nat)) (.const (.int .i64 1)) 3, none⟩,
  ⟨(some 4), .assign (.tmp (18 : Nat)), none⟩]
def bitmap_Row_1_r4 : List SO := [⟨(some 19), .move (.tmp (4 : Nat)), none⟩,
  ⟨(some 5), .assign (.tmp (19 : Nat)), none⟩]
def bitmap_Row_1_r5 : List SO := [⟨(some 20), .move (.tmp (4 : Nat)), none⟩,
  ⟨(some 21), .load 97 (.tmp (1 : Nat)), none⟩,
  ⟨(some 22), .nilCheck (.tmp (21 : Nat)), none⟩,
  ⟨(some 23), .fieldAddr 28 (.tmp (22 : Nat)) 0, none⟩,
  ⟨(some 24), .load 3 (.tmp (23 : Nat)), none⟩,
  ⟨(some 25), .binOp .lss 3 (.tmp (20 : Nat)) (.tmp (24 : Nat)) 3, none⟩,
  ⟨(some 26), .move (.tmp (25 : Nat)), none⟩,
  ⟨(some 27), .load 97 (.tmp (1 : Nat)), (some (26, true))⟩,
  ⟨(some 28), .move (.tmp (4 : Nat)), (some (26, true))⟩,
  ⟨(some 29), .load 3 (.tmp (2 : Nat)), (some (26, true))⟩,
  ⟨(some 30), .call ⟨(.value (.func (52 : Nat))), #[(.tmp (27 : Nat)), (.tmp (28 : Nat)), (.tmp (29 : Nat))], #[97, 3, 3]⟩, (some (26, true))⟩,
  ⟨(some 31), .pick (.tmp (26 : Nat)) (.tmp (30 : Nat)) (.const (.bool false)), none⟩]
def bitmap_Row_1_r6 : List SO := [⟨(some 32), .move (.tmp (4 : Nat)), none⟩,
  ⟨(some 33), .binOp .add 3 (.tmp (32 : Nat)) (.const (.int .i64 1)) 3, none⟩,
  ⟨(some 4), .assign (.tmp (33 : Nat)), none⟩]
def bitmap_Row_1_r7 : List SO := [⟨(some 34), .move (.tmp (0 : Nat)), none⟩,
  ⟨(some 35), .load 3 (.tmp (2 : Nat)), none⟩,
  ⟨(some 36), .move (.tmp (5 : Nat)), none⟩,
  ⟨(some 37), .move (.tmp (4 : Nat)), none⟩,
  ⟨(some 38), .build 66 #[(0, (.tmp (35 : Nat))), (1, (.tmp (36 : Nat))), (2, (.tmp (37 : Nat)))], none⟩,
  ⟨(some 39), .call ⟨(.value (.tmp (34 : Nat))), #[(.tmp (38 : Nat))], #[66]⟩, none⟩,
  ⟨(some 40), .unOp .not 4 (.tmp (39 : Nat)), none⟩]
def bitmap_Row_1_c : SF := ⟨41, (.seq (.reg bitmap_Row_1_r0)
  (.block 0 (.loop (.seq (.seq (.reg bitmap_Row_1_r1)
  (.cond (.tmp (11 : Nat)) .skip (.exit 0)))
  (.block 1 (.seq (.seq (.reg bitmap_Row_1_r2)
  (.cond (.tmp (16 : Nat)) (.seq (.reg bitmap_Row_1_r3)
  (.exit 1)) .skip))
  (.seq (.reg bitmap_Row_1_r4)
  (.seq (.block 2 (.loop (.seq (.seq (.reg bitmap_Row_1_r5)
  (.cond (.tmp (31 : Nat)) .skip (.exit 2)))
  (.block 3 (.reg bitmap_Row_1_r6)))))
  (.seq (.reg bitmap_Row_1_r7)
  (.cond (.tmp (40 : Nat)) .ret .skip)))))))))), []⟩
theorem bitmap_Row_1_s : slimF Try.prog 85 = some bitmap_Row_1_c := by kernel_rfl
abbrev bitmap_Row_1_f : Nat := 85
/-- printworks/bitmap.Grown$1 -/
def bitmap_Grown_1_r0 : List SO := [⟨(some 5), .assign (.const (.bool false)), none⟩]
def bitmap_Grown_1_r1 : List SO := [⟨(some 6), .move (.tmp (0 : Nat)), none⟩,
  ⟨(some 7), .move (.tmp (1 : Nat)), none⟩,
  ⟨(some 8), .call ⟨(.value (.func (52 : Nat))), #[(.tmp (2 : Nat)), (.tmp (6 : Nat)), (.tmp (7 : Nat))], #[97, 3, 3]⟩, none⟩,
  ⟨(some 9), .move (.tmp (8 : Nat)), none⟩,
  ⟨(some 10), .move (.tmp (0 : Nat)), (some (9, false))⟩,
  ⟨(some 11), .binOp .sub 3 (.tmp (10 : Nat)) (.const (.int .i64 1)) 3, (some (9, false))⟩,
  ⟨(some 12), .move (.tmp (1 : Nat)), (some (9, false))⟩,
  ⟨(some 13), .call ⟨(.value (.func (52 : Nat))), #[(.tmp (2 : Nat)), (.tmp (11 : Nat)), (.tmp (12 : Nat))], #[97, 3, 3]⟩, (some (9, false))⟩,
  ⟨(some 14), .pick (.tmp (9 : Nat)) (.const (.bool true)) (.tmp (13 : Nat)), none⟩,
  ⟨(some 15), .move (.tmp (14 : Nat)), none⟩,
  ⟨(some 16), .move (.tmp (0 : Nat)), (some (15, false))⟩,
  ⟨(some 17), .binOp .add 3 (.tmp (16 : Nat)) (.const (.int .i64 1)) 3, (some (15, false))⟩,
  ⟨(some 18), .move (.tmp (1 : Nat)), (some (15, false))⟩,
  ⟨(some 19), .call ⟨(.value (.func (52 : Nat))), #[(.tmp (2 : Nat)), (.tmp (17 : Nat)), (.tmp (18 : Nat))], #[97, 3, 3]⟩, (some (15, false))⟩,
  ⟨(some 20), .pick (.tmp (15 : Nat)) (.const (.bool true)) (.tmp (19 : Nat)), none⟩,
  ⟨(some 21), .move (.tmp (20 : Nat)), none⟩,
  ⟨(some 22), .move (.tmp (0 : Nat)), (some (21, false))⟩,
  ⟨(some 23), .move (.tmp (1 : Nat)), (some (21, false))⟩,
  ⟨(some 24), .binOp .sub 3 (.tmp (23 : Nat)) (.const (.int .i64 1)) 3, (some (21, false))⟩,
  ⟨(some 25), .call ⟨(.value (.func (52 : Nat))), #[(.tmp (2 : Nat)), (.tmp (22 : Nat)), (.tmp (24 : Nat))], #[97, 3, 3]⟩, (some (21, false))⟩,
  ⟨(some 26), .pick (.tmp (21 : Nat)) (.const (.bool true)) (.tmp (25 : Nat)), none⟩,
  ⟨(some 27), .move (.tmp (26 : Nat)), none⟩,
  ⟨(some 28), .move (.tmp (0 : Nat)), (some (27, false))⟩,
  ⟨(some 29), .move (.tmp (1 : Nat)), (some (27, false))⟩,
  ⟨(some 30), .binOp .add 3 (.tmp (29 : Nat)) (.const (.int .i64 1)) 3, (some (27, false))⟩,
  ⟨(some 31), .call ⟨(.value (.func (52 : Nat))), #[(.tmp (2 : Nat)), (.tmp (28 : Nat)), (.tmp (30 : Nat))], #[97, 3, 3]⟩, (some (27, false))⟩,
  ⟨(some 32), .pick (.tmp (27 : Nat)) (.const (.bool true)) (.tmp (31 : Nat)), none⟩,
  ⟨(some 5), .assign (.tmp (32 : Nat)), none⟩]
def bitmap_Grown_1_c : SF := ⟨33, (.seq (.reg bitmap_Grown_1_r0)
  (.seq (.reg bitmap_Grown_1_r1)
  .ret)), [.tmp 5]⟩
theorem bitmap_Grown_1_s : slimF Try.prog 86 = some bitmap_Grown_1_c := by kernel_rfl
def tbl_bitmap : List (Nat × SF) := [(21, bitmap_Turn_c), (22, bitmap_Check_c), (33, bitmap_Runs_c), (34, bitmap_Count_c), (35, bitmap_FromRuns_c), (36, bitmap_Spread_c), (37, bitmap_Or_c), (38, bitmap_And_c), (39, bitmap_Minus_c), (45, bitmap_FromPlate_c), (52, bitmap_Is_c), (53, bitmap_Set_c), (55, bitmap_Turned_c), (56, bitmap_stride_c), (65, bitmap_Row_c), (67, bitmap_Blank_c), (68, bitmap_Mark_c), (69, bitmap_Grown_c), (70, bitmap_merge_c), (71, bitmap_Or_1_c), (72, bitmap_And_1_c), (73, bitmap_Minus_1_c), (78, bitmap_FromPlate_1_c), (77, bitmap_from_c), (81, bitmap_Turned_1_c), (82, bitmap_Turned_2_c), (85, bitmap_Row_1_c), (86, bitmap_Grown_1_c)]
theorem tbl_bitmap_ok : okT Try.prog tbl_bitmap := ⟨bitmap_Turn_s, bitmap_Check_s, bitmap_Runs_s, bitmap_Count_s, bitmap_FromRuns_s, bitmap_Spread_s, bitmap_Or_s, bitmap_And_s, bitmap_Minus_s, bitmap_FromPlate_s, bitmap_Is_s, bitmap_Set_s, bitmap_Turned_s, bitmap_stride_s, bitmap_Row_s, bitmap_Blank_s, bitmap_Mark_s, bitmap_Grown_s, bitmap_merge_s, bitmap_Or_1_s, bitmap_And_1_s, bitmap_Minus_1_s, bitmap_FromPlate_1_s, bitmap_from_s, bitmap_Turned_1_s, bitmap_Turned_2_s, bitmap_Row_1_s, bitmap_Grown_1_s, trivial⟩

end Go.Proofs.Ytanhalcbghbpaaa
namespace Go.Proofs.Ytanhalcbghbpaaa
open Go Go.Lite
set_option linter.unusedVariables false

/-- printworks/strip.Locate -/
def strip_Locate_r0 : List SO := [⟨(some 2), .box 28 (.tmp (0 : Nat)), none⟩,
  ⟨(some 4), .alloc 31, none⟩,
  ⟨(some 5), .assign (.const (.int .i64 0)), none⟩]
def strip_Locate_r1 : List SO := [⟨(some 14), .load 28 (.tmp (2 : Nat)), none⟩,
  ⟨(some 15), .call ⟨(.value (.func (22 : Nat))), #[(.tmp (14 : Nat))], #[28]⟩, none⟩,
  ⟨(some 6), .assign (.tmp (15 : Nat)), none⟩]
def strip_Locate_r2 : List SO := [⟨(some 16), .move (.tmp (6 : Nat)), none⟩,
  ⟨(some 17), .binOp .neq 32 (.tmp (16 : Nat)) (.const (.int .i64 0)) 32, none⟩]
def strip_Locate_r3 : List SO := [⟨(some 18), .build 31 #[], none⟩,
  ⟨(some 19), .move (.tmp (6 : Nat)), none⟩,
  ⟨none, .store 31 (.tmp (4 : Nat)) (.tmp (18 : Nat)), none⟩,
  ⟨(some 5), .assign (.tmp (19 : Nat)), none⟩]
def strip_Locate_r4 : List SO := [⟨(some 20), .move (.tmp (1 : Nat)), none⟩,
  ⟨(some 21), .binOp .lss 3 (.tmp (20 : Nat)) (.const (.int .i64 1)) 3, none⟩,
  ⟨(some 22), .move (.tmp (21 : Nat)), none⟩,
  ⟨(some 23), .move (.tmp (1 : Nat)), (some (22, false))⟩,
  ⟨(some 24), .binOp .gtr 3 (.tmp (23 : Nat)) (.const (.int .i64 16)) 3, (some (22, false))⟩,
  ⟨(some 25), .pick (.tmp (22 : Nat)) (.const (.bool true)) (.tmp (24 : Nat)), none⟩]
def strip_Locate_r5 : List SO := [⟨(some 26), .build 31 #[], none⟩,
  ⟨none, .store 31 (.tmp (4 : Nat)) (.tmp (26 : Nat)), none⟩,
  ⟨(some 5), .assign (.const (.int .i64 3)), none⟩]
def strip_Locate_r6 : List SO := [⟨(some 27), .build 31 #[], none⟩,
  ⟨(some 28), .move (.tmp (1 : Nat)), none⟩,
  ⟨(some 29), .binOp .quo 3 (.tmp (28 : Nat)) (.const (.int .i64 2)) 3, none⟩,
  ⟨(some 30), .binOp .add 3 (.tmp (29 : Nat)) (.const (.int .i64 1)) 3, none⟩,
  ⟨(some 7), .alloc 31, none⟩,
  ⟨none, .store 31 (.tmp (7 : Nat)) (.tmp (27 : Nat)), none⟩,
  ⟨(some 8), .assign (.tmp (30 : Nat)), none⟩]
def strip_Locate_r7 : List SO := [⟨(some 31), .move (.tmp (1 : Nat)), none⟩,
  ⟨(some 9), .assign (.tmp (31 : Nat)), none⟩]
def strip_Locate_r8 : List SO := [⟨(some 32), .move (.tmp (9 : Nat)), none⟩,
  ⟨(some 33), .fieldAddr 28 (.tmp (2 : Nat)) 1, none⟩,
  ⟨(some 34), .load 3 (.tmp (33 : Nat)), none⟩,
  ⟨(some 35), .move (.tmp (1 : Nat)), none⟩,
  ⟨(some 36), .binOp .sub 3 (.tmp (34 : Nat)) (.tmp (35 : Nat)) 3, none⟩,
  ⟨(some 37), .binOp .lss 3 (.tmp (32 : Nat)) (.tmp (36 : Nat)) 3, none⟩]
def strip_Locate_r9 : List SO := [⟨(some 40), .move (.tmp (1 : Nat)), none⟩,
  ⟨(some 10), .assign (.tmp (40 : Nat)), none⟩]
def strip_Locate_r10 : List SO := [⟨(some 41), .move (.tmp (10 : Nat)), none⟩,
  ⟨(some 42), .fieldAddr 28 (.tmp (2 : Nat)) 0, none⟩,
  ⟨(some 43), .load 3 (.tmp (42 : Nat)), none⟩,
  ⟨(some 44), .move (.tmp (1 : Nat)), none⟩,
  ⟨(some 45), .binOp .sub 3 (.tmp (43 : Nat)) (.tmp (44 : Nat)) 3, none⟩,
  ⟨(some 46), .binOp .lss 3 (.tmp (41 : Nat)) (.tmp (45 : Nat)) 3, none⟩]
def strip_Locate_r11 : List SO := [⟨(some 11), .assign (.const (.int .i64 0)), none⟩]
def strip_Locate_r12 : List SO := [⟨(some 49), .move (.tmp (1 : Nat)), none⟩,
  ⟨(some 50), .unOp .neg 3 (.tmp (49 : Nat)), none⟩,
  ⟨(some 12), .assign (.tmp (50 : Nat)), none⟩]
def strip_Locate_r13 : List SO := [⟨(some 51), .move (.tmp (12 : Nat)), none⟩,
  ⟨(some 52), .move (.tmp (1 : Nat)), none⟩,
  ⟨(some 53), .binOp .leq 3 (.tmp (51 : Nat)) (.tmp (52 : Nat)) 3, none⟩]
def strip_Locate_r14 : List SO := [⟨(some 56), .move (.tmp (1 : Nat)), none⟩,
  ⟨(some 57), .unOp .neg 3 (.tmp (56 : Nat)), none⟩,
  ⟨(some 13), .assign (.tmp (57 : Nat)), none⟩]
def strip_Locate_r15 : List SO := [⟨(some 58), .move (.tmp (13 : Nat)), none⟩,
  ⟨(some 59), .move (.tmp (1 : Nat)), none⟩,
  ⟨(some 60), .binOp .leq 3 (.tmp (58 : Nat)) (.tmp (59 : Nat)) 3, none⟩]
def strip_Locate_r16 : List SO := [⟨(some 63), .move (.tmp (10 : Nat)), none⟩,
  ⟨(some 64), .move (.tmp (13 : Nat)), none⟩,
  ⟨(some 65), .binOp .add 3 (.tmp (63 : Nat)) (.tmp (64 : Nat)) 3, none⟩,
  ⟨(some 66), .move (.tmp (9 : Nat)), none⟩,
  ⟨(some 67), .move (.tmp (12 : Nat)), none⟩,
  ⟨(some 68), .binOp .add 3 (.tmp (66 : Nat)) (.tmp (67 : Nat)) 3, none⟩,
  ⟨(some 69), .call ⟨(.value (.func (52 : Nat))), #[(.tmp (2 : Nat)), (.tmp (65 : Nat)), (.tmp (68 : Nat))], #[97, 3, 3]⟩, none⟩,
  ⟨(some 70), .move (.tmp (13 : Nat)), none⟩,
  ⟨(some 71), .binOp .eql 3 (.tmp (70 : Nat)) (.const (.int .i64 0)) 3, none⟩,
  ⟨(some 72), .move (.tmp (71 : Nat)), none⟩,
  ⟨(some 73), .move (.tmp (12 : Nat)), (some (72, false))⟩,
  ⟨(some 74), .binOp .eql 3 (.tmp (73 : Nat)) (.const (.int .i64 0)) 3, (some (72, false))⟩,
  ⟨(some 75), .pick (.tmp (72 : Nat)) (.const (.bool true)) (.tmp (74 : Nat)), none⟩,
  ⟨(some 76), .binOp .neq 4 (.tmp (69 : Nat)) (.tmp (75 : Nat)) 4, none⟩]
def strip_Locate_r17 : List SO := [⟨(some 77), .move (.tmp (11 : Nat)), none⟩,
  ⟨(some 78), .binOp .add 3 (.tmp (77 : Nat)) (.const (.int .i64 1)) 3, none⟩,
  ⟨(some 11), .assign (.tmp (78 : Nat)), none⟩]
def strip_Locate_r18 : List SO := [⟨(some 79), .move (.tmp (11 : Nat)), none⟩,
  ⟨(some 80), .move (.tmp (8 : Nat)), none⟩,
  ⟨(some 81), .binOp .geq 3 (.tmp (79 : Nat)) (.tmp (80 : Nat)) 3, none⟩]
def strip_Locate_r19 : List SO := [⟨(some 61), .move (.tmp (13 : Nat)), none⟩,
  ⟨(some 62), .binOp .add 3 (.tmp (61 : Nat)) (.const (.int .i64 1)) 3, none⟩,
  ⟨(some 13), .assign (.tmp (62 : Nat)), none⟩]
def strip_Locate_r20 : List SO := [⟨(some 54), .move (.tmp (12 : Nat)), none⟩,
  ⟨(some 55), .binOp .add 3 (.tmp (54 : Nat)) (.const (.int .i64 1)) 3, none⟩,
  ⟨(some 12), .assign (.tmp (55 : Nat)), none⟩]
def strip_Locate_r21 : List SO := [⟨(some 82), .move (.tmp (10 : Nat)), none⟩,
  ⟨(some 83), .move (.tmp (9 : Nat)), none⟩,
  ⟨(some 84), .build 31 #[(0, (.tmp (82 : Nat))), (1, (.tmp (83 : Nat)))], none⟩,
  ⟨(some 85), .move (.tmp (11 : Nat)), none⟩,
  ⟨none, .store 31 (.tmp (7 : Nat)) (.tmp (84 : Nat)), none⟩,
  ⟨(some 8), .assign (.tmp (85 : Nat)), none⟩]
def strip_Locate_r22 : List SO := [⟨(some 47), .move (.tmp (10 : Nat)), none⟩,
  ⟨(some 48), .binOp .add 3 (.tmp (47 : Nat)) (.const (.int .i64 1)) 3, none⟩,
  ⟨(some 10), .assign (.tmp (48 : Nat)), none⟩]
def strip_Locate_r23 : List SO := [⟨(some 38), .move (.tmp (9 : Nat)), none⟩,
  ⟨(some 39), .binOp .add 3 (.tmp (38 : Nat)) (.const (.int .i64 1)) 3, none⟩,
  ⟨(some 9), .assign (.tmp (39 : Nat)), none⟩]
def strip_Locate_r24 : List SO := [⟨(some 86), .move (.tmp (8 : Nat)), none⟩,
  ⟨(some 87), .move (.tmp (1 : Nat)), none⟩,
  ⟨(some 88), .binOp .quo 3 (.tmp (87 : Nat)) (.const (.int .i64 2)) 3, none⟩,
  ⟨(some 89), .binOp .gtr 3 (.tmp (86 : Nat)) (.tmp (88 : Nat)) 3, none⟩]
def strip_Locate_r25 : List SO := [⟨(some 90), .build 31 #[], none⟩,
  ⟨none, .store 31 (.tmp (4 : Nat)) (.tmp (90 : Nat)), none⟩,
  ⟨(some 5), .assign (.const (.int .i64 21)), none⟩]
def strip_Locate_r26 : List SO := [⟨(some 91), .load 31 (.tmp (7 : Nat)), none⟩,
  ⟨none, .store 31 (.tmp (4 : Nat)) (.tmp (91 : Nat)), none⟩,
  ⟨(some 5), .assign (.const (.int .i64 0)), none⟩]
def strip_Locate_c : SF := ⟨92, (.seq (.reg strip_Locate_r0)
  (.seq (.seq (.reg strip_Locate_r1)
  (.seq (.reg strip_Locate_r2)
  (.cond (.tmp (17 : Nat)) (.seq (.reg strip_Locate_r3)
  .ret) .skip)))
  (.seq (.seq (.reg strip_Locate_r4)
  (.cond (.tmp (25 : Nat)) (.seq (.reg strip_Locate_r5)
  .ret) .skip))
  (.seq (.reg strip_Locate_r6)
  (.seq (.seq (.reg strip_Locate_r7)
  (.block 0 (.loop (.seq (.seq (.reg strip_Locate_r8)
  (.cond (.tmp (37 : Nat)) .skip (.exit 0)))
  (.seq (.block 1 (.scope (.seq .skip
  (.seq (.reg strip_Locate_r9)
  (.block 2 (.loop (.seq (.seq (.reg strip_Locate_r10)
  (.cond (.tmp (46 : Nat)) .skip (.exit 2)))
  (.seq (.block 3 (.seq (.reg strip_Locate_r11)
  (.seq (.seq (.reg strip_Locate_r12)
  (.block 4 (.loop (.seq (.seq (.reg strip_Locate_r13)
  (.cond (.tmp (53 : Nat)) .skip (.exit 4)))
  (.seq (.block 5 (.seq (.reg strip_Locate_r14)
  (.block 6 (.loop (.seq (.seq (.reg strip_Locate_r15)
  (.cond (.tmp (60 : Nat)) .skip (.exit 6)))
  (.seq (.block 7 (.seq (.reg strip_Locate_r16)
  (.cond (.tmp (76 : Nat)) (.seq (.reg strip_Locate_r17)
  (.seq (.reg strip_Locate_r18)
  (.cond (.tmp (81 : Nat)) (.exit 3) .skip))) .skip)))
  (.reg strip_Locate_r19)))))))
  (.reg strip_Locate_r20))))))
  (.reg strip_Locate_r21))))
  (.reg strip_Locate_r22)))))))))
  (.reg strip_Locate_r23))))))
  (.seq (.seq (.reg strip_Locate_r24)
  (.cond (.tmp (89 : Nat)) (.seq (.reg strip_Locate_r25)
  .ret) .skip))
  (.seq (.reg strip_Locate_r26)
  .ret))))))), [.cell 4 31, .tmp 5]⟩
theorem strip_Locate_s : slimF Try.prog 18 = some strip_Locate_c := by kernel_rfl
abbrev strip_Locate_f : Nat := 18
/-- printworks/strip.Register -/
def strip_Register_r0 : List SO := [⟨(some 5), .box 31 (.tmp (2 : Nat)), none⟩,
  ⟨(some 6), .assign (.const (.slice none 0 0)), none⟩,
  ⟨(some 7), .assign (.const (.int .i64 0)), none⟩]
def strip_Register_r1 : List SO := [⟨(some 13), .move (.tmp (0 : Nat)), none⟩,
  ⟨(some 14), .call ⟨(.builtin .len), #[(.tmp (13 : Nat))], #[38]⟩, none⟩,
  ⟨(some 15), .binOp .gtr 3 (.tmp (14 : Nat)) (.const (.int .i64 8)) 3, none⟩]
def strip_Register_r2 : List SO := [⟨(some 6), .assign (.const (.slice none 0 0)), none⟩,
  ⟨(some 7), .assign (.const (.int .i64 2)), none⟩]
def strip_Register_r3 : List SO := [⟨(some 16), .fieldAddr 31 (.tmp (5 : Nat)) 0, none⟩,
  ⟨(some 17), .load 3 (.tmp (16 : Nat)), none⟩,
  ⟨(some 18), .binOp .lss 3 (.tmp (17 : Nat)) (.const (.int .i64 0)) 3, none⟩,
  ⟨(some 19), .move (.tmp (18 : Nat)), none⟩,
  ⟨(some 20), .fieldAddr 31 (.tmp (5 : Nat)) 0, (some (19, false))⟩,
  ⟨(some 21), .load 3 (.tmp (20 : Nat)), (some (19, false))⟩,
  ⟨(some 22), .binOp .geq 3 (.tmp (21 : Nat)) (.const (.int .i64 1024)) 3, (some (19, false))⟩,
  ⟨(some 23), .pick (.tmp (19 : Nat)) (.const (.bool true)) (.tmp (22 : Nat)), none⟩,
  ⟨(some 24), .move (.tmp (23 : Nat)), none⟩,
  ⟨(some 25), .fieldAddr 31 (.tmp (5 : Nat)) 1, (some (24, false))⟩,
  ⟨(some 26), .load 3 (.tmp (25 : Nat)), (some (24, false))⟩,
  ⟨(some 27), .binOp .lss 3 (.tmp (26 : Nat)) (.const (.int .i64 0)) 3, (some (24, false))⟩,
  ⟨(some 28), .pick (.tmp (24 : Nat)) (.const (.bool true)) (.tmp (27 : Nat)), none⟩,
  ⟨(some 29), .move (.tmp (28 : Nat)), none⟩,
  ⟨(some 30), .fieldAddr 31 (.tmp (5 : Nat)) 1, (some (29, false))⟩,
  ⟨(some 31), .load 3 (.tmp (30 : Nat)), (some (29, false))⟩,
  ⟨(some 32), .binOp .geq 3 (.tmp (31 : Nat)) (.const (.int .i64 1024)) 3, (some (29, false))⟩,
  ⟨(some 33), .pick (.tmp (29 : Nat)) (.const (.bool true)) (.tmp (32 : Nat)), none⟩]
def strip_Register_r4 : List SO := [⟨(some 6), .assign (.const (.slice none 0 0)), none⟩,
  ⟨(some 7), .assign (.const (.int .i64 3)), none⟩]
def strip_Register_r5 : List SO := [⟨(some 34), .move (.tmp (0 : Nat)), none⟩,
  ⟨(some 35), .call ⟨(.builtin .len), #[(.tmp (34 : Nat))], #[38]⟩, none⟩,
  ⟨(some 36), .makeSlice 35 (.tmp (35 : Nat)) (.tmp (35 : Nat)), none⟩,
  ⟨(some 8), .assign (.tmp (36 : Nat)), none⟩]
def strip_Register_r6 : List SO := [⟨(some 37), .move (.tmp (0 : Nat)), none⟩,
  ⟨(some 38), .call ⟨(.builtin .len), #[(.tmp (37 : Nat))], #[38]⟩, none⟩,
  ⟨(some 39), .move (.const (.int .i64 0)), none⟩]
def strip_Register_r7 : List SO := [⟨(some 40), .binOp .lss 3 (.tmp (39 : Nat)) (.tmp (38 : Nat)) 3, none⟩]
def strip_Register_r8 : List SO := [⟨(some 41), .move (.tmp (39 : Nat)), none⟩,
  ⟨(some 42), .indexAddr 38 (.tmp (37 : Nat)) (.tmp (39 : Nat)), none⟩,
  ⟨(some 43), .load 28 (.tmp (42 : Nat)), none⟩,
  ⟨(some 10), .alloc 28, none⟩,
  ⟨(some 9), .assign (.tmp (41 : Nat)), none⟩,
  ⟨none, .store 28 (.tmp (10 : Nat)) (.tmp (43 : Nat)), none⟩]
def strip_Register_r9 : List SO := [⟨(some 45), .load 28 (.tmp (10 : Nat)), none⟩,
  ⟨(some 46), .move (.tmp (1 : Nat)), none⟩,
  ⟨(some 47), .call ⟨(.value (.func (18 : Nat))), #[(.tmp (45 : Nat)), (.tmp (46 : Nat))], #[28, 3]⟩, none⟩,
  ⟨(some 44), .move (.tmp (47 : Nat)), none⟩,
  ⟨(some 48), .extract (.tmp (44 : Nat)) 0, none⟩,
  ⟨(some 49), .extract (.tmp (44 : Nat)) 1, none⟩,
  ⟨(some 11), .alloc 31, none⟩,
  ⟨none, .store 31 (.tmp (11 : Nat)) (.tmp (48 : Nat)), none⟩,
  ⟨(some 12), .assign (.tmp (49 : Nat)), none⟩]
def strip_Register_r10 : List SO := [⟨(some 50), .move (.tmp (12 : Nat)), none⟩,
  ⟨(some 51), .binOp .neq 32 (.tmp (50 : Nat)) (.const (.int .i64 0)) 32, none⟩]
def strip_Register_r11 : List SO := [⟨(some 52), .move (.tmp (12 : Nat)), none⟩,
  ⟨(some 6), .assign (.const (.slice none 0 0)), none⟩,
  ⟨(some 7), .assign (.tmp (52 : Nat)), none⟩]
def strip_Register_r12 : List SO := [⟨(some 53), .move (.tmp (8 : Nat)), none⟩,
  ⟨(some 54), .move (.tmp (9 : Nat)), none⟩,
  ⟨(some 55), .fieldAddr 31 (.tmp (11 : Nat)) 0, none⟩,
  ⟨(some 56), .load 3 (.tmp (55 : Nat)), none⟩,
  ⟨(some 57), .fieldAddr 31 (.tmp (5 : Nat)) 0, none⟩,
  ⟨(some 58), .load 3 (.tmp (57 : Nat)), none⟩,
  ⟨(some 59), .binOp .sub 3 (.tmp (56 : Nat)) (.tmp (58 : Nat)) 3, none⟩,
  ⟨(some 60), .fieldAddr 31 (.tmp (11 : Nat)) 1, none⟩,
  ⟨(some 61), .load 3 (.tmp (60 : Nat)), none⟩,
  ⟨(some 62), .fieldAddr 31 (.tmp (5 : Nat)) 1, none⟩,
  ⟨(some 63), .load 3 (.tmp (62 : Nat)), none⟩,
  ⟨(some 64), .binOp .sub 3 (.tmp (61 : Nat)) (.tmp (63 : Nat)) 3, none⟩,
  ⟨(some 65), .build 31 #[(0, (.tmp (59 : Nat))), (1, (.tmp (64 : Nat)))], none⟩,
  ⟨(some 66), .indexAddr 35 (.tmp (53 : Nat)) (.tmp (54 : Nat)), none⟩,
  ⟨none, .store 31 (.tmp (66 : Nat)) (.tmp (65 : Nat)), none⟩]
def strip_Register_r13 : List SO := [⟨(some 67), .binOp .add 3 (.tmp (39 : Nat)) (.const (.int .i64 1)) 3, none⟩,
  ⟨(some 39), .move (.tmp (67 : Nat)), none⟩]
def strip_Register_r14 : List SO := [⟨(some 68), .move (.tmp (8 : Nat)), none⟩,
  ⟨(some 6), .assign (.tmp (68 : Nat)), none⟩,
  ⟨(some 7), .assign (.const (.int .i64 0)), none⟩]
def strip_Register_c : SF := ⟨69, (.seq (.reg strip_Register_r0)
  (.seq (.seq (.reg strip_Register_r1)
  (.cond (.tmp (15 : Nat)) (.seq (.reg strip_Register_r2)
  .ret) .skip))
  (.seq (.seq (.reg strip_Register_r3)
  (.cond (.tmp (33 : Nat)) (.seq (.reg strip_Register_r4)
  .ret) .skip))
  (.seq (.reg strip_Register_r5)
  (.seq (.seq (.reg strip_Register_r6)
  (.block 0 (.loop (.seq (.reg strip_Register_r7)
  (.seq (.cond (.tmp (40 : Nat)) .skip (.exit 0))
  (.seq (.block 1 (.seq (.reg strip_Register_r8)
  (.seq (.reg strip_Register_r9)
  (.seq (.seq (.reg strip_Register_r10)
  (.cond (.tmp (51 : Nat)) (.seq (.reg strip_Register_r11)
  .ret) .skip))
  (.reg strip_Register_r12)))))
  (.reg strip_Register_r13)))))))
  (.seq (.reg strip_Register_r14)
  .ret)))))), [.tmp 6, .tmp 7]⟩
theorem strip_Register_s : slimF Try.prog 19 = some strip_Register_c := by kernel_rfl
abbrev strip_Register_f : Nat := 19
/-- printworks/strip.Layout -/
def strip_Layout_r0 : List SO := [⟨(some 6), .assign (.const (.slice none 0 0)), none⟩,
  ⟨(some 7), .assign (.const (.int .i64 0)), none⟩]
def strip_Layout_r1 : List SO := [⟨(some 14), .move (.tmp (0 : Nat)), none⟩,
  ⟨(some 15), .binOp .lss 3 (.tmp (14 : Nat)) (.const (.int .i64 1)) 3, none⟩,
  ⟨(some 16), .move (.tmp (15 : Nat)), none⟩,
  ⟨(some 17), .move (.tmp (0 : Nat)), (some (16, false))⟩,
  ⟨(some 18), .binOp .gtr 3 (.tmp (17 : Nat)) (.const (.int .i64 8)) 3, (some (16, false))⟩,
  ⟨(some 19), .pick (.tmp (16 : Nat)) (.const (.bool true)) (.tmp (18 : Nat)), none⟩,
  ⟨(some 20), .move (.tmp (19 : Nat)), none⟩,
  ⟨(some 21), .move (.tmp (1 : Nat)), (some (20, false))⟩,
  ⟨(some 22), .binOp .lss 3 (.tmp (21 : Nat)) (.const (.int .i64 1)) 3, (some (20, false))⟩,
  ⟨(some 23), .pick (.tmp (20 : Nat)) (.const (.bool true)) (.tmp (22 : Nat)), none⟩,
  ⟨(some 24), .move (.tmp (23 : Nat)), none⟩,
  ⟨(some 25), .move (.tmp (1 : Nat)), (some (24, false))⟩,
  ⟨(some 26), .binOp .gtr 3 (.tmp (25 : Nat)) (.const (.int .i64 16)) 3, (some (24, false))⟩,
  ⟨(some 27), .pick (.tmp (24 : Nat)) (.const (.bool true)) (.tmp (26 : Nat)), none⟩,
  ⟨(some 28), .move (.tmp (27 : Nat)), none⟩,
  ⟨(some 29), .move (.tmp (2 : Nat)), (some (28, false))⟩,
  ⟨(some 30), .binOp .lss 3 (.tmp (29 : Nat)) (.const (.int .i64 1)) 3, (some (28, false))⟩,
  ⟨(some 31), .pick (.tmp (28 : Nat)) (.const (.bool true)) (.tmp (30 : Nat)), none⟩,
  ⟨(some 32), .move (.tmp (31 : Nat)), none⟩,
  ⟨(some 33), .move (.tmp (2 : Nat)), (some (32, false))⟩,
  ⟨(some 34), .binOp .gtr 3 (.tmp (33 : Nat)) (.const (.int .i64 1024)) 3, (some (32, false))⟩,
  ⟨(some 35), .pick (.tmp (32 : Nat)) (.const (.bool true)) (.tmp (34 : Nat)), none⟩]
def strip_Layout_r2 : List SO := [⟨(some 6), .assign (.const (.slice none 0 0)), none⟩,
  ⟨(some 7), .assign (.const (.int .i64 3)), none⟩]
def strip_Layout_r3 : List SO := [⟨(some 8), .assign (.const (.slice none 0 0)), none⟩]
def strip_Layout_r4 : List SO := [⟨(some 36), .move (.tmp (1 : Nat)), none⟩,
  ⟨(some 37), .move (.const (.int .i64 0)), none⟩]
def strip_Layout_r5 : List SO := [⟨(some 38), .binOp .lss 3 (.tmp (37 : Nat)) (.tmp (36 : Nat)) 3, none⟩]
def strip_Layout_r6 : List SO := [⟨(some 39), .move (.tmp (37 : Nat)), none⟩,
  ⟨(some 9), .assign (.tmp (39 : Nat)), none⟩]
def strip_Layout_r7 : List SO := [⟨(some 40), .move (.tmp (9 : Nat)), none⟩,
  ⟨(some 41), .move (.tmp (2 : Nat)), none⟩,
  ⟨(some 42), .binOp .mul 3 (.tmp (40 : Nat)) (.tmp (41 : Nat)) 3, none⟩,
  ⟨(some 43), .move (.tmp (1 : Nat)), none⟩,
  ⟨(some 44), .binOp .quo 3 (.tmp (42 : Nat)) (.tmp (43 : Nat)) 3, none⟩,
  ⟨(some 45), .move (.tmp (9 : Nat)), none⟩,
  ⟨(some 46), .binOp .add 3 (.tmp (45 : Nat)) (.const (.int .i64 1)) 3, none⟩,
  ⟨(some 47), .move (.tmp (2 : Nat)), none⟩,
  ⟨(some 48), .binOp .mul 3 (.tmp (46 : Nat)) (.tmp (47 : Nat)) 3, none⟩,
  ⟨(some 49), .move (.tmp (1 : Nat)), none⟩,
  ⟨(some 50), .binOp .quo 3 (.tmp (48 : Nat)) (.tmp (49 : Nat)) 3, none⟩,
  ⟨(some 10), .assign (.tmp (44 : Nat)), none⟩,
  ⟨(some 11), .assign (.tmp (50 : Nat)), none⟩]
def strip_Layout_a7 : List (List Nat) := [[], [], [0, 1], [], [2, 3], [], [5], [], [6, 7], [], [8, 9], [4, 0, 1, 2, 3, 4], [10, 11, 0, 1, 2, 3, 4, 5, 6, 7, 8, 9, 10, 11]]
def strip_Layout_r8 : List SO := [⟨(some 51), .move (.tmp (11 : Nat)), none⟩,
  ⟨(some 52), .move (.tmp (10 : Nat)), none⟩,
  ⟨(some 53), .binOp .sub 3 (.tmp (51 : Nat)) (.tmp (52 : Nat)) 3, none⟩,
  ⟨(some 54), .move (.tmp (0 : Nat)), none⟩,
  ⟨(some 55), .binOp .mul 3 (.const (.int .i64 2)) (.tmp (54 : Nat)) 3, none⟩,
  ⟨(some 56), .binOp .quo 3 (.tmp (53 : Nat)) (.tmp (55 : Nat)) 3, none⟩,
  ⟨(some 12), .assign (.tmp (56 : Nat)), none⟩]
def strip_Layout_r9 : List SO := [⟨(some 57), .move (.tmp (12 : Nat)), none⟩,
  ⟨(some 58), .binOp .lss 3 (.tmp (57 : Nat)) (.const (.int .i64 2)) 3, none⟩]
def strip_Layout_r10 : List SO := [⟨(some 6), .assign (.const (.slice none 0 0)), none⟩,
  ⟨(some 7), .assign (.const (.int .i64 19)), none⟩]
def strip_Layout_r11 : List SO := [⟨(some 59), .move (.tmp (0 : Nat)), none⟩,
  ⟨(some 60), .binOp .mul 3 (.const (.int .i64 2)) (.tmp (59 : Nat)) 3, none⟩,
  ⟨(some 61), .move (.const (.int .i64 0)), none⟩]
def strip_Layout_r12 : List SO := [⟨(some 62), .binOp .lss 3 (.tmp (61 : Nat)) (.tmp (60 : Nat)) 3, none⟩]
def strip_Layout_r13 : List SO := [⟨(some 63), .move (.tmp (61 : Nat)), none⟩,
  ⟨(some 13), .assign (.tmp (63 : Nat)), none⟩]
def strip_Layout_r14 : List SO := [⟨(some 64), .move (.tmp (8 : Nat)), none⟩,
  ⟨(some 65), .move (.tmp (10 : Nat)), none⟩,
  ⟨(some 66), .move (.tmp (13 : Nat)), none⟩,
  ⟨(some 67), .move (.tmp (12 : Nat)), none⟩,
  ⟨(some 68), .binOp .mul 3 (.tmp (66 : Nat)) (.tmp (67 : Nat)) 3, none⟩,
  ⟨(some 69), .binOp .add 3 (.tmp (65 : Nat)) (.tmp (68 : Nat)) 3, none⟩,
  ⟨(some 70), .move (.tmp (12 : Nat)), none⟩,
  ⟨(some 71), .move (.tmp (13 : Nat)), none⟩,
  ⟨(some 72), .binOp .rem 3 (.tmp (71 : Nat)) (.const (.int .i64 2)) 3, none⟩,
  ⟨(some 73), .move (.tmp (13 : Nat)), none⟩,
  ⟨(some 74), .binOp .quo 3 (.tmp (73 : Nat)) (.const (.int .i64 2)) 3, none⟩,
  ⟨(some 75), .move (.tmp (9 : Nat)), none⟩,
  ⟨(some 76), .build 94 #[(0, (.tmp (69 : Nat))), (1, (.tmp (70 : Nat))), (2, (.tmp (72 : Nat))), (3, (.tmp (74 : Nat))), (4, (.tmp (75 : Nat)))], none⟩,
  ⟨(some 77), .buildSlice 74 1 #[(0, (.tmp (76 : Nat)))], none⟩,
  ⟨(some 78), .call ⟨(.builtin .append), #[(.tmp (64 : Nat)), (.tmp (77 : Nat))], #[74, 74]⟩, none⟩,
  ⟨(some 8), .assign (.tmp (78 : Nat)), none⟩]
def strip_Layout_r15 : List SO := [⟨(some 79), .binOp .add 3 (.tmp (61 : Nat)) (.const (.int .i64 1)) 3, none⟩,
  ⟨(some 61), .move (.tmp (79 : Nat)), none⟩]
def strip_Layout_r16 : List SO := [⟨(some 80), .binOp .add 3 (.tmp (37 : Nat)) (.const (.int .i64 1)) 3, none⟩,
  ⟨(some 37), .move (.tmp (80 : Nat)), none⟩]
def strip_Layout_r17 : List SO := [⟨(some 81), .move (.tmp (8 : Nat)), none⟩,
  ⟨(some 6), .assign (.tmp (81 : Nat)), none⟩,
  ⟨(some 7), .assign (.const (.int .i64 0)), none⟩]
def strip_Layout_c : SF := ⟨82, (.seq (.reg strip_Layout_r0)
  (.seq (.seq (.reg strip_Layout_r1)
  (.cond (.tmp (35 : Nat)) (.seq (.reg strip_Layout_r2)
  .ret) .skip))
  (.seq (.reg strip_Layout_r3)
  (.seq (.seq (.reg strip_Layout_r4)
  (.block 0 (.loop (.seq (.reg strip_Layout_r5)
  (.seq (.cond (.tmp (38 : Nat)) .skip (.exit 0))
  (.seq (.block 1 (.seq (.reg strip_Layout_r6)
  (.seq (.regd strip_Layout_r7 strip_Layout_a7)
  (.seq (.reg strip_Layout_r8)
  (.seq (.seq (.reg strip_Layout_r9)
  (.cond (.tmp (58 : Nat)) (.seq (.reg strip_Layout_r10)
  .ret) .skip))
  (.seq (.reg strip_Layout_r11)
  (.block 2 (.loop (.seq (.reg strip_Layout_r12)
  (.seq (.cond (.tmp (62 : Nat)) .skip (.exit 2))
  (.seq (.block 3 (.seq (.reg strip_Layout_r13)
  (.reg strip_Layout_r14)))
  (.reg strip_Layout_r15))))))))))))
  (.reg strip_Layout_r16)))))))
  (.seq (.reg strip_Layout_r17)
  .ret))))), [.tmp 6, .tmp 7]⟩
theorem strip_Layout_s : slimF Try.prog 43 = some strip_Layout_c := by kernel_rfl
/-- printworks/strip.Draw -/
def strip_Draw_r0 : List SO := [⟨(some 8), .assign (.const (.slice none 0 0)), none⟩,
  ⟨(some 9), .assign (.const (.int .i64 0)), none⟩]
def strip_Draw_r1 : List SO := [⟨(some 18), .move (.tmp (0 : Nat)), none⟩,
  ⟨(some 19), .move (.tmp (1 : Nat)), none⟩,
  ⟨(some 20), .move (.tmp (2 : Nat)), none⟩,
  ⟨(some 21), .call ⟨(.value (.func (75 : Nat))), #[(.tmp (18 : Nat)), (.tmp (19 : Nat)), (.tmp (20 : Nat))], #[74, 3, 3]⟩, none⟩,
  ⟨(some 10), .assign (.tmp (21 : Nat)), none⟩]
def strip_Draw_r2 : List SO := [⟨(some 22), .move (.tmp (10 : Nat)), none⟩,
  ⟨(some 23), .binOp .neq 32 (.tmp (22 : Nat)) (.const (.int .i64 0)) 32, none⟩]
def strip_Draw_r3 : List SO := [⟨(some 24), .move (.tmp (10 : Nat)), none⟩,
  ⟨(some 8), .assign (.const (.slice none 0 0)), none⟩,
  ⟨(some 9), .assign (.tmp (24 : Nat)), none⟩]
def strip_Draw_r4 : List SO := [⟨(some 25), .move (.tmp (3 : Nat)), none⟩,
  ⟨(some 26), .binOp .lss 3 (.tmp (25 : Nat)) (.const (.int .i64 1)) 3, none⟩,
  ⟨(some 27), .move (.tmp (26 : Nat)), none⟩,
  ⟨(some 28), .move (.tmp (3 : Nat)), (some (27, false))⟩,
  ⟨(some 29), .binOp .gtr 3 (.tmp (28 : Nat)) (.const (.int .i64 1024)) 3, (some (27, false))⟩,
  ⟨(some 30), .pick (.tmp (27 : Nat)) (.const (.bool true)) (.tmp (29 : Nat)), none⟩]
def strip_Draw_r5 : List SO := [⟨(some 8), .assign (.const (.slice none 0 0)), none⟩,
  ⟨(some 9), .assign (.const (.int .i64 3)), none⟩]
def strip_Draw_r6 : List SO := [⟨(some 31), .move (.tmp (1 : Nat)), none⟩,
  ⟨(some 32), .makeSlice 77 (.tmp (31 : Nat)) (.tmp (31 : Nat)), none⟩,
  ⟨(some 11), .assign (.tmp (32 : Nat)), none⟩]
def strip_Draw_r7 : List SO := [⟨(some 33), .move (.tmp (11 : Nat)), none⟩,
  ⟨(some 34), .call ⟨(.builtin .len), #[(.tmp (33 : Nat))], #[77]⟩, none⟩,
  ⟨(some 35), .move (.const (.int .i64 0)), none⟩]
def strip_Draw_r8 : List SO := [⟨(some 36), .binOp .lss 3 (.tmp (35 : Nat)) (.tmp (34 : Nat)) 3, none⟩]
def strip_Draw_r9 : List SO := [⟨(some 37), .move (.tmp (35 : Nat)), none⟩,
  ⟨(some 12), .assign (.tmp (37 : Nat)), none⟩]
def strip_Draw_r10 : List SO := [⟨(some 38), .move (.tmp (11 : Nat)), none⟩,
  ⟨(some 39), .move (.tmp (12 : Nat)), none⟩,
  ⟨(some 40), .move (.tmp (2 : Nat)), none⟩,
  ⟨(some 41), .move (.tmp (3 : Nat)), none⟩,
  ⟨(some 42), .move (.tmp (2 : Nat)), none⟩,
  ⟨(some 43), .move (.tmp (3 : Nat)), none⟩,
  ⟨(some 44), .binOp .mul 3 (.tmp (42 : Nat)) (.tmp (43 : Nat)) 3, none⟩,
  ⟨(some 45), .makeSlice 26 (.tmp (44 : Nat)) (.tmp (44 : Nat)), none⟩,
  ⟨(some 46), .build 80 #[(0, (.tmp (40 : Nat))), (1, (.tmp (41 : Nat))), (2, (.tmp (45 : Nat)))], none⟩,
  ⟨(some 47), .indexAddr 77 (.tmp (38 : Nat)) (.tmp (39 : Nat)), none⟩,
  ⟨none, .store 80 (.tmp (47 : Nat)) (.tmp (46 : Nat)), none⟩]
def strip_Draw_r11 : List SO := [⟨(some 48), .binOp .add 3 (.tmp (35 : Nat)) (.const (.int .i64 1)) 3, none⟩,
  ⟨(some 35), .move (.tmp (48 : Nat)), none⟩]
def strip_Draw_r12 : List SO := [⟨(some 49), .move (.tmp (0 : Nat)), none⟩,
  ⟨(some 50), .call ⟨(.builtin .len), #[(.tmp (49 : Nat))], #[74]⟩, none⟩,
  ⟨(some 51), .move (.const (.int .i64 0)), none⟩]
def strip_Draw_r13 : List SO := [⟨(some 52), .binOp .lss 3 (.tmp (51 : Nat)) (.tmp (50 : Nat)) 3, none⟩]
def strip_Draw_r14 : List SO := [⟨(some 53), .indexAddr 74 (.tmp (49 : Nat)) (.tmp (51 : Nat)), none⟩,
  ⟨(some 54), .load 94 (.tmp (53 : Nat)), none⟩,
  ⟨(some 14), .alloc 94, none⟩,
  ⟨none, .store 94 (.tmp (14 : Nat)) (.tmp (54 : Nat)), none⟩]
def strip_Draw_r15 : List SO := [⟨(some 15), .assign (.const (.int .u8 255)), none⟩]
def strip_Draw_r16 : List SO := [⟨(some 55), .fieldAddr 94 (.tmp (14 : Nat)) 2, none⟩,
  ⟨(some 56), .load 3 (.tmp (55 : Nat)), none⟩,
  ⟨(some 57), .binOp .eql 3 (.tmp (56 : Nat)) (.const (.int .i64 1)) 3, none⟩]
def strip_Draw_r17 : List SO := [⟨(some 15), .assign (.const (.int .u8 128)), none⟩]
def strip_Draw_r18 : List SO := [⟨(some 58), .move (.tmp (3 : Nat)), none⟩,
  ⟨(some 59), .move (.const (.int .i64 0)), none⟩]
def strip_Draw_r19 : List SO := [⟨(some 60), .binOp .lss 3 (.tmp (59 : Nat)) (.tmp (58 : Nat)) 3, none⟩]
def strip_Draw_r20 : List SO := [⟨(some 61), .move (.tmp (59 : Nat)), none⟩,
  ⟨(some 16), .assign (.tmp (61 : Nat)), none⟩]
def strip_Draw_r21 : List SO := [⟨(some 62), .fieldAddr 94 (.tmp (14 : Nat)) 1, none⟩,
  ⟨(some 63), .load 3 (.tmp (62 : Nat)), none⟩,
  ⟨(some 64), .move (.const (.int .i64 0)), none⟩]
def strip_Draw_r22 : List SO := [⟨(some 65), .binOp .lss 3 (.tmp (64 : Nat)) (.tmp (63 : Nat)) 3, none⟩]
def strip_Draw_r23 : List SO := [⟨(some 66), .move (.tmp (64 : Nat)), none⟩,
  ⟨(some 17), .assign (.tmp (66 : Nat)), none⟩]
def strip_Draw_r24 : List SO := [⟨(some 67), .move (.tmp (11 : Nat)), none⟩,
  ⟨(some 68), .fieldAddr 94 (.tmp (14 : Nat)) 3, none⟩,
  ⟨(some 69), .load 3 (.tmp (68 : Nat)), none⟩,
  ⟨(some 70), .indexAddr 77 (.tmp (67 : Nat)) (.tmp (69 : Nat)), none⟩,
  ⟨(some 71), .fieldAddr 80 (.tmp (70 : Nat)) 2, none⟩,
  ⟨(some 72), .load 26 (.tmp (71 : Nat)), none⟩,
  ⟨(some 73), .move (.tmp (16 : Nat)), none⟩,
  ⟨(some 74), .move (.tmp (2 : Nat)), none⟩,
  ⟨(some 75), .binOp .mul 3 (.tmp (73 : Nat)) (.tmp (74 : Nat)) 3, none⟩,
  ⟨(some 76), .fieldAddr 94 (.tmp (14 : Nat)) 0, none⟩,
  ⟨(some 77), .load 3 (.tmp (76 : Nat)), none⟩,
  ⟨(some 78), .binOp .add 3 (.tmp (75 : Nat)) (.tmp (77 : Nat)) 3, none⟩,
  ⟨(some 79), .move (.tmp (17 : Nat)), none⟩,
  ⟨(some 80), .binOp .add 3 (.tmp (78 : Nat)) (.tmp (79 : Nat)) 3, none⟩,
  ⟨(some 81), .move (.tmp (15 : Nat)), none⟩,
  ⟨(some 82), .indexAddr 26 (.tmp (72 : Nat)) (.tmp (80 : Nat)), none⟩,
  ⟨none, .store 5 (.tmp (82 : Nat)) (.tmp (81 : Nat)), none⟩]
def strip_Draw_a24 : List (List Nat) := [[], [], [1], [0, 2], [3], [4], [], [], [6, 7], [], [9], [8, 10], [], [11, 12], [], [5, 13, 0, 1, 2, 3, 4, 5, 6, 7, 8, 9, 10, 11, 12, 13, 14], [15, 14, 0, 1, 2, 3, 4, 5, 6, 7, 8, 9, 10, 11, 12, 13, 14]]
def strip_Draw_r25 : List SO := [⟨(some 83), .binOp .add 3 (.tmp (64 : Nat)) (.const (.int .i64 1)) 3, none⟩,
  ⟨(some 64), .move (.tmp (83 : Nat)), none⟩]
def strip_Draw_r26 : List SO := [⟨(some 84), .binOp .add 3 (.tmp (59 : Nat)) (.const (.int .i64 1)) 3, none⟩,
  ⟨(some 59), .move (.tmp (84 : Nat)), none⟩]
def strip_Draw_r27 : List SO := [⟨(some 85), .binOp .add 3 (.tmp (51 : Nat)) (.const (.int .i64 1)) 3, none⟩,
  ⟨(some 51), .move (.tmp (85 : Nat)), none⟩]
def strip_Draw_r28 : List SO := [⟨(some 86), .move (.tmp (11 : Nat)), none⟩,
  ⟨(some 8), .assign (.tmp (86 : Nat)), none⟩,
  ⟨(some 9), .assign (.const (.int .i64 0)), none⟩]
def strip_Draw_c : SF := ⟨87, (.seq (.reg strip_Draw_r0)
  (.seq (.seq (.reg strip_Draw_r1)
  (.seq (.reg strip_Draw_r2)
  (.cond (.tmp (23 : Nat)) (.seq (.reg strip_Draw_r3)
  .ret) .skip)))
  (.seq (.seq (.reg strip_Draw_r4)
  (.cond (.tmp (30 : Nat)) (.seq (.reg strip_Draw_r5)
  .ret) .skip))
  (.seq (.reg strip_Draw_r6)
  (.seq (.seq (.reg strip_Draw_r7)
  (.block 0 (.loop (.seq (.reg strip_Draw_r8)
  (.seq (.cond (.tmp (36 : Nat)) .skip (.exit 0))
  (.seq (.block 1 (.seq (.reg strip_Draw_r9)
  (.reg strip_Draw_r10)))
  (.reg strip_Draw_r11)))))))
  (.seq (.seq (.reg strip_Draw_r12)
  (.block 2 (.loop (.seq (.reg strip_Draw_r13)
  (.seq (.cond (.tmp (52 : Nat)) .skip (.exit 2))
  (.seq (.block 3 (.seq (.reg strip_Draw_r14)
  (.seq (.reg strip_Draw_r15)
  (.seq (.seq (.reg strip_Draw_r16)
  (.cond (.tmp (57 : Nat)) (.reg strip_Draw_r17) .skip))
  (.seq (.reg strip_Draw_r18)
  (.block 4 (.loop (.seq (.reg strip_Draw_r19)
  (.seq (.cond (.tmp (60 : Nat)) .skip (.exit 4))
  (.seq (.block 5 (.seq (.reg strip_Draw_r20)
  (.seq (.reg strip_Draw_r21)
  (.block 6 (.loop (.seq (.reg strip_Draw_r22)
  (.seq (.cond (.tmp (65 : Nat)) .skip (.exit 6))
  (.seq (.block 7 (.seq (.reg strip_Draw_r23)
  (.regd strip_Draw_r24 strip_Draw_a24)))
  (.reg strip_Draw_r25)))))))))
  (.reg strip_Draw_r26)))))))))))
  (.reg strip_Draw_r27)))))))
  (.seq (.reg strip_Draw_r28)
  .ret))))))), [.tmp 8, .tmp 9]⟩
theorem strip_Draw_s : slimF Try.prog 44 = some strip_Draw_c := by kernel_rfl
/-- printworks/strip.Read -/
def strip_Read_r0 : List SO := [⟨(some 4), .assign (.const (.slice none 0 0)), none⟩,
  ⟨(some 5), .assign (.const (.int .i64 0)), none⟩]
def strip_Read_r1 : List SO := [⟨(some 15), .move (.tmp (1 : Nat)), none⟩,
  ⟨(some 16), .call ⟨(.builtin .len), #[(.tmp (15 : Nat))], #[38]⟩, none⟩,
  ⟨(some 17), .binOp .gtr 3 (.tmp (16 : Nat)) (.const (.int .i64 8)) 3, none⟩,
  ⟨(some 14), .assign (.tmp (17 : Nat)), none⟩]
def strip_Read_r2 : List SO := [⟨(some 4), .assign (.const (.slice none 0 0)), none⟩,
  ⟨(some 5), .assign (.const (.int .i64 2)), none⟩]
def strip_Read_r3 : List SO := [⟨(some 19), .move (.tmp (1 : Nat)), none⟩,
  ⟨(some 20), .call ⟨(.builtin .len), #[(.tmp (19 : Nat))], #[38]⟩, none⟩,
  ⟨(some 21), .binOp .eql 3 (.tmp (20 : Nat)) (.const (.int .i64 0)) 3, none⟩,
  ⟨(some 18), .assign (.tmp (21 : Nat)), none⟩]
def strip_Read_r4 : List SO := [⟨(some 4), .assign (.const (.slice none 0 0)), none⟩,
  ⟨(some 5), .assign (.const (.int .i64 1)), none⟩]
def strip_Read_r5 : List SO := [⟨(some 22), .move (.tmp (1 : Nat)), none⟩,
  ⟨(some 23), .call ⟨(.builtin .len), #[(.tmp (22 : Nat))], #[38]⟩, none⟩,
  ⟨(some 24), .move (.const (.int .i64 0)), none⟩]
def strip_Read_r6 : List SO := [⟨(some 25), .binOp .lss 3 (.tmp (24 : Nat)) (.tmp (23 : Nat)) 3, none⟩]
def strip_Read_r7 : List SO := [⟨(some 26), .indexAddr 38 (.tmp (22 : Nat)) (.tmp (24 : Nat)), none⟩,
  ⟨(some 27), .load 28 (.tmp (26 : Nat)), none⟩,
  ⟨(some 7), .alloc 28, none⟩,
  ⟨none, .store 28 (.tmp (7 : Nat)) (.tmp (27 : Nat)), none⟩]
def strip_Read_r8 : List SO := [⟨(some 28), .load 28 (.tmp (7 : Nat)), none⟩,
  ⟨(some 29), .call ⟨(.value (.func (22 : Nat))), #[(.tmp (28 : Nat))], #[28]⟩, none⟩,
  ⟨(some 8), .assign (.tmp (29 : Nat)), none⟩]
def strip_Read_r9 : List SO := [⟨(some 30), .move (.tmp (8 : Nat)), none⟩,
  ⟨(some 31), .binOp .neq 32 (.tmp (30 : Nat)) (.const (.int .i64 0)) 32, none⟩]
def strip_Read_r10 : List SO := [⟨(some 32), .move (.tmp (8 : Nat)), none⟩,
  ⟨(some 4), .assign (.const (.slice none 0 0)), none⟩,
  ⟨(some 5), .assign (.tmp (32 : Nat)), none⟩]
def strip_Read_r11 : List SO := [⟨(some 33), .fieldAddr 28 (.tmp (7 : Nat)) 0, none⟩,
  ⟨(some 34), .load 3 (.tmp (33 : Nat)), none⟩,
  ⟨(some 35), .move (.tmp (1 : Nat)), none⟩,
  ⟨(some 36), .indexAddr 38 (.tmp (35 : Nat)) (.const (.int .i64 0)), none⟩,
  ⟨(some 37), .fieldAddr 28 (.tmp (36 : Nat)) 0, none⟩,
  ⟨(some 38), .load 3 (.tmp (37 : Nat)), none⟩,
  ⟨(some 39), .binOp .neq 3 (.tmp (34 : Nat)) (.tmp (38 : Nat)) 3, none⟩,
  ⟨(some 40), .move (.tmp (39 : Nat)), none⟩,
  ⟨(some 41), .fieldAddr 28 (.tmp (7 : Nat)) 1, (some (40, false))⟩,
  ⟨(some 42), .load 3 (.tmp (41 : Nat)), (some (40, false))⟩,
  ⟨(some 43), .move (.tmp (1 : Nat)), (some (40, false))⟩,
  ⟨(some 44), .indexAddr 38 (.tmp (43 : Nat)) (.const (.int .i64 0)), (some (40, false))⟩,
  ⟨(some 45), .fieldAddr 28 (.tmp (44 : Nat)) 1, (some (40, false))⟩,
  ⟨(some 46), .load 3 (.tmp (45 : Nat)), (some (40, false))⟩,
  ⟨(some 47), .binOp .neq 3 (.tmp (42 : Nat)) (.tmp (46 : Nat)) 3, (some (40, false))⟩,
  ⟨(some 48), .pick (.tmp (40 : Nat)) (.const (.bool true)) (.tmp (47 : Nat)), none⟩]
def strip_Read_a11 : List (List Nat) := [[], [0], [], [2], [3], [4], [1, 5], [6], [7], [8, 7], [7], [10, 7], [11, 7], [12, 7], [9, 13, 7], [7, 14]]
def strip_Read_r12 : List SO := [⟨(some 4), .assign (.const (.slice none 0 0)), none⟩,
  ⟨(some 5), .assign (.const (.int .i64 4)), none⟩]
def strip_Read_r13 : List SO := [⟨(some 49), .binOp .add 3 (.tmp (24 : Nat)) (.const (.int .i64 1)) 3, none⟩,
  ⟨(some 24), .move (.tmp (49 : Nat)), none⟩]
def strip_Read_r14 : List SO := [⟨(some 50), .move (.tmp (0 : Nat)), none⟩,
  ⟨(some 51), .move (.tmp (1 : Nat)), none⟩,
  ⟨(some 52), .call ⟨(.builtin .len), #[(.tmp (51 : Nat))], #[38]⟩, none⟩,
  ⟨(some 53), .move (.tmp (1 : Nat)), none⟩,
  ⟨(some 54), .indexAddr 38 (.tmp (53 : Nat)) (.const (.int .i64 0)), none⟩,
  ⟨(some 55), .fieldAddr 28 (.tmp (54 : Nat)) 0, none⟩,
  ⟨(some 56), .load 3 (.tmp (55 : Nat)), none⟩,
  ⟨(some 57), .call ⟨(.value (.func (75 : Nat))), #[(.tmp (50 : Nat)), (.tmp (52 : Nat)), (.tmp (56 : Nat))], #[74, 3, 3]⟩, none⟩,
  ⟨(some 9), .assign (.tmp (57 : Nat)), none⟩]
def strip_Read_r15 : List SO := [⟨(some 58), .move (.tmp (9 : Nat)), none⟩,
  ⟨(some 59), .binOp .neq 32 (.tmp (58 : Nat)) (.const (.int .i64 0)) 32, none⟩]
def strip_Read_r16 : List SO := [⟨(some 60), .move (.tmp (9 : Nat)), none⟩,
  ⟨(some 4), .assign (.const (.slice none 0 0)), none⟩,
  ⟨(some 5), .assign (.tmp (60 : Nat)), none⟩]
def strip_Read_r17 : List SO := [⟨(some 10), .assign (.const (.slice none 0 0)), none⟩]
def strip_Read_r18 : List SO := [⟨(some 11), .assign (.const (.int .i64 1)), none⟩]
def strip_Read_r19 : List SO := [⟨(some 61), .move (.tmp (11 : Nat)), none⟩,
  ⟨(some 62), .move (.tmp (0 : Nat)), none⟩,
  ⟨(some 63), .call ⟨(.builtin .len), #[(.tmp (62 : Nat))], #[74]⟩, none⟩,
  ⟨(some 64), .binOp .lss 3 (.tmp (61 : Nat)) (.tmp (63 : Nat)) 3, none⟩]
def strip_Read_r20 : List SO := [⟨(some 67), .move (.tmp (0 : Nat)), none⟩,
  ⟨(some 68), .move (.tmp (11 : Nat)), none⟩,
  ⟨(some 69), .binOp .sub 3 (.tmp (68 : Nat)) (.const (.int .i64 1)) 3, none⟩,
  ⟨(some 70), .indexAddr 74 (.tmp (67 : Nat)) (.tmp (69 : Nat)), none⟩,
  ⟨(some 71), .load 94 (.tmp (70 : Nat)), none⟩,
  ⟨(some 72), .move (.tmp (0 : Nat)), none⟩,
  ⟨(some 73), .move (.tmp (11 : Nat)), none⟩,
  ⟨(some 74), .indexAddr 74 (.tmp (72 : Nat)) (.tmp (73 : Nat)), none⟩,
  ⟨(some 75), .load 94 (.tmp (74 : Nat)), none⟩,
  ⟨(some 12), .alloc 94, none⟩,
  ⟨(some 13), .alloc 94, none⟩,
  ⟨none, .store 94 (.tmp (12 : Nat)) (.tmp (71 : Nat)), none⟩,
  ⟨none, .store 94 (.tmp (13 : Nat)) (.tmp (75 : Nat)), none⟩]
def strip_Read_a20 : List (List Nat) := [[], [], [1], [0, 2], [3], [], [], [5, 6], [7], [], [], [9, 4, 0, 1, 2, 3, 4, 9, 10], [10, 8, 11, 0, 1, 2, 3, 4, 5, 6, 7, 8, 9, 10, 11]]
def strip_Read_r21 : List SO := [⟨(some 76), .fieldAddr 94 (.tmp (12 : Nat)) 2, none⟩,
  ⟨(some 77), .load 3 (.tmp (76 : Nat)), none⟩,
  ⟨(some 78), .binOp .eql 3 (.tmp (77 : Nat)) (.const (.int .i64 0)) 3, none⟩,
  ⟨(some 79), .move (.tmp (78 : Nat)), none⟩,
  ⟨(some 80), .fieldAddr 94 (.tmp (13 : Nat)) 2, (some (79, true))⟩,
  ⟨(some 81), .load 3 (.tmp (80 : Nat)), (some (79, true))⟩,
  ⟨(some 82), .binOp .eql 3 (.tmp (81 : Nat)) (.const (.int .i64 1)) 3, (some (79, true))⟩,
  ⟨(some 83), .pick (.tmp (79 : Nat)) (.tmp (82 : Nat)) (.const (.bool false)), none⟩,
  ⟨(some 84), .move (.tmp (83 : Nat)), none⟩,
  ⟨(some 85), .fieldAddr 94 (.tmp (12 : Nat)) 3, (some (84, true))⟩,
  ⟨(some 86), .load 3 (.tmp (85 : Nat)), (some (84, true))⟩,
  ⟨(some 87), .fieldAddr 94 (.tmp (13 : Nat)) 3, (some (84, true))⟩,
  ⟨(some 88), .load 3 (.tmp (87 : Nat)), (some (84, true))⟩,
  ⟨(some 89), .binOp .eql 3 (.tmp (86 : Nat)) (.tmp (88 : Nat)) 3, (some (84, true))⟩,
  ⟨(some 90), .pick (.tmp (84 : Nat)) (.tmp (89 : Nat)) (.const (.bool false)), none⟩,
  ⟨(some 91), .move (.tmp (90 : Nat)), none⟩,
  ⟨(some 92), .fieldAddr 94 (.tmp (12 : Nat)) 4, (some (91, true))⟩,
  ⟨(some 93), .load 3 (.tmp (92 : Nat)), (some (91, true))⟩,
  ⟨(some 94), .fieldAddr 94 (.tmp (13 : Nat)) 4, (some (91, true))⟩,
  ⟨(some 95), .load 3 (.tmp (94 : Nat)), (some (91, true))⟩,
  ⟨(some 96), .binOp .eql 3 (.tmp (93 : Nat)) (.tmp (95 : Nat)) 3, (some (91, true))⟩,
  ⟨(some 97), .pick (.tmp (91 : Nat)) (.tmp (96 : Nat)) (.const (.bool false)), none⟩]
def strip_Read_r22 : List SO := [⟨(some 98), .move (.tmp (10 : Nat)), none⟩,
  ⟨(some 99), .fieldAddr 94 (.tmp (12 : Nat)) 3, none⟩,
  ⟨(some 100), .load 3 (.tmp (99 : Nat)), none⟩,
  ⟨(some 101), .fieldAddr 94 (.tmp (12 : Nat)) 4, none⟩,
  ⟨(some 102), .load 3 (.tmp (101 : Nat)), none⟩,
  ⟨(some 103), .move (.tmp (1 : Nat)), none⟩,
  ⟨(some 104), .fieldAddr 94 (.tmp (12 : Nat)) 3, none⟩,
  ⟨(some 105), .load 3 (.tmp (104 : Nat)), none⟩,
  ⟨(some 106), .indexAddr 38 (.tmp (103 : Nat)) (.tmp (105 : Nat)), none⟩,
  ⟨(some 107), .load 94 (.tmp (12 : Nat)), none⟩,
  ⟨(some 108), .call ⟨(.value (.func (79 : Nat))), #[(.tmp (106 : Nat)), (.tmp (107 : Nat))], #[97, 94]⟩, none⟩,
  ⟨(some 109), .move (.tmp (1 : Nat)), none⟩,
  ⟨(some 110), .fieldAddr 94 (.tmp (12 : Nat)) 3, none⟩,
  ⟨(some 111), .load 3 (.tmp (110 : Nat)), none⟩,
  ⟨(some 112), .indexAddr 38 (.tmp (109 : Nat)) (.tmp (111 : Nat)), none⟩,
  ⟨(some 113), .load 94 (.tmp (13 : Nat)), none⟩,
  ⟨(some 114), .call ⟨(.value (.func (79 : Nat))), #[(.tmp (112 : Nat)), (.tmp (113 : Nat))], #[97, 94]⟩, none⟩,
  ⟨(some 115), .build 86 #[(0, (.tmp (100 : Nat))), (1, (.tmp (102 : Nat))), (2, (.tmp (108 : Nat))), (3, (.tmp (114 : Nat)))], none⟩,
  ⟨(some 116), .buildSlice 82 1 #[(0, (.tmp (115 : Nat)))], none⟩,
  ⟨(some 117), .call ⟨(.builtin .append), #[(.tmp (98 : Nat)), (.tmp (116 : Nat))], #[82, 82]⟩, none⟩,
  ⟨(some 10), .assign (.tmp (117 : Nat)), none⟩]
def strip_Read_a22 : List (List Nat) := [[], [], [1], [], [3], [], [], [6], [5, 7], [], [8, 9], [], [], [12], [11, 13], [], [14, 15, 10], [2, 4, 10, 16], [17], [0, 18, 16], [19, 19, 0, 1, 2, 3, 4, 5, 6, 7, 8, 9, 10, 11, 12, 13, 14, 15, 16, 17, 18, 19]]
def strip_Read_r23 : List SO := [⟨(some 65), .move (.tmp (11 : Nat)), none⟩,
  ⟨(some 66), .binOp .add 3 (.tmp (65 : Nat)) (.const (.int .i64 1)) 3, none⟩,
  ⟨(some 11), .assign (.tmp (66 : Nat)), none⟩]
def strip_Read_r24 : List SO := [⟨(some 118), .move (.tmp (10 : Nat)), none⟩,
  ⟨(some 4), .assign (.tmp (118 : Nat)), none⟩,
  ⟨(some 5), .assign (.const (.int .i64 0)), none⟩]
def strip_Read_c : SF := ⟨119, (.seq (.reg strip_Read_r0)
  (.seq (.block 0 (.seq (.reg strip_Read_r1)
  (.cond (.tmp (14 : Nat)) (.seq (.reg strip_Read_r2)
  .ret) (.seq (.reg strip_Read_r3)
  (.cond (.tmp (18 : Nat)) (.seq (.reg strip_Read_r4)
  .ret) .skip)))))
  (.seq (.seq (.reg strip_Read_r5)
  (.block 1 (.loop (.seq (.reg strip_Read_r6)
  (.seq (.cond (.tmp (25 : Nat)) .skip (.exit 1))
  (.seq (.block 2 (.seq (.reg strip_Read_r7)
  (.seq (.seq (.reg strip_Read_r8)
  (.seq (.reg strip_Read_r9)
  (.cond (.tmp (31 : Nat)) (.seq (.reg strip_Read_r10)
  .ret) .skip)))
  (.seq (.regd strip_Read_r11 strip_Read_a11)
  (.cond (.tmp (48 : Nat)) (.seq (.reg strip_Read_r12)
  .ret) .skip)))))
  (.reg strip_Read_r13)))))))
  (.seq (.seq (.reg strip_Read_r14)
  (.seq (.reg strip_Read_r15)
  (.cond (.tmp (59 : Nat)) (.seq (.reg strip_Read_r16)
  .ret) .skip)))
  (.seq (.reg strip_Read_r17)
  (.seq (.seq (.reg strip_Read_r18)
  (.block 3 (.loop (.seq (.seq (.reg strip_Read_r19)
  (.cond (.tmp (64 : Nat)) .skip (.exit 3)))
  (.seq (.block 4 (.seq (.regd strip_Read_r20 strip_Read_a20)
  (.seq (.reg strip_Read_r21)
  (.cond (.tmp (97 : Nat)) (.regd strip_Read_r22 strip_Read_a22) .skip))))
  (.reg strip_Read_r23))))))
  (.seq (.reg strip_Read_r24)
  .ret))))))), [.tmp 4, .tmp 5]⟩
theorem strip_Read_s : slimF Try.prog 46 = some strip_Read_c := by kernel_rfl
/-- printworks/strip.Mark -/
def strip_Mark_r0 : List SO := [⟨(some 2), .alloc 28, none⟩,
  ⟨(some 3), .assign (.const (.int .i64 0)), none⟩]
def strip_Mark_r1 : List SO := [⟨(some 6), .move (.tmp (0 : Nat)), none⟩,
  ⟨(some 7), .binOp .lss 3 (.tmp (6 : Nat)) (.const (.int .i64 1)) 3, none⟩,
  ⟨(some 8), .move (.tmp (7 : Nat)), none⟩,
  ⟨(some 9), .move (.tmp (0 : Nat)), (some (8, false))⟩,
  ⟨(some 10), .binOp .gtr 3 (.tmp (9 : Nat)) (.const (.int .i64 16)) 3, (some (8, false))⟩,
  ⟨(some 11), .pick (.tmp (8 : Nat)) (.const (.bool true)) (.tmp (10 : Nat)), none⟩]
def strip_Mark_r2 : List SO := [⟨(some 12), .build 28 #[], none⟩,
  ⟨none, .store 28 (.tmp (2 : Nat)) (.tmp (12 : Nat)), none⟩,
  ⟨(some 3), .assign (.const (.int .i64 3)), none⟩]
def strip_Mark_r3 : List SO := [⟨(some 13), .move (.tmp (0 : Nat)), none⟩,
  ⟨(some 14), .binOp .mul 3 (.const (.int .i64 2)) (.tmp (13 : Nat)) 3, none⟩,
  ⟨(some 15), .binOp .add 3 (.tmp (14 : Nat)) (.const (.int .i64 1)) 3, none⟩,
  ⟨(some 16), .move (.tmp (0 : Nat)), none⟩,
  ⟨(some 17), .binOp .mul 3 (.const (.int .i64 2)) (.tmp (16 : Nat)) 3, none⟩,
  ⟨(some 18), .binOp .add 3 (.tmp (17 : Nat)) (.const (.int .i64 1)) 3, none⟩,
  ⟨(some 19), .call ⟨(.value (.func (67 : Nat))), #[(.tmp (15 : Nat)), (.tmp (18 : Nat))], #[3, 3]⟩, none⟩,
  ⟨(some 4), .alloc 28, none⟩,
  ⟨none, .store 28 (.tmp (4 : Nat)) (.tmp (19 : Nat)), none⟩]
def strip_Mark_r4 : List SO := [⟨(some 20), .move (.tmp (0 : Nat)), none⟩,
  ⟨(some 21), .binOp .mul 3 (.const (.int .i64 2)) (.tmp (20 : Nat)) 3, none⟩,
  ⟨(some 22), .binOp .add 3 (.tmp (21 : Nat)) (.const (.int .i64 1)) 3, none⟩,
  ⟨(some 23), .move (.const (.int .i64 0)), none⟩]
def strip_Mark_r5 : List SO := [⟨(some 24), .binOp .lss 3 (.tmp (23 : Nat)) (.tmp (22 : Nat)) 3, none⟩]
def strip_Mark_r6 : List SO := [⟨(some 25), .move (.tmp (23 : Nat)), none⟩,
  ⟨(some 5), .assign (.tmp (25 : Nat)), none⟩]
def strip_Mark_r7 : List SO := [⟨(some 26), .move (.tmp (5 : Nat)), none⟩,
  ⟨(some 27), .move (.tmp (0 : Nat)), none⟩,
  ⟨(some 28), .call ⟨(.value (.func (68 : Nat))), #[(.tmp (4 : Nat)), (.tmp (26 : Nat)), (.tmp (27 : Nat))], #[97, 3, 3]⟩, none⟩]
def strip_Mark_r8 : List SO := [⟨(some 29), .move (.tmp (0 : Nat)), none⟩,
  ⟨(some 30), .move (.tmp (5 : Nat)), none⟩,
  ⟨(some 31), .call ⟨(.value (.func (68 : Nat))), #[(.tmp (4 : Nat)), (.tmp (29 : Nat)), (.tmp (30 : Nat))], #[97, 3, 3]⟩, none⟩]
def strip_Mark_r9 : List SO := [⟨(some 32), .binOp .add 3 (.tmp (23 : Nat)) (.const (.int .i64 1)) 3, none⟩,
  ⟨(some 23), .move (.tmp (32 : Nat)), none⟩]
def strip_Mark_r10 : List SO := [⟨(some 33), .load 28 (.tmp (4 : Nat)), none⟩,
  ⟨none, .store 28 (.tmp (2 : Nat)) (.tmp (33 : Nat)), none⟩,
  ⟨(some 3), .assign (.const (.int .i64 0)), none⟩]
def strip_Mark_c : SF := ⟨34, (.seq (.reg strip_Mark_r0)
  (.seq (.seq (.reg strip_Mark_r1)
  (.cond (.tmp (11 : Nat)) (.seq (.reg strip_Mark_r2)
  .ret) .skip))
  (.seq (.reg strip_Mark_r3)
  (.seq (.seq (.reg strip_Mark_r4)
  (.block 0 (.loop (.seq (.reg strip_Mark_r5)
  (.seq (.cond (.tmp (24 : Nat)) .skip (.exit 0))
  (.seq (.block 1 (.seq (.reg strip_Mark_r6)
  (.seq (.reg strip_Mark_r7)
  (.reg strip_Mark_r8))))
  (.reg strip_Mark_r9)))))))
  (.seq (.reg strip_Mark_r10)
  .ret))))), [.cell 2 28, .tmp 3]⟩
theorem strip_Mark_s : slimF Try.prog 49 = some strip_Mark_c := by kernel_rfl
abbrev strip_Mark_f : Nat := 49
/-- printworks/strip.Check -/
def strip_Check_r0 : List SO := [⟨(some 6), .assign (.const (.int .i64 0)), none⟩]
def strip_Check_r1 : List SO := [⟨(some 9), .move (.tmp (0 : Nat)), none⟩,
  ⟨(some 10), .call ⟨(.builtin .len), #[(.tmp (9 : Nat))], #[74]⟩, none⟩,
  ⟨(some 11), .binOp .gtr 3 (.tmp (10 : Nat)) (.const (.int .i64 256)) 3, none⟩]
def strip_Check_r2 : List SO := [⟨(some 6), .assign (.const (.int .i64 2)), none⟩]
def strip_Check_r3 : List SO := [⟨(some 12), .move (.tmp (1 : Nat)), none⟩,
  ⟨(some 13), .binOp .lss 3 (.tmp (12 : Nat)) (.const (.int .i64 1)) 3, none⟩,
  ⟨(some 14), .move (.tmp (13 : Nat)), none⟩,
  ⟨(some 15), .move (.tmp (1 : Nat)), (some (14, false))⟩,
  ⟨(some 16), .binOp .gtr 3 (.tmp (15 : Nat)) (.const (.int .i64 8)) 3, (some (14, false))⟩,
  ⟨(some 17), .pick (.tmp (14 : Nat)) (.const (.bool true)) (.tmp (16 : Nat)), none⟩,
  ⟨(some 18), .move (.tmp (17 : Nat)), none⟩,
  ⟨(some 19), .move (.tmp (2 : Nat)), (some (18, false))⟩,
  ⟨(some 20), .binOp .lss 3 (.tmp (19 : Nat)) (.const (.int .i64 1)) 3, (some (18, false))⟩,
  ⟨(some 21), .pick (.tmp (18 : Nat)) (.const (.bool true)) (.tmp (20 : Nat)), none⟩,
  ⟨(some 22), .move (.tmp (21 : Nat)), none⟩,
  ⟨(some 23), .move (.tmp (2 : Nat)), (some (22, false))⟩,
  ⟨(some 24), .binOp .gtr 3 (.tmp (23 : Nat)) (.const (.int .i64 1024)) 3, (some (22, false))⟩,
  ⟨(some 25), .pick (.tmp (22 : Nat)) (.const (.bool true)) (.tmp (24 : Nat)), none⟩]
def strip_Check_r4 : List SO := [⟨(some 6), .assign (.const (.int .i64 3)), none⟩]
def strip_Check_r5 : List SO := [⟨(some 26), .move (.tmp (0 : Nat)), none⟩,
  ⟨(some 27), .call ⟨(.builtin .len), #[(.tmp (26 : Nat))], #[74]⟩, none⟩,
  ⟨(some 28), .move (.const (.int .i64 0)), none⟩]
def strip_Check_r6 : List SO := [⟨(some 29), .binOp .lss 3 (.tmp (28 : Nat)) (.tmp (27 : Nat)) 3, none⟩]
def strip_Check_r7 : List SO := [⟨(some 30), .move (.tmp (28 : Nat)), none⟩,
  ⟨(some 31), .indexAddr 74 (.tmp (26 : Nat)) (.tmp (28 : Nat)), none⟩,
  ⟨(some 32), .load 94 (.tmp (31 : Nat)), none⟩,
  ⟨(some 8), .alloc 94, none⟩,
  ⟨(some 7), .assign (.tmp (30 : Nat)), none⟩,
  ⟨none, .store 94 (.tmp (8 : Nat)) (.tmp (32 : Nat)), none⟩]
def strip_Check_r8 : List SO := [⟨(some 33), .fieldAddr 94 (.tmp (8 : Nat)) 2, none⟩,
  ⟨(some 34), .load 3 (.tmp (33 : Nat)), none⟩,
  ⟨(some 35), .binOp .lss 3 (.tmp (34 : Nat)) (.const (.int .i64 0)) 3, none⟩,
  ⟨(some 36), .move (.tmp (35 : Nat)), none⟩,
  ⟨(some 37), .fieldAddr 94 (.tmp (8 : Nat)) 2, (some (36, false))⟩,
  ⟨(some 38), .load 3 (.tmp (37 : Nat)), (some (36, false))⟩,
  ⟨(some 39), .binOp .gtr 3 (.tmp (38 : Nat)) (.const (.int .i64 1)) 3, (some (36, false))⟩,
  ⟨(some 40), .pick (.tmp (36 : Nat)) (.const (.bool true)) (.tmp (39 : Nat)), none⟩,
  ⟨(some 41), .move (.tmp (40 : Nat)), none⟩,
  ⟨(some 42), .fieldAddr 94 (.tmp (8 : Nat)) 3, (some (41, false))⟩,
  ⟨(some 43), .load 3 (.tmp (42 : Nat)), (some (41, false))⟩,
  ⟨(some 44), .binOp .lss 3 (.tmp (43 : Nat)) (.const (.int .i64 0)) 3, (some (41, false))⟩,
  ⟨(some 45), .pick (.tmp (41 : Nat)) (.const (.bool true)) (.tmp (44 : Nat)), none⟩,
  ⟨(some 46), .move (.tmp (45 : Nat)), none⟩,
  ⟨(some 47), .fieldAddr 94 (.tmp (8 : Nat)) 3, (some (46, false))⟩,
  ⟨(some 48), .load 3 (.tmp (47 : Nat)), (some (46, false))⟩,
  ⟨(some 49), .move (.tmp (1 : Nat)), (some (46, false))⟩,
  ⟨(some 50), .binOp .geq 3 (.tmp (48 : Nat)) (.tmp (49 : Nat)) 3, (some (46, false))⟩,
  ⟨(some 51), .pick (.tmp (46 : Nat)) (.const (.bool true)) (.tmp (50 : Nat)), none⟩,
  ⟨(some 52), .move (.tmp (51 : Nat)), none⟩,
  ⟨(some 53), .fieldAddr 94 (.tmp (8 : Nat)) 4, (some (52, false))⟩,
  ⟨(some 54), .load 3 (.tmp (53 : Nat)), (some (52, false))⟩,
  ⟨(some 55), .binOp .lss 3 (.tmp (54 : Nat)) (.const (.int .i64 0)) 3, (some (52, false))⟩,
  ⟨(some 56), .pick (.tmp (52 : Nat)) (.const (.bool true)) (.tmp (55 : Nat)), none⟩,
  ⟨(some 57), .move (.tmp (56 : Nat)), none⟩,
  ⟨(some 58), .fieldAddr 94 (.tmp (8 : Nat)) 4, (some (57, false))⟩,
  ⟨(some 59), .load 3 (.tmp (58 : Nat)), (some (57, false))⟩,
  ⟨(some 60), .binOp .geq 3 (.tmp (59 : Nat)) (.const (.int .i64 16)) 3, (some (57, false))⟩,
  ⟨(some 61), .pick (.tmp (57 : Nat)) (.const (.bool true)) (.tmp (60 : Nat)), none⟩,
  ⟨(some 62), .move (.tmp (61 : Nat)), none⟩,
  ⟨(some 63), .fieldAddr 94 (.tmp (8 : Nat)) 1, (some (62, false))⟩,
  ⟨(some 64), .load 3 (.tmp (63 : Nat)), (some (62, false))⟩,
  ⟨(some 65), .binOp .lss 3 (.tmp (64 : Nat)) (.const (.int .i64 1)) 3, (some (62, false))⟩,
  ⟨(some 66), .pick (.tmp (62 : Nat)) (.const (.bool true)) (.tmp (65 : Nat)), none⟩,
  ⟨(some 67), .move (.tmp (66 : Nat)), none⟩,
  ⟨(some 68), .fieldAddr 94 (.tmp (8 : Nat)) 1, (some (67, false))⟩,
  ⟨(some 69), .load 3 (.tmp (68 : Nat)), (some (67, false))⟩,
  ⟨(some 70), .move (.tmp (2 : Nat)), (some (67, false))⟩,
  ⟨(some 71), .binOp .gtr 3 (.tmp (69 : Nat)) (.tmp (70 : Nat)) 3, (some (67, false))⟩,
  ⟨(some 72), .pick (.tmp (67 : Nat)) (.const (.bool true)) (.tmp (71 : Nat)), none⟩,
  ⟨(some 73), .move (.tmp (72 : Nat)), none⟩,
  ⟨(some 74), .fieldAddr 94 (.tmp (8 : Nat)) 0, (some (73, false))⟩,
  ⟨(some 75), .load 3 (.tmp (74 : Nat)), (some (73, false))⟩,
  ⟨(some 76), .binOp .lss 3 (.tmp (75 : Nat)) (.const (.int .i64 0)) 3, (some (73, false))⟩,
  ⟨(some 77), .pick (.tmp (73 : Nat)) (.const (.bool true)) (.tmp (76 : Nat)), none⟩,
  ⟨(some 78), .move (.tmp (77 : Nat)), none⟩,
  ⟨(some 79), .fieldAddr 94 (.tmp (8 : Nat)) 0, (some (78, false))⟩,
  ⟨(some 80), .load 3 (.tmp (79 : Nat)), (some (78, false))⟩,
  ⟨(some 81), .move (.tmp (2 : Nat)), (some (78, false))⟩,
  ⟨(some 82), .fieldAddr 94 (.tmp (8 : Nat)) 1, (some (78, false))⟩,
  ⟨(some 83), .load 3 (.tmp (82 : Nat)), (some (78, false))⟩,
  ⟨(some 84), .binOp .sub 3 (.tmp (81 : Nat)) (.tmp (83 : Nat)) 3, (some (78, false))⟩,
  ⟨(some 85), .binOp .gtr 3 (.tmp (80 : Nat)) (.tmp (84 : Nat)) 3, (some (78, false))⟩,
  ⟨(some 86), .pick (.tmp (78 : Nat)) (.const (.bool true)) (.tmp (85 : Nat)), none⟩]
def strip_Check_r9 : List SO := [⟨(some 6), .assign (.const (.int .i64 3)), none⟩]
def strip_Check_r10 : List SO := [⟨(some 87), .move (.tmp (7 : Nat)), none⟩,
  ⟨(some 88), .binOp .gtr 3 (.tmp (87 : Nat)) (.const (.int .i64 0)) 3, none⟩,
  ⟨(some 89), .move (.tmp (88 : Nat)), none⟩,
  ⟨(some 90), .fieldAddr 94 (.tmp (8 : Nat)) 0, (some (89, true))⟩,
  ⟨(some 91), .load 3 (.tmp (90 : Nat)), (some (89, true))⟩,
  ⟨(some 92), .move (.tmp (0 : Nat)), (some (89, true))⟩,
  ⟨(some 93), .move (.tmp (7 : Nat)), (some (89, true))⟩,
  ⟨(some 94), .binOp .sub 3 (.tmp (93 : Nat)) (.const (.int .i64 1)) 3, (some (89, true))⟩,
  ⟨(some 95), .indexAddr 74 (.tmp (92 : Nat)) (.tmp (94 : Nat)), (some (89, true))⟩,
  ⟨(some 96), .fieldAddr 94 (.tmp (95 : Nat)) 0, (some (89, true))⟩,
  ⟨(some 97), .load 3 (.tmp (96 : Nat)), (some (89, true))⟩,
  ⟨(some 98), .move (.tmp (0 : Nat)), (some (89, true))⟩,
  ⟨(some 99), .move (.tmp (7 : Nat)), (some (89, true))⟩,
  ⟨(some 100), .binOp .sub 3 (.tmp (99 : Nat)) (.const (.int .i64 1)) 3, (some (89, true))⟩,
  ⟨(some 101), .indexAddr 74 (.tmp (98 : Nat)) (.tmp (100 : Nat)), (some (89, true))⟩,
  ⟨(some 102), .fieldAddr 94 (.tmp (101 : Nat)) 1, (some (89, true))⟩,
  ⟨(some 103), .load 3 (.tmp (102 : Nat)), (some (89, true))⟩,
  ⟨(some 104), .binOp .add 3 (.tmp (97 : Nat)) (.tmp (103 : Nat)) 3, (some (89, true))⟩,
  ⟨(some 105), .binOp .lss 3 (.tmp (91 : Nat)) (.tmp (104 : Nat)) 3, (some (89, true))⟩,
  ⟨(some 106), .pick (.tmp (89 : Nat)) (.tmp (105 : Nat)) (.const (.bool false)), none⟩]
def strip_Check_a10 : List (List Nat) := [[], [0], [1], [2], [3, 2], [2], [2], [6, 2], [5, 7, 2], [8, 2], [9, 2], [2], [2], [12, 2], [11, 13, 2], [14, 2], [15, 2], [10, 16, 2], [4, 17, 2], [2, 18]]
def strip_Check_r11 : List SO := [⟨(some 6), .assign (.const (.int .i64 18)), none⟩]
def strip_Check_r12 : List SO := [⟨(some 107), .binOp .add 3 (.tmp (28 : Nat)) (.const (.int .i64 1)) 3, none⟩,
  ⟨(some 28), .move (.tmp (107 : Nat)), none⟩]
def strip_Check_r13 : List SO := [⟨(some 6), .assign (.const (.int .i64 0)), none⟩]
def strip_Check_c : SF := ⟨108, (.seq (.reg strip_Check_r0)
  (.seq (.seq (.reg strip_Check_r1)
  (.cond (.tmp (11 : Nat)) (.seq (.reg strip_Check_r2)
  .ret) .skip))
  (.seq (.seq (.reg strip_Check_r3)
  (.cond (.tmp (25 : Nat)) (.seq (.reg strip_Check_r4)
  .ret) .skip))
  (.seq (.seq (.reg strip_Check_r5)
  (.block 0 (.loop (.seq (.reg strip_Check_r6)
  (.seq (.cond (.tmp (29 : Nat)) .skip (.exit 0))
  (.seq (.block 1 (.seq (.reg strip_Check_r7)
  (.seq (.seq (.reg strip_Check_r8)
  (.cond (.tmp (86 : Nat)) (.seq (.reg strip_Check_r9)
  .ret) .skip))
  (.seq (.regd strip_Check_r10 strip_Check_a10)
  (.cond (.tmp (106 : Nat)) (.seq (.reg strip_Check_r11)
  .ret) .skip)))))
  (.reg strip_Check_r12)))))))
  (.seq (.reg strip_Check_r13)
  .ret))))), [.tmp 6]⟩
theorem strip_Check_s : slimF Try.prog 75 = some strip_Check_c := by kernel_rfl
/-- printworks/strip.area -/
def strip_area_r0 : List SO := [⟨(some 3), .box 94 (.tmp (1 : Nat)), none⟩,
  ⟨(some 4), .assign (.const (.int .i64 0)), none⟩]
def strip_area_r1 : List SO := [⟨(some 5), .assign (.const (.int .i64 0)), none⟩]
def strip_area_r2 : List SO := [⟨(some 8), .move (.tmp (0 : Nat)), none⟩,
  ⟨(some 9), .nilCheck (.tmp (8 : Nat)), none⟩,
  ⟨(some 10), .fieldAddr 28 (.tmp (9 : Nat)) 1, none⟩,
  ⟨(some 11), .load 3 (.tmp (10 : Nat)), none⟩,
  ⟨(some 12), .move (.const (.int .i64 0)), none⟩]
def strip_area_r3 : List SO := [⟨(some 13), .binOp .lss 3 (.tmp (12 : Nat)) (.tmp (11 : Nat)) 3, none⟩]
def strip_area_r4 : List SO := [⟨(some 14), .move (.tmp (12 : Nat)), none⟩,
  ⟨(some 6), .assign (.tmp (14 : Nat)), none⟩]
def strip_area_r5 : List SO := [⟨(some 15), .fieldAddr 94 (.tmp (3 : Nat)) 1, none⟩,
  ⟨(some 16), .load 3 (.tmp (15 : Nat)), none⟩,
  ⟨(some 17), .move (.const (.int .i64 0)), none⟩]
def strip_area_r6 : List SO := [⟨(some 18), .binOp .lss 3 (.tmp (17 : Nat)) (.tmp (16 : Nat)) 3, none⟩]
def strip_area_r7 : List SO := [⟨(some 19), .move (.tmp (17 : Nat)), none⟩,
  ⟨(some 7), .assign (.tmp (19 : Nat)), none⟩]
def strip_area_r8 : List SO := [⟨(some 20), .move (.tmp (0 : Nat)), none⟩,
  ⟨(some 21), .fieldAddr 94 (.tmp (3 : Nat)) 0, none⟩,
  ⟨(some 22), .load 3 (.tmp (21 : Nat)), none⟩,
  ⟨(some 23), .move (.tmp (7 : Nat)), none⟩,
  ⟨(some 24), .binOp .add 3 (.tmp (22 : Nat)) (.tmp (23 : Nat)) 3, none⟩,
  ⟨(some 25), .move (.tmp (6 : Nat)), none⟩,
  ⟨(some 26), .call ⟨(.value (.func (52 : Nat))), #[(.tmp (20 : Nat)), (.tmp (24 : Nat)), (.tmp (25 : Nat))], #[97, 3, 3]⟩, none⟩]
def strip_area_r9 : List SO := [⟨(some 27), .move (.tmp (5 : Nat)), none⟩,
  ⟨(some 28), .binOp .add 3 (.tmp (27 : Nat)) (.const (.int .i64 1)) 3, none⟩,
  ⟨(some 5), .assign (.tmp (28 : Nat)), none⟩]
def strip_area_r10 : List SO := [⟨(some 29), .binOp .add 3 (.tmp (17 : Nat)) (.const (.int .i64 1)) 3, none⟩,
  ⟨(some 17), .move (.tmp (29 : Nat)), none⟩]
def strip_area_r11 : List SO := [⟨(some 30), .binOp .add 3 (.tmp (12 : Nat)) (.const (.int .i64 1)) 3, none⟩,
  ⟨(some 12), .move (.tmp (30 : Nat)), none⟩]
def strip_area_r12 : List SO := [⟨(some 31), .move (.tmp (5 : Nat)), none⟩,
  ⟨(some 32), .binOp .mul 3 (.const (.int .i64 255)) (.tmp (31 : Nat)) 3, none⟩,
  ⟨(some 33), .fieldAddr 94 (.tmp (3 : Nat)) 1, none⟩,
  ⟨(some 34), .load 3 (.tmp (33 : Nat)), none⟩,
  ⟨(some 35), .move (.tmp (0 : Nat)), none⟩,
  ⟨(some 36), .nilCheck (.tmp (35 : Nat)), none⟩,
  ⟨(some 37), .fieldAddr 28 (.tmp (36 : Nat)) 1, none⟩,
  ⟨(some 38), .load 3 (.tmp (37 : Nat)), none⟩,
  ⟨(some 39), .binOp .mul 3 (.tmp (34 : Nat)) (.tmp (38 : Nat)) 3, none⟩,
  ⟨(some 40), .call ⟨(.value (.func (84 : Nat))), #[(.tmp (32 : Nat)), (.tmp (39 : Nat))], #[3, 3]⟩, none⟩,
  ⟨(some 4), .assign (.tmp (40 : Nat)), none⟩]
def strip_area_a12 : List (List Nat) := [[], [0], [], [2], [], [4], [5], [6], [3, 7], [1, 8], [9, 9, 0, 1, 2, 3, 4, 5, 6, 7, 8, 9]]
def strip_area_c : SF := ⟨41, (.seq (.reg strip_area_r0)
  (.seq (.reg strip_area_r1)
  (.seq (.seq (.reg strip_area_r2)
  (.block 0 (.loop (.seq (.reg strip_area_r3)
  (.seq (.cond (.tmp (13 : Nat)) .skip (.exit 0))
  (.seq (.block 1 (.seq (.reg strip_area_r4)
  (.seq (.reg strip_area_r5)
  (.block 2 (.loop (.seq (.reg strip_area_r6)
  (.seq (.cond (.tmp (18 : Nat)) .skip (.exit 2))
  (.seq (.block 3 (.seq (.reg strip_area_r7)
  (.seq (.reg strip_area_r8)
  (.cond (.tmp (26 : Nat)) (.reg strip_area_r9) .skip))))
  (.reg strip_area_r10)))))))))
  (.reg strip_area_r11)))))))
  (.seq (.regd strip_area_r12 strip_area_a12)
  .ret)))), [.tmp 4]⟩
theorem strip_area_s : slimF Try.prog 79 = some strip_area_c := by kernel_rfl
def tbl_strip : List (Nat × SF) := [(18, strip_Locate_c), (19, strip_Register_c), (43, strip_Layout_c), (44, strip_Draw_c), (46, strip_Read_c), (49, strip_Mark_c), (75, strip_Check_c), (79, strip_area_c)]
theorem tbl_strip_ok : okT Try.prog tbl_strip := ⟨strip_Locate_s, strip_Register_s, strip_Layout_s, strip_Draw_s, strip_Read_s, strip_Mark_s, strip_Check_s, strip_area_s, trivial⟩

end Go.Proofs.Ytanhalcbghbpaaa
namespace Go.Proofs.Ytanhalcbghbpaaa
open Go Go.Lite
set_option linter.unusedVariables false

/-- printworks/printworksref2.Mod -/
def R2_Mod_r0 : List SO := [⟨(some 4), .assign (.const (.int .i64 0)), none⟩]
def R2_Mod_r1 : List SO := [⟨(some 5), .move (.tmp (0 : Nat)), none⟩,
  ⟨(some 6), .move (.tmp (1 : Nat)), none⟩,
  ⟨(some 7), .move (.tmp (0 : Nat)), none⟩,
  ⟨(some 8), .move (.tmp (1 : Nat)), none⟩,
  ⟨(some 9), .call ⟨(.value (.func (51 : Nat))), #[(.tmp (7 : Nat)), (.tmp (8 : Nat))], #[3, 3]⟩, none⟩,
  ⟨(some 10), .binOp .mul 3 (.tmp (6 : Nat)) (.tmp (9 : Nat)) 3, none⟩,
  ⟨(some 11), .binOp .sub 3 (.tmp (5 : Nat)) (.tmp (10 : Nat)) 3, none⟩,
  ⟨(some 4), .assign (.tmp (11 : Nat)), none⟩]
def R2_Mod_c : SF := ⟨12, (.seq (.reg R2_Mod_r0)
  (.seq (.reg R2_Mod_r1)
  .ret)), [.tmp 4]⟩
theorem R2_Mod_s : slimF Try.prog 16 = some R2_Mod_c := by kernel_rfl
abbrev R2_Mod_f : Nat := 16
/-- printworks/printworksref2.Drawn -/
def R2_Drawn_r0 : List SO := [⟨(some 6), .alloc 28, none⟩]
def R2_Drawn_r1 : List SO := [⟨(some 11), .move (.tmp (0 : Nat)), none⟩,
  ⟨(some 12), .binOp .add 3 (.tmp (11 : Nat)) (.const (.int .i64 7)) 3, none⟩,
  ⟨(some 13), .binOp .quo 3 (.tmp (12 : Nat)) (.const (.int .i64 8)) 3, none⟩,
  ⟨(some 7), .assign (.tmp (13 : Nat)), none⟩]
def R2_Drawn_r2 : List SO := [⟨(some 14), .move (.tmp (0 : Nat)), none⟩,
  ⟨(some 15), .move (.tmp (1 : Nat)), none⟩,
  ⟨(some 16), .move (.tmp (7 : Nat)), none⟩,
  ⟨(some 17), .move (.tmp (1 : Nat)), none⟩,
  ⟨(some 18), .binOp .mul 3 (.tmp (16 : Nat)) (.tmp (17 : Nat)) 3, none⟩,
  ⟨(some 19), .makeSlice 26 (.tmp (18 : Nat)) (.tmp (18 : Nat)), none⟩,
  ⟨(some 20), .build 28 #[(0, (.tmp (14 : Nat))), (1, (.tmp (15 : Nat))), (2, (.tmp (19 : Nat)))], none⟩,
  ⟨(some 8), .alloc 28, none⟩,
  ⟨none, .store 28 (.tmp (8 : Nat)) (.tmp (20 : Nat)), none⟩]
def R2_Drawn_r3 : List SO := [⟨(some 21), .move (.tmp (2 : Nat)), none⟩,
  ⟨(some 22), .call ⟨(.builtin .len), #[(.tmp (21 : Nat))], #[25]⟩, none⟩,
  ⟨(some 23), .move (.const (.int .i64 0)), none⟩]
def R2_Drawn_r4 : List SO := [⟨(some 24), .binOp .lss 3 (.tmp (23 : Nat)) (.tmp (22 : Nat)) 3, none⟩]
def R2_Drawn_r5 : List SO := [⟨(some 25), .move (.tmp (23 : Nat)), none⟩,
  ⟨(some 26), .indexAddr 25 (.tmp (21 : Nat)) (.tmp (23 : Nat)), none⟩,
  ⟨(some 27), .load 4 (.tmp (26 : Nat)), none⟩,
  ⟨(some 9), .assign (.tmp (25 : Nat)), none⟩,
  ⟨(some 10), .assign (.tmp (27 : Nat)), none⟩]
def R2_Drawn_r6 : List SO := [⟨(some 28), .move (.tmp (10 : Nat)), none⟩]
def R2_Drawn_r7 : List SO := [⟨(some 29), .fieldAddr 28 (.tmp (8 : Nat)) 2, none⟩,
  ⟨(some 30), .load 26 (.tmp (29 : Nat)), none⟩,
  ⟨(some 31), .move (.tmp (9 : Nat)), none⟩,
  ⟨(some 32), .move (.tmp (0 : Nat)), none⟩,
  ⟨(some 33), .binOp .quo 3 (.tmp (31 : Nat)) (.tmp (32 : Nat)) 3, none⟩,
  ⟨(some 34), .move (.tmp (7 : Nat)), none⟩,
  ⟨(some 35), .binOp .mul 3 (.tmp (33 : Nat)) (.tmp (34 : Nat)) 3, none⟩,
  ⟨(some 36), .move (.tmp (9 : Nat)), none⟩,
  ⟨(some 37), .move (.tmp (0 : Nat)), none⟩,
  ⟨(some 38), .binOp .rem 3 (.tmp (36 : Nat)) (.tmp (37 : Nat)) 3, none⟩,
  ⟨(some 39), .binOp .quo 3 (.tmp (38 : Nat)) (.const (.int .i64 8)) 3, none⟩,
  ⟨(some 40), .binOp .add 3 (.tmp (35 : Nat)) (.tmp (39 : Nat)) 3, none⟩,
  ⟨(some 41), .indexAddr 26 (.tmp (30 : Nat)) (.tmp (40 : Nat)), none⟩,
  ⟨(some 42), .load 5 (.tmp (41 : Nat)), none⟩,
  ⟨(some 43), .move (.tmp (9 : Nat)), none⟩,
  ⟨(some 44), .move (.tmp (0 : Nat)), none⟩,
  ⟨(some 45), .binOp .rem 3 (.tmp (43 : Nat)) (.tmp (44 : Nat)) 3, none⟩,
  ⟨(some 46), .binOp .rem 3 (.tmp (45 : Nat)) (.const (.int .i64 8)) 3, none⟩,
  ⟨(some 47), .binOp .shr 5 (.const (.int .u8 128)) (.tmp (46 : Nat)) 3, none⟩,
  ⟨(some 48), .binOp .or 5 (.tmp (42 : Nat)) (.tmp (47 : Nat)) 5, none⟩,
  ⟨(some 49), .indexAddr 26 (.tmp (30 : Nat)) (.tmp (40 : Nat)), none⟩,
  ⟨none, .store 5 (.tmp (49 : Nat)) (.tmp (48 : Nat)), none⟩]
def R2_Drawn_a7 : List (List Nat) := [[], [0], [], [], [2, 3], [], [4, 5], [], [], [7, 8], [9], [6, 10], [1, 11], [12], [], [], [14, 15], [16], [17], [13, 18], [1, 11, 0, 1, 2, 3, 4, 5, 6, 7, 8, 9, 10, 11, 12, 13, 14, 15, 16, 17, 18, 19], [20, 19, 0, 1, 2, 3, 4, 5, 6, 7, 8, 9, 10, 11, 12, 13, 14, 15, 16, 17, 18, 19]]
def R2_Drawn_r8 : List SO := [⟨(some 50), .binOp .add 3 (.tmp (23 : Nat)) (.const (.int .i64 1)) 3, none⟩,
  ⟨(some 23), .move (.tmp (50 : Nat)), none⟩]
def R2_Drawn_r9 : List SO := [⟨(some 51), .load 28 (.tmp (8 : Nat)), none⟩,
  ⟨none, .store 28 (.tmp (6 : Nat)) (.tmp (51 : Nat)), none⟩]
def R2_Drawn_c : SF := ⟨52, (.seq (.reg R2_Drawn_r0)
  (.seq (.reg R2_Drawn_r1)
  (.seq (.reg R2_Drawn_r2)
  (.seq (.seq (.reg R2_Drawn_r3)
  (.block 0 (.loop (.seq (.reg R2_Drawn_r4)
  (.seq (.cond (.tmp (24 : Nat)) .skip (.exit 0))
  (.seq (.block 1 (.seq (.reg R2_Drawn_r5)
  (.seq (.reg R2_Drawn_r6)
  (.cond (.tmp (28 : Nat)) (.regd R2_Drawn_r7 R2_Drawn_a7) .skip))))
  (.reg R2_Drawn_r8)))))))
  (.seq (.reg R2_Drawn_r9)
  .ret))))), [.cell 6 28]⟩
theorem R2_Drawn_s : slimF Try.prog 17 = some R2_Drawn_c := by kernel_rfl
/-- printworks/printworksref2.NoBits -/
def R2_NoBits_r0 : List SO := [⟨(some 1), .box 28 (.tmp (0 : Nat)), none⟩,
  ⟨(some 2), .assign (.const (.bool false)), none⟩]
def R2_NoBits_r1 : List SO := [⟨(some 3), .fieldAddr 28 (.tmp (1 : Nat)) 0, none⟩,
  ⟨(some 4), .load 3 (.tmp (3 : Nat)), none⟩,
  ⟨(some 5), .binOp .eql 3 (.tmp (4 : Nat)) (.const (.int .i64 0)) 3, none⟩,
  ⟨(some 6), .move (.tmp (5 : Nat)), none⟩,
  ⟨(some 7), .fieldAddr 28 (.tmp (1 : Nat)) 1, (some (6, true))⟩,
  ⟨(some 8), .load 3 (.tmp (7 : Nat)), (some (6, true))⟩,
  ⟨(some 9), .binOp .eql 3 (.tmp (8 : Nat)) (.const (.int .i64 0)) 3, (some (6, true))⟩,
  ⟨(some 10), .pick (.tmp (6 : Nat)) (.tmp (9 : Nat)) (.const (.bool false)), none⟩,
  ⟨(some 11), .move (.tmp (10 : Nat)), none⟩,
  ⟨(some 12), .fieldAddr 28 (.tmp (1 : Nat)) 2, (some (11, true))⟩,
  ⟨(some 13), .load 26 (.tmp (12 : Nat)), (some (11, true))⟩,
  ⟨(some 14), .call ⟨(.builtin .len), #[(.tmp (13 : Nat))], #[26]⟩, (some (11, true))⟩,
  ⟨(some 15), .binOp .eql 3 (.tmp (14 : Nat)) (.const (.int .i64 0)) 3, (some (11, true))⟩,
  ⟨(some 16), .pick (.tmp (11 : Nat)) (.tmp (15 : Nat)) (.const (.bool false)), none⟩,
  ⟨(some 2), .assign (.tmp (16 : Nat)), none⟩]
def R2_NoBits_c : SF := ⟨17, (.seq (.reg R2_NoBits_r0)
  (.seq (.reg R2_NoBits_r1)
  .ret)), [.tmp 2]⟩
theorem R2_NoBits_s : slimF Try.prog 23 = some R2_NoBits_c := by kernel_rfl
/-- printworks/printworksref2.SameBits -/
def R2_SameBits_r0 : List SO := [⟨(some 2), .box 28 (.tmp (0 : Nat)), none⟩,
  ⟨(some 3), .box 28 (.tmp (1 : Nat)), none⟩,
  ⟨(some 4), .assign (.const (.bool false)), none⟩]
def R2_SameBits_r1 : List SO := [⟨(some 5), .fieldAddr 28 (.tmp (2 : Nat)) 0, none⟩,
  ⟨(some 6), .load 3 (.tmp (5 : Nat)), none⟩,
  ⟨(some 7), .fieldAddr 28 (.tmp (3 : Nat)) 0, none⟩,
  ⟨(some 8), .load 3 (.tmp (7 : Nat)), none⟩,
  ⟨(some 9), .binOp .eql 3 (.tmp (6 : Nat)) (.tmp (8 : Nat)) 3, none⟩,
  ⟨(some 10), .move (.tmp (9 : Nat)), none⟩,
  ⟨(some 11), .fieldAddr 28 (.tmp (2 : Nat)) 1, (some (10, true))⟩,
  ⟨(some 12), .load 3 (.tmp (11 : Nat)), (some (10, true))⟩,
  ⟨(some 13), .fieldAddr 28 (.tmp (3 : Nat)) 1, (some (10, true))⟩,
  ⟨(some 14), .load 3 (.tmp (13 : Nat)), (some (10, true))⟩,
  ⟨(some 15), .binOp .eql 3 (.tmp (12 : Nat)) (.tmp (14 : Nat)) 3, (some (10, true))⟩,
  ⟨(some 16), .pick (.tmp (10 : Nat)) (.tmp (15 : Nat)) (.const (.bool false)), none⟩,
  ⟨(some 17), .move (.tmp (16 : Nat)), none⟩,
  ⟨(some 18), .fieldAddr 28 (.tmp (2 : Nat)) 2, (some (17, true))⟩,
  ⟨(some 19), .load 26 (.tmp (18 : Nat)), (some (17, true))⟩,
  ⟨(some 20), .fieldAddr 28 (.tmp (3 : Nat)) 2, (some (17, true))⟩,
  ⟨(some 21), .load 26 (.tmp (20 : Nat)), (some (17, true))⟩,
  ⟨(some 22), .call ⟨(.value (.func (50 : Nat))), #[(.tmp (19 : Nat)), (.tmp (21 : Nat))], #[26, 26]⟩, (some (17, true))⟩,
  ⟨(some 23), .pick (.tmp (17 : Nat)) (.tmp (22 : Nat)) (.const (.bool false)), none⟩,
  ⟨(some 4), .assign (.tmp (23 : Nat)), none⟩]
def R2_SameBits_c : SF := ⟨24, (.seq (.reg R2_SameBits_r0)
  (.seq (.reg R2_SameBits_r1)
  .ret)), [.tmp 4]⟩
theorem R2_SameBits_s : slimF Try.prog 24 = some R2_SameBits_c := by kernel_rfl
/-- printworks/printworksref2.SameInts -/
def R2_SameInts_r0 : List SO := [⟨(some 4), .assign (.const (.bool false)), none⟩]
def R2_SameInts_r1 : List SO := [⟨(some 6), .move (.tmp (0 : Nat)), none⟩,
  ⟨(some 7), .call ⟨(.builtin .len), #[(.tmp (6 : Nat))], #[22]⟩, none⟩,
  ⟨(some 8), .move (.tmp (1 : Nat)), none⟩,
  ⟨(some 9), .call ⟨(.builtin .len), #[(.tmp (8 : Nat))], #[22]⟩, none⟩,
  ⟨(some 10), .binOp .neq 3 (.tmp (7 : Nat)) (.tmp (9 : Nat)) 3, none⟩]
def R2_SameInts_r2 : List SO := [⟨(some 4), .assign (.const (.bool false)), none⟩]
def R2_SameInts_r3 : List SO := [⟨(some 11), .move (.tmp (0 : Nat)), none⟩,
  ⟨(some 12), .call ⟨(.builtin .len), #[(.tmp (11 : Nat))], #[22]⟩, none⟩,
  ⟨(some 13), .move (.const (.int .i64 0)), none⟩]
def R2_SameInts_r4 : List SO := [⟨(some 14), .binOp .lss 3 (.tmp (13 : Nat)) (.tmp (12 : Nat)) 3, none⟩]
def R2_SameInts_r5 : List SO := [⟨(some 15), .move (.tmp (13 : Nat)), none⟩,
  ⟨(some 5), .assign (.tmp (15 : Nat)), none⟩]
def R2_SameInts_r6 : List SO := [⟨(some 16), .move (.tmp (0 : Nat)), none⟩,
  ⟨(some 17), .move (.tmp (5 : Nat)), none⟩,
  ⟨(some 18), .indexAddr 22 (.tmp (16 : Nat)) (.tmp (17 : Nat)), none⟩,
  ⟨(some 19), .load 3 (.tmp (18 : Nat)), none⟩,
  ⟨(some 20), .move (.tmp (1 : Nat)), none⟩,
  ⟨(some 21), .move (.tmp (5 : Nat)), none⟩,
  ⟨(some 22), .indexAddr 22 (.tmp (20 : Nat)) (.tmp (21 : Nat)), none⟩,
  ⟨(some 23), .load 3 (.tmp (22 : Nat)), none⟩,
  ⟨(some 24), .binOp .neq 3 (.tmp (19 : Nat)) (.tmp (23 : Nat)) 3, none⟩]
def R2_SameInts_a6 : List (List Nat) := [[], [], [0, 1], [2], [], [], [4, 5], [6], [3, 7]]
def R2_SameInts_r7 : List SO := [⟨(some 4), .assign (.const (.bool false)), none⟩]
def R2_SameInts_r8 : List SO := [⟨(some 25), .binOp .add 3 (.tmp (13 : Nat)) (.const (.int .i64 1)) 3, none⟩,
  ⟨(some 13), .move (.tmp (25 : Nat)), none⟩]
def R2_SameInts_r9 : List SO := [⟨(some 4), .assign (.const (.bool true)), none⟩]
def R2_SameInts_c : SF := ⟨26, (.seq (.reg R2_SameInts_r0)
  (.seq (.seq (.reg R2_SameInts_r1)
  (.cond (.tmp (10 : Nat)) (.seq (.reg R2_SameInts_r2)
  .ret) .skip))
  (.seq (.seq (.reg R2_SameInts_r3)
  (.block 0 (.loop (.seq (.reg R2_SameInts_r4)
  (.seq (.cond (.tmp (14 : Nat)) .skip (.exit 0))
  (.seq (.block 1 (.seq (.reg R2_SameInts_r5)
  (.seq (.regd R2_SameInts_r6 R2_SameInts_a6)
  (.cond (.tmp (24 : Nat)) (.seq (.reg R2_SameInts_r7)
  .ret) .skip))))
  (.reg R2_SameInts_r8)))))))
  (.seq (.reg R2_SameInts_r9)
  .ret)))), [.tmp 4]⟩
theorem R2_SameInts_s : slimF Try.prog 32 = some R2_SameInts_c := by kernel_rfl
/-- printworks/printworksref2.SameBytes -/
def R2_SameBytes_r0 : List SO := [⟨(some 4), .assign (.const (.bool false)), none⟩]
def R2_SameBytes_r1 : List SO := [⟨(some 5), .move (.tmp (0 : Nat)), none⟩,
  ⟨(some 6), .convert 26 9 (.tmp (5 : Nat)), none⟩,
  ⟨(some 7), .move (.tmp (1 : Nat)), none⟩,
  ⟨(some 8), .convert 26 9 (.tmp (7 : Nat)), none⟩,
  ⟨(some 9), .binOp .eql 9 (.tmp (6 : Nat)) (.tmp (8 : Nat)) 9, none⟩,
  ⟨(some 4), .assign (.tmp (9 : Nat)), none⟩]
def R2_SameBytes_c : SF := ⟨10, (.seq (.reg R2_SameBytes_r0)
  (.seq (.reg R2_SameBytes_r1)
  .ret)), [.tmp 4]⟩
theorem R2_SameBytes_s : slimF Try.prog 50 = some R2_SameBytes_c := by kernel_rfl
/-- printworks/printworksref2.Floor -/
def R2_Floor_r0 : List SO := [⟨(some 4), .assign (.const (.int .i64 0)), none⟩]
def R2_Floor_r1 : List SO := [⟨(some 6), .move (.tmp (0 : Nat)), none⟩,
  ⟨(some 7), .move (.tmp (1 : Nat)), none⟩,
  ⟨(some 8), .binOp .quo 3 (.tmp (6 : Nat)) (.tmp (7 : Nat)) 3, none⟩,
  ⟨(some 5), .assign (.tmp (8 : Nat)), none⟩]
def R2_Floor_r2 : List SO := [⟨(some 9), .move (.tmp (5 : Nat)), none⟩,
  ⟨(some 10), .move (.tmp (1 : Nat)), none⟩,
  ⟨(some 11), .binOp .mul 3 (.tmp (9 : Nat)) (.tmp (10 : Nat)) 3, none⟩,
  ⟨(some 12), .move (.tmp (0 : Nat)), none⟩,
  ⟨(some 13), .binOp .gtr 3 (.tmp (11 : Nat)) (.tmp (12 : Nat)) 3, none⟩]
def R2_Floor_r3 : List SO := [⟨(some 14), .move (.tmp (5 : Nat)), none⟩,
  ⟨(some 15), .binOp .sub 3 (.tmp (14 : Nat)) (.const (.int .i64 1)) 3, none⟩,
  ⟨(some 5), .assign (.tmp (15 : Nat)), none⟩]
def R2_Floor_r4 : List SO := [⟨(some 16), .move (.tmp (5 : Nat)), none⟩,
  ⟨(some 4), .assign (.tmp (16 : Nat)), none⟩]
def R2_Floor_c : SF := ⟨17, (.seq (.reg R2_Floor_r0)
  (.seq (.reg R2_Floor_r1)
  (.seq (.seq (.reg R2_Floor_r2)
  (.cond (.tmp (13 : Nat)) (.reg R2_Floor_r3) .skip))
  (.seq (.reg R2_Floor_r4)
  .ret)))), [.tmp 4]⟩
theorem R2_Floor_s : slimF Try.prog 51 = some R2_Floor_c := by kernel_rfl
abbrev R2_Floor_f : Nat := 51

def tbl_R2 : List (Nat × SF) := [(16, R2_Mod_c), (17, R2_Drawn_c), (23, R2_NoBits_c), (24, R2_SameBits_c), (32, R2_SameInts_c), (50, R2_SameBytes_c), (51, R2_Floor_c)]
theorem tbl_R2_ok : okT Try.prog tbl_R2 := ⟨R2_Mod_s, R2_Drawn_s, R2_NoBits_s, R2_SameBits_s, R2_SameInts_s, R2_SameBytes_s, R2_Floor_s, trivial⟩

end Go.Proofs.Ytanhalcbghbpaaa
namespace Go.Proofs.Ytanhalcbghbpaaa
open Go Go.Lite
set_option linter.unusedVariables false

/-- printworks/sheet.Print -/
def sheet_Print_r0 : List SO := [⟨(some 6), .alloc 47, none⟩,
  ⟨(some 7), .assign (.const (.int .i64 0)), none⟩]
def sheet_Print_r1 : List SO := [⟨(some 14), .move (.tmp (0 : Nat)), none⟩,
  ⟨(some 15), .move (.tmp (1 : Nat)), none⟩,
  ⟨(some 16), .move (.tmp (2 : Nat)), none⟩,
  ⟨(some 17), .call ⟨(.value (.func (74 : Nat))), #[(.tmp (14 : Nat)), (.tmp (15 : Nat)), (.tmp (16 : Nat))], #[38, 22, 35]⟩, none⟩,
  ⟨(some 8), .assign (.tmp (17 : Nat)), none⟩]
def sheet_Print_r2 : List SO := [⟨(some 18), .move (.tmp (8 : Nat)), none⟩,
  ⟨(some 19), .binOp .neq 32 (.tmp (18 : Nat)) (.const (.int .i64 0)) 32, none⟩]
def sheet_Print_r3 : List SO := [⟨(some 20), .build 47 #[], none⟩,
  ⟨(some 21), .move (.tmp (8 : Nat)), none⟩,
  ⟨none, .store 47 (.tmp (6 : Nat)) (.tmp (20 : Nat)), none⟩,
  ⟨(some 7), .assign (.tmp (21 : Nat)), none⟩]
def sheet_Print_r4 : List SO := [⟨(some 22), .move (.tmp (0 : Nat)), none⟩,
  ⟨(some 23), .indexAddr 38 (.tmp (22 : Nat)) (.const (.int .i64 0)), none⟩,
  ⟨(some 24), .fieldAddr 28 (.tmp (23 : Nat)) 0, none⟩,
  ⟨(some 25), .load 3 (.tmp (24 : Nat)), none⟩,
  ⟨(some 26), .move (.tmp (0 : Nat)), none⟩,
  ⟨(some 27), .indexAddr 38 (.tmp (26 : Nat)) (.const (.int .i64 0)), none⟩,
  ⟨(some 28), .fieldAddr 28 (.tmp (27 : Nat)) 1, none⟩,
  ⟨(some 29), .load 3 (.tmp (28 : Nat)), none⟩,
  ⟨(some 30), .move (.tmp (0 : Nat)), none⟩,
  ⟨(some 31), .indexAddr 38 (.tmp (30 : Nat)) (.const (.int .i64 0)), none⟩,
  ⟨(some 32), .fieldAddr 28 (.tmp (31 : Nat)) 0, none⟩,
  ⟨(some 33), .load 3 (.tmp (32 : Nat)), none⟩,
  ⟨(some 34), .move (.tmp (0 : Nat)), none⟩,
  ⟨(some 35), .indexAddr 38 (.tmp (34 : Nat)) (.const (.int .i64 0)), none⟩,
  ⟨(some 36), .fieldAddr 28 (.tmp (35 : Nat)) 1, none⟩,
  ⟨(some 37), .load 3 (.tmp (36 : Nat)), none⟩,
  ⟨(some 38), .binOp .mul 3 (.tmp (33 : Nat)) (.tmp (37 : Nat)) 3, none⟩,
  ⟨(some 39), .makeSlice 26 (.tmp (38 : Nat)) (.tmp (38 : Nat)), none⟩,
  ⟨(some 40), .build 47 #[(0, (.tmp (25 : Nat))), (1, (.tmp (29 : Nat))), (2, (.tmp (39 : Nat)))], none⟩,
  ⟨(some 9), .alloc 47, none⟩,
  ⟨none, .store 47 (.tmp (9 : Nat)) (.tmp (40 : Nat)), none⟩]
def sheet_Print_a4 : List (List Nat) := [[], [0], [1], [2], [], [4], [5], [6], [], [8], [9], [10], [], [12], [13], [14], [11, 15], [16, 16], [3, 7, 17], [], [19, 18, 0, 1, 2, 3, 4, 5, 6, 7, 8, 9, 10, 11, 12, 13, 14, 15, 16, 17, 18, 19]]
def sheet_Print_r5 : List SO := [⟨(some 41), .move (.tmp (0 : Nat)), none⟩,
  ⟨(some 42), .call ⟨(.builtin .len), #[(.tmp (41 : Nat))], #[38]⟩, none⟩,
  ⟨(some 43), .move (.const (.int .i64 0)), none⟩]
def sheet_Print_r6 : List SO := [⟨(some 44), .binOp .lss 3 (.tmp (43 : Nat)) (.tmp (42 : Nat)) 3, none⟩]
def sheet_Print_r7 : List SO := [⟨(some 45), .move (.tmp (43 : Nat)), none⟩,
  ⟨(some 10), .assign (.tmp (45 : Nat)), none⟩]
def sheet_Print_r8 : List SO := [⟨(some 46), .move (.tmp (0 : Nat)), none⟩,
  ⟨(some 47), .move (.tmp (10 : Nat)), none⟩,
  ⟨(some 48), .indexAddr 38 (.tmp (46 : Nat)) (.tmp (47 : Nat)), none⟩,
  ⟨(some 49), .move (.tmp (1 : Nat)), none⟩,
  ⟨(some 50), .move (.tmp (10 : Nat)), none⟩,
  ⟨(some 51), .indexAddr 22 (.tmp (49 : Nat)) (.tmp (50 : Nat)), none⟩,
  ⟨(some 52), .load 3 (.tmp (51 : Nat)), none⟩,
  ⟨(some 53), .call ⟨(.value (.func (69 : Nat))), #[(.tmp (48 : Nat)), (.tmp (52 : Nat))], #[97, 3]⟩, none⟩,
  ⟨(some 11), .alloc 28, none⟩,
  ⟨none, .store 28 (.tmp (11 : Nat)) (.tmp (53 : Nat)), none⟩]
def sheet_Print_a8 : List (List Nat) := [[], [], [0, 1], [], [], [3, 4], [5], [2, 6], [], [8, 7, 7, 0, 1, 2, 3, 4, 5, 6, 7, 8]]
def sheet_Print_r9 : List SO := [⟨(some 54), .fieldAddr 47 (.tmp (9 : Nat)) 1, none⟩,
  ⟨(some 55), .load 3 (.tmp (54 : Nat)), none⟩,
  ⟨(some 56), .move (.const (.int .i64 0)), none⟩]
def sheet_Print_r10 : List SO := [⟨(some 57), .binOp .lss 3 (.tmp (56 : Nat)) (.tmp (55 : Nat)) 3, none⟩]
def sheet_Print_r11 : List SO := [⟨(some 58), .move (.tmp (56 : Nat)), none⟩,
  ⟨(some 12), .assign (.tmp (58 : Nat)), none⟩]
def sheet_Print_r12 : List SO := [⟨(some 59), .fieldAddr 47 (.tmp (9 : Nat)) 0, none⟩,
  ⟨(some 60), .load 3 (.tmp (59 : Nat)), none⟩,
  ⟨(some 61), .move (.const (.int .i64 0)), none⟩]
def sheet_Print_r13 : List SO := [⟨(some 62), .binOp .lss 3 (.tmp (61 : Nat)) (.tmp (60 : Nat)) 3, none⟩]
def sheet_Print_r14 : List SO := [⟨(some 63), .move (.tmp (61 : Nat)), none⟩,
  ⟨(some 13), .assign (.tmp (63 : Nat)), none⟩]
def sheet_Print_r15 : List SO := [⟨(some 64), .move (.tmp (13 : Nat)), none⟩,
  ⟨(some 65), .move (.tmp (2 : Nat)), none⟩,
  ⟨(some 66), .move (.tmp (10 : Nat)), none⟩,
  ⟨(some 67), .indexAddr 35 (.tmp (65 : Nat)) (.tmp (66 : Nat)), none⟩,
  ⟨(some 68), .fieldAddr 31 (.tmp (67 : Nat)) 0, none⟩,
  ⟨(some 69), .load 3 (.tmp (68 : Nat)), none⟩,
  ⟨(some 70), .binOp .sub 3 (.tmp (64 : Nat)) (.tmp (69 : Nat)) 3, none⟩,
  ⟨(some 71), .move (.tmp (12 : Nat)), none⟩,
  ⟨(some 72), .move (.tmp (2 : Nat)), none⟩,
  ⟨(some 73), .move (.tmp (10 : Nat)), none⟩,
  ⟨(some 74), .indexAddr 35 (.tmp (72 : Nat)) (.tmp (73 : Nat)), none⟩,
  ⟨(some 75), .fieldAddr 31 (.tmp (74 : Nat)) 1, none⟩,
  ⟨(some 76), .load 3 (.tmp (75 : Nat)), none⟩,
  ⟨(some 77), .binOp .sub 3 (.tmp (71 : Nat)) (.tmp (76 : Nat)) 3, none⟩,
  ⟨(some 78), .call ⟨(.value (.func (52 : Nat))), #[(.tmp (11 : Nat)), (.tmp (70 : Nat)), (.tmp (77 : Nat))], #[97, 3, 3]⟩, none⟩]
def sheet_Print_a15 : List (List Nat) := [[], [], [], [1, 2], [3], [4], [0, 5], [], [], [], [8, 9], [10], [11], [7, 12], [6, 13]]
def sheet_Print_r16 : List SO := [⟨(some 79), .fieldAddr 47 (.tmp (9 : Nat)) 2, none⟩,
  ⟨(some 80), .load 26 (.tmp (79 : Nat)), none⟩,
  ⟨(some 81), .move (.tmp (12 : Nat)), none⟩,
  ⟨(some 82), .fieldAddr 47 (.tmp (9 : Nat)) 0, none⟩,
  ⟨(some 83), .load 3 (.tmp (82 : Nat)), none⟩,
  ⟨(some 84), .binOp .mul 3 (.tmp (81 : Nat)) (.tmp (83 : Nat)) 3, none⟩,
  ⟨(some 85), .move (.tmp (13 : Nat)), none⟩,
  ⟨(some 86), .binOp .add 3 (.tmp (84 : Nat)) (.tmp (85 : Nat)) 3, none⟩,
  ⟨(some 87), .indexAddr 26 (.tmp (80 : Nat)) (.tmp (86 : Nat)), none⟩,
  ⟨(some 88), .load 5 (.tmp (87 : Nat)), none⟩,
  ⟨(some 89), .move (.tmp (10 : Nat)), none⟩,
  ⟨(some 90), .binOp .shl 5 (.const (.int .u8 1)) (.tmp (89 : Nat)) 3, none⟩,
  ⟨(some 91), .binOp .or 5 (.tmp (88 : Nat)) (.tmp (90 : Nat)) 5, none⟩,
  ⟨(some 92), .indexAddr 26 (.tmp (80 : Nat)) (.tmp (86 : Nat)), none⟩,
  ⟨none, .store 5 (.tmp (92 : Nat)) (.tmp (91 : Nat)), none⟩]
def sheet_Print_a16 : List (List Nat) := [[], [0], [], [], [3], [2, 4], [], [5, 6], [1, 7], [8], [], [10], [9, 11], [1, 7, 0, 1, 2, 3, 4, 5, 6, 7, 8, 9, 10, 11, 12], [13, 12, 0, 1, 2, 3, 4, 5, 6, 7, 8, 9, 10, 11, 12]]
def sheet_Print_r17 : List SO := [⟨(some 93), .binOp .add 3 (.tmp (61 : Nat)) (.const (.int .i64 1)) 3, none⟩,
  ⟨(some 61), .move (.tmp (93 : Nat)), none⟩]
def sheet_Print_r18 : List SO := [⟨(some 94), .binOp .add 3 (.tmp (56 : Nat)) (.const (.int .i64 1)) 3, none⟩,
  ⟨(some 56), .move (.tmp (94 : Nat)), none⟩]
def sheet_Print_r19 : List SO := [⟨(some 95), .binOp .add 3 (.tmp (43 : Nat)) (.const (.int .i64 1)) 3, none⟩,
  ⟨(some 43), .move (.tmp (95 : Nat)), none⟩]
def sheet_Print_r20 : List SO := [⟨(some 96), .load 47 (.tmp (9 : Nat)), none⟩,
  ⟨none, .store 47 (.tmp (6 : Nat)) (.tmp (96 : Nat)), none⟩,
  ⟨(some 7), .assign (.const (.int .i64 0)), none⟩]
def sheet_Print_c : SF := ⟨97, (.seq (.reg sheet_Print_r0)
  (.seq (.seq (.reg sheet_Print_r1)
  (.seq (.reg sheet_Print_r2)
  (.cond (.tmp (19 : Nat)) (.seq (.reg sheet_Print_r3)
  .ret) .skip)))
  (.seq (.regd sheet_Print_r4 sheet_Print_a4)
  (.seq (.seq (.reg sheet_Print_r5)
  (.block 0 (.loop (.seq (.reg sheet_Print_r6)
  (.seq (.cond (.tmp (44 : Nat)) .skip (.exit 0))
  (.seq (.block 1 (.seq (.reg sheet_Print_r7)
  (.seq (.regd sheet_Print_r8 sheet_Print_a8)
  (.seq (.reg sheet_Print_r9)
  (.block 2 (.loop (.seq (.reg sheet_Print_r10)
  (.seq (.cond (.tmp (57 : Nat)) .skip (.exit 2))
  (.seq (.block 3 (.seq (.reg sheet_Print_r11)
  (.seq (.reg sheet_Print_r12)
  (.block 4 (.loop (.seq (.reg sheet_Print_r13)
  (.seq (.cond (.tmp (62 : Nat)) .skip (.exit 4))
  (.seq (.block 5 (.seq (.reg sheet_Print_r14)
  (.seq (.regd sheet_Print_r15 sheet_Print_a15)
  (.cond (.tmp (78 : Nat)) (.regd sheet_Print_r16 sheet_Print_a16) .skip))))
  (.reg sheet_Print_r17)))))))))
  (.reg sheet_Print_r18))))))))))
  (.reg sheet_Print_r19)))))))
  (.seq (.reg sheet_Print_r20)
  .ret))))), [.cell 6 47, .tmp 7]⟩
theorem sheet_Print_s : slimF Try.prog 40 = some sheet_Print_c := by kernel_rfl
abbrev sheet_Print_f : Nat := 40
/-- printworks/sheet.Ink -/
def sheet_Ink_r0 : List SO := [⟨(some 2), .box 47 (.tmp (0 : Nat)), none⟩,
  ⟨(some 4), .alloc 28, none⟩,
  ⟨(some 5), .assign (.const (.int .i64 0)), none⟩]
def sheet_Ink_r1 : List SO := [⟨(some 10), .load 47 (.tmp (2 : Nat)), none⟩,
  ⟨(some 11), .call ⟨(.value (.func (58 : Nat))), #[(.tmp (10 : Nat))], #[47]⟩, none⟩,
  ⟨(some 6), .assign (.tmp (11 : Nat)), none⟩]
def sheet_Ink_r2 : List SO := [⟨(some 12), .move (.tmp (6 : Nat)), none⟩,
  ⟨(some 13), .binOp .neq 32 (.tmp (12 : Nat)) (.const (.int .i64 0)) 32, none⟩]
def sheet_Ink_r3 : List SO := [⟨(some 14), .build 28 #[], none⟩,
  ⟨(some 15), .move (.tmp (6 : Nat)), none⟩,
  ⟨none, .store 28 (.tmp (4 : Nat)) (.tmp (14 : Nat)), none⟩,
  ⟨(some 5), .assign (.tmp (15 : Nat)), none⟩]
def sheet_Ink_r4 : List SO := [⟨(some 16), .move (.tmp (1 : Nat)), none⟩,
  ⟨(some 17), .binOp .lss 3 (.tmp (16 : Nat)) (.const (.int .i64 0)) 3, none⟩,
  ⟨(some 18), .move (.tmp (17 : Nat)), none⟩,
  ⟨(some 19), .move (.tmp (1 : Nat)), (some (18, false))⟩,
  ⟨(some 20), .binOp .geq 3 (.tmp (19 : Nat)) (.const (.int .i64 8)) 3, (some (18, false))⟩,
  ⟨(some 21), .pick (.tmp (18 : Nat)) (.const (.bool true)) (.tmp (20 : Nat)), none⟩]
def sheet_Ink_r5 : List SO := [⟨(some 22), .build 28 #[], none⟩,
  ⟨none, .store 28 (.tmp (4 : Nat)) (.tmp (22 : Nat)), none⟩,
  ⟨(some 5), .assign (.const (.int .i64 3)), none⟩]
def sheet_Ink_r6 : List SO := [⟨(some 23), .fieldAddr 47 (.tmp (2 : Nat)) 0, none⟩,
  ⟨(some 24), .load 3 (.tmp (23 : Nat)), none⟩,
  ⟨(some 25), .fieldAddr 47 (.tmp (2 : Nat)) 1, none⟩,
  ⟨(some 26), .load 3 (.tmp (25 : Nat)), none⟩,
  ⟨(some 27), .call ⟨(.value (.func (67 : Nat))), #[(.tmp (24 : Nat)), (.tmp (26 : Nat))], #[3, 3]⟩, none⟩,
  ⟨(some 7), .alloc 28, none⟩,
  ⟨none, .store 28 (.tmp (7 : Nat)) (.tmp (27 : Nat)), none⟩]
def sheet_Ink_r7 : List SO := [⟨(some 28), .fieldAddr 47 (.tmp (2 : Nat)) 2, none⟩,
  ⟨(some 29), .load 26 (.tmp (28 : Nat)), none⟩,
  ⟨(some 30), .call ⟨(.builtin .len), #[(.tmp (29 : Nat))], #[26]⟩, none⟩,
  ⟨(some 31), .move (.const (.int .i64 0)), none⟩]
def sheet_Ink_r8 : List SO := [⟨(some 32), .binOp .lss 3 (.tmp (31 : Nat)) (.tmp (30 : Nat)) 3, none⟩]
def sheet_Ink_r9 : List SO := [⟨(some 33), .move (.tmp (31 : Nat)), none⟩,
  ⟨(some 34), .indexAddr 26 (.tmp (29 : Nat)) (.tmp (31 : Nat)), none⟩,
  ⟨(some 35), .load 5 (.tmp (34 : Nat)), none⟩,
  ⟨(some 8), .assign (.tmp (33 : Nat)), none⟩,
  ⟨(some 9), .assign (.tmp (35 : Nat)), none⟩]
def sheet_Ink_r10 : List SO := [⟨(some 36), .move (.tmp (9 : Nat)), none⟩,
  ⟨(some 37), .move (.tmp (1 : Nat)), none⟩,
  ⟨(some 38), .binOp .shr 5 (.tmp (36 : Nat)) (.tmp (37 : Nat)) 3, none⟩,
  ⟨(some 39), .binOp .and 5 (.tmp (38 : Nat)) (.const (.int .u8 1)) 5, none⟩,
  ⟨(some 40), .binOp .eql 5 (.tmp (39 : Nat)) (.const (.int .u8 1)) 5, none⟩]
def sheet_Ink_r11 : List SO := [⟨(some 41), .move (.tmp (8 : Nat)), none⟩,
  ⟨(some 42), .fieldAddr 47 (.tmp (2 : Nat)) 0, none⟩,
  ⟨(some 43), .load 3 (.tmp (42 : Nat)), none⟩,
  ⟨(some 44), .binOp .rem 3 (.tmp (41 : Nat)) (.tmp (43 : Nat)) 3, none⟩,
  ⟨(some 45), .move (.tmp (8 : Nat)), none⟩,
  ⟨(some 46), .fieldAddr 47 (.tmp (2 : Nat)) 0, none⟩,
  ⟨(some 47), .load 3 (.tmp (46 : Nat)), none⟩,
  ⟨(some 48), .binOp .quo 3 (.tmp (45 : Nat)) (.tmp (47 : Nat)) 3, none⟩,
  ⟨(some 49), .call ⟨(.value (.func (68 : Nat))), #[(.tmp (7 : Nat)), (.tmp (44 : Nat)), (.tmp (48 : Nat))], #[97, 3, 3]⟩, none⟩]
def sheet_Ink_a11 : List (List Nat) := [[], [], [1], [0, 2], [], [], [5], [4, 6], [3, 7]]
def sheet_Ink_r12 : List SO := [⟨(some 50), .binOp .add 3 (.tmp (31 : Nat)) (.const (.int .i64 1)) 3, none⟩,
  ⟨(some 31), .move (.tmp (50 : Nat)), none⟩]
def sheet_Ink_r13 : List SO := [⟨(some 51), .load 28 (.tmp (7 : Nat)), none⟩,
  ⟨none, .store 28 (.tmp (4 : Nat)) (.tmp (51 : Nat)), none⟩,
  ⟨(some 5), .assign (.const (.int .i64 0)), none⟩]
def sheet_Ink_c : SF := ⟨52, (.seq (.reg sheet_Ink_r0)
  (.seq (.seq (.reg sheet_Ink_r1)
  (.seq (.reg sheet_Ink_r2)
  (.cond (.tmp (13 : Nat)) (.seq (.reg sheet_Ink_r3)
  .ret) .skip)))
  (.seq (.seq (.reg sheet_Ink_r4)
  (.cond (.tmp (21 : Nat)) (.seq (.reg sheet_Ink_r5)
  .ret) .skip))
  (.seq (.reg sheet_Ink_r6)
  (.seq (.seq (.reg sheet_Ink_r7)
  (.block 0 (.loop (.seq (.reg sheet_Ink_r8)
  (.seq (.cond (.tmp (32 : Nat)) .skip (.exit 0))
  (.seq (.block 1 (.seq (.reg sheet_Ink_r9)
  (.seq (.reg sheet_Ink_r10)
  (.cond (.tmp (40 : Nat)) (.regd sheet_Ink_r11 sheet_Ink_a11) .skip))))
  (.reg sheet_Ink_r12)))))))
  (.seq (.reg sheet_Ink_r13)
  .ret)))))), [.cell 4 28, .tmp 5]⟩
theorem sheet_Ink_s : slimF Try.prog 41 = some sheet_Ink_c := by kernel_rfl
abbrev sheet_Ink_f : Nat := 41
/-- printworks/sheet.Check -/
def sheet_Check_r0 : List SO := [⟨(some 1), .box 47 (.tmp (0 : Nat)), none⟩,
  ⟨(some 2), .assign (.const (.int .i64 0)), none⟩]
def sheet_Check_r1 : List SO := [⟨(some 3), .fieldAddr 47 (.tmp (1 : Nat)) 0, none⟩,
  ⟨(some 4), .load 3 (.tmp (3 : Nat)), none⟩,
  ⟨(some 5), .binOp .lss 3 (.tmp (4 : Nat)) (.const (.int .i64 1)) 3, none⟩,
  ⟨(some 6), .move (.tmp (5 : Nat)), none⟩,
  ⟨(some 7), .fieldAddr 47 (.tmp (1 : Nat)) 0, (some (6, false))⟩,
  ⟨(some 8), .load 3 (.tmp (7 : Nat)), (some (6, false))⟩,
  ⟨(some 9), .binOp .gtr 3 (.tmp (8 : Nat)) (.const (.int .i64 1024)) 3, (some (6, false))⟩,
  ⟨(some 10), .pick (.tmp (6 : Nat)) (.const (.bool true)) (.tmp (9 : Nat)), none⟩,
  ⟨(some 11), .move (.tmp (10 : Nat)), none⟩,
  ⟨(some 12), .fieldAddr 47 (.tmp (1 : Nat)) 1, (some (11, false))⟩,
  ⟨(some 13), .load 3 (.tmp (12 : Nat)), (some (11, false))⟩,
  ⟨(some 14), .binOp .lss 3 (.tmp (13 : Nat)) (.const (.int .i64 1)) 3, (some (11, false))⟩,
  ⟨(some 15), .pick (.tmp (11 : Nat)) (.const (.bool true)) (.tmp (14 : Nat)), none⟩,
  ⟨(some 16), .move (.tmp (15 : Nat)), none⟩,
  ⟨(some 17), .fieldAddr 47 (.tmp (1 : Nat)) 1, (some (16, false))⟩,
  ⟨(some 18), .load 3 (.tmp (17 : Nat)), (some (16, false))⟩,
  ⟨(some 19), .binOp .gtr 3 (.tmp (18 : Nat)) (.const (.int .i64 1024)) 3, (some (16, false))⟩,
  ⟨(some 20), .pick (.tmp (16 : Nat)) (.const (.bool true)) (.tmp (19 : Nat)), none⟩]
def sheet_Check_r2 : List SO := [⟨(some 2), .assign (.const (.int .i64 3)), none⟩]
def sheet_Check_r3 : List SO := [⟨(some 21), .fieldAddr 47 (.tmp (1 : Nat)) 2, none⟩,
  ⟨(some 22), .load 26 (.tmp (21 : Nat)), none⟩,
  ⟨(some 23), .call ⟨(.builtin .len), #[(.tmp (22 : Nat))], #[26]⟩, none⟩,
  ⟨(some 24), .fieldAddr 47 (.tmp (1 : Nat)) 0, none⟩,
  ⟨(some 25), .load 3 (.tmp (24 : Nat)), none⟩,
  ⟨(some 26), .fieldAddr 47 (.tmp (1 : Nat)) 1, none⟩,
  ⟨(some 27), .load 3 (.tmp (26 : Nat)), none⟩,
  ⟨(some 28), .binOp .mul 3 (.tmp (25 : Nat)) (.tmp (27 : Nat)) 3, none⟩,
  ⟨(some 29), .binOp .neq 3 (.tmp (23 : Nat)) (.tmp (28 : Nat)) 3, none⟩]
def sheet_Check_r4 : List SO := [⟨(some 2), .assign (.const (.int .i64 4)), none⟩]
def sheet_Check_r5 : List SO := [⟨(some 2), .assign (.const (.int .i64 0)), none⟩]
def sheet_Check_c : SF := ⟨30, (.seq (.reg sheet_Check_r0)
  (.seq (.seq (.reg sheet_Check_r1)
  (.cond (.tmp (20 : Nat)) (.seq (.reg sheet_Check_r2)
  .ret) .skip))
  (.seq (.seq (.reg sheet_Check_r3)
  (.cond (.tmp (29 : Nat)) (.seq (.reg sheet_Check_r4)
  .ret) .skip))
  (.seq (.reg sheet_Check_r5)
  .ret)))), [.tmp 2]⟩
theorem sheet_Check_s : slimF Try.prog 58 = some sheet_Check_c := by kernel_rfl
abbrev sheet_Check_f : Nat := 58
/-- printworks/sheet.check -/
def sheet_check_r0 : List SO := [⟨(some 6), .assign (.const (.int .i64 0)), none⟩]
def sheet_check_r1 : List SO := [⟨(some 12), .move (.tmp (0 : Nat)), none⟩,
  ⟨(some 13), .call ⟨(.builtin .len), #[(.tmp (12 : Nat))], #[38]⟩, none⟩,
  ⟨(some 14), .binOp .gtr 3 (.tmp (13 : Nat)) (.const (.int .i64 8)) 3, none⟩,
  ⟨(some 11), .assign (.tmp (14 : Nat)), none⟩]
def sheet_check_r2 : List SO := [⟨(some 6), .assign (.const (.int .i64 2)), none⟩]
def sheet_check_r3 : List SO := [⟨(some 16), .move (.tmp (0 : Nat)), none⟩,
  ⟨(some 17), .call ⟨(.builtin .len), #[(.tmp (16 : Nat))], #[38]⟩, none⟩,
  ⟨(some 18), .binOp .eql 3 (.tmp (17 : Nat)) (.const (.int .i64 0)) 3, none⟩,
  ⟨(some 15), .assign (.tmp (18 : Nat)), none⟩]
def sheet_check_r4 : List SO := [⟨(some 6), .assign (.const (.int .i64 1)), none⟩]
def sheet_check_r5 : List SO := [⟨(some 20), .move (.tmp (1 : Nat)), none⟩,
  ⟨(some 21), .call ⟨(.builtin .len), #[(.tmp (20 : Nat))], #[22]⟩, none⟩,
  ⟨(some 22), .move (.tmp (0 : Nat)), none⟩,
  ⟨(some 23), .call ⟨(.builtin .len), #[(.tmp (22 : Nat))], #[38]⟩, none⟩,
  ⟨(some 24), .binOp .neq 3 (.tmp (21 : Nat)) (.tmp (23 : Nat)) 3, none⟩,
  ⟨(some 25), .move (.tmp (24 : Nat)), none⟩,
  ⟨(some 26), .move (.tmp (2 : Nat)), (some (25, false))⟩,
  ⟨(some 27), .call ⟨(.builtin .len), #[(.tmp (26 : Nat))], #[35]⟩, (some (25, false))⟩,
  ⟨(some 28), .move (.tmp (0 : Nat)), (some (25, false))⟩,
  ⟨(some 29), .call ⟨(.builtin .len), #[(.tmp (28 : Nat))], #[38]⟩, (some (25, false))⟩,
  ⟨(some 30), .binOp .neq 3 (.tmp (27 : Nat)) (.tmp (29 : Nat)) 3, (some (25, false))⟩,
  ⟨(some 31), .pick (.tmp (25 : Nat)) (.const (.bool true)) (.tmp (30 : Nat)), none⟩,
  ⟨(some 19), .assign (.tmp (31 : Nat)), none⟩]
def sheet_check_r6 : List SO := [⟨(some 6), .assign (.const (.int .i64 4)), none⟩]
def sheet_check_r7 : List SO := [⟨(some 32), .move (.tmp (0 : Nat)), none⟩,
  ⟨(some 33), .call ⟨(.builtin .len), #[(.tmp (32 : Nat))], #[38]⟩, none⟩,
  ⟨(some 34), .move (.const (.int .i64 0)), none⟩]
def sheet_check_r8 : List SO := [⟨(some 35), .binOp .lss 3 (.tmp (34 : Nat)) (.tmp (33 : Nat)) 3, none⟩]
def sheet_check_r9 : List SO := [⟨(some 36), .move (.tmp (34 : Nat)), none⟩,
  ⟨(some 37), .indexAddr 38 (.tmp (32 : Nat)) (.tmp (34 : Nat)), none⟩,
  ⟨(some 38), .load 28 (.tmp (37 : Nat)), none⟩,
  ⟨(some 8), .alloc 28, none⟩,
  ⟨(some 7), .assign (.tmp (36 : Nat)), none⟩,
  ⟨none, .store 28 (.tmp (8 : Nat)) (.tmp (38 : Nat)), none⟩]
def sheet_check_r10 : List SO := [⟨(some 39), .load 28 (.tmp (8 : Nat)), none⟩,
  ⟨(some 40), .call ⟨(.value (.func (22 : Nat))), #[(.tmp (39 : Nat))], #[28]⟩, none⟩,
  ⟨(some 9), .assign (.tmp (40 : Nat)), none⟩]
def sheet_check_r11 : List SO := [⟨(some 41), .move (.tmp (9 : Nat)), none⟩,
  ⟨(some 42), .binOp .neq 32 (.tmp (41 : Nat)) (.const (.int .i64 0)) 32, none⟩]
def sheet_check_r12 : List SO := [⟨(some 43), .move (.tmp (9 : Nat)), none⟩,
  ⟨(some 6), .assign (.tmp (43 : Nat)), none⟩]
def sheet_check_r13 : List SO := [⟨(some 44), .fieldAddr 28 (.tmp (8 : Nat)) 0, none⟩,
  ⟨(some 45), .load 3 (.tmp (44 : Nat)), none⟩,
  ⟨(some 46), .move (.tmp (0 : Nat)), none⟩,
  ⟨(some 47), .indexAddr 38 (.tmp (46 : Nat)) (.const (.int .i64 0)), none⟩,
  ⟨(some 48), .fieldAddr 28 (.tmp (47 : Nat)) 0, none⟩,
  ⟨(some 49), .load 3 (.tmp (48 : Nat)), none⟩,
  ⟨(some 50), .binOp .neq 3 (.tmp (45 : Nat)) (.tmp (49 : Nat)) 3, none⟩,
  ⟨(some 51), .move (.tmp (50 : Nat)), none⟩,
  ⟨(some 52), .fieldAddr 28 (.tmp (8 : Nat)) 1, (some (51, false))⟩,
  ⟨(some 53), .load 3 (.tmp (52 : Nat)), (some (51, false))⟩,
  ⟨(some 54), .move (.tmp (0 : Nat)), (some (51, false))⟩,
  ⟨(some 55), .indexAddr 38 (.tmp (54 : Nat)) (.const (.int .i64 0)), (some (51, false))⟩,
  ⟨(some 56), .fieldAddr 28 (.tmp (55 : Nat)) 1, (some (51, false))⟩,
  ⟨(some 57), .load 3 (.tmp (56 : Nat)), (some (51, false))⟩,
  ⟨(some 58), .binOp .neq 3 (.tmp (53 : Nat)) (.tmp (57 : Nat)) 3, (some (51, false))⟩,
  ⟨(some 59), .pick (.tmp (51 : Nat)) (.const (.bool true)) (.tmp (58 : Nat)), none⟩]
def sheet_check_a13 : List (List Nat) := [[], [0], [], [2], [3], [4], [1, 5], [6], [7], [8, 7], [7], [10, 7], [11, 7], [12, 7], [9, 13, 7], [7, 14]]
def sheet_check_r14 : List SO := [⟨(some 6), .assign (.const (.int .i64 4)), none⟩]
def sheet_check_r15 : List SO := [⟨(some 60), .move (.tmp (1 : Nat)), none⟩,
  ⟨(some 61), .move (.tmp (7 : Nat)), none⟩,
  ⟨(some 62), .indexAddr 22 (.tmp (60 : Nat)) (.tmp (61 : Nat)), none⟩,
  ⟨(some 63), .load 3 (.tmp (62 : Nat)), none⟩,
  ⟨(some 64), .binOp .lss 3 (.tmp (63 : Nat)) (.const (.int .i64 0)) 3, none⟩,
  ⟨(some 65), .move (.tmp (64 : Nat)), none⟩,
  ⟨(some 66), .move (.tmp (1 : Nat)), (some (65, false))⟩,
  ⟨(some 67), .move (.tmp (7 : Nat)), (some (65, false))⟩,
  ⟨(some 68), .indexAddr 22 (.tmp (66 : Nat)) (.tmp (67 : Nat)), (some (65, false))⟩,
  ⟨(some 69), .load 3 (.tmp (68 : Nat)), (some (65, false))⟩,
  ⟨(some 70), .binOp .gtr 3 (.tmp (69 : Nat)) (.const (.int .i64 16)) 3, (some (65, false))⟩,
  ⟨(some 71), .pick (.tmp (65 : Nat)) (.const (.bool true)) (.tmp (70 : Nat)), none⟩]
def sheet_check_r16 : List SO := [⟨(some 6), .assign (.const (.int .i64 3)), none⟩]
def sheet_check_r17 : List SO := [⟨(some 72), .move (.tmp (2 : Nat)), none⟩,
  ⟨(some 73), .move (.tmp (7 : Nat)), none⟩,
  ⟨(some 74), .indexAddr 35 (.tmp (72 : Nat)) (.tmp (73 : Nat)), none⟩,
  ⟨(some 75), .load 31 (.tmp (74 : Nat)), none⟩,
  ⟨(some 10), .alloc 31, none⟩,
  ⟨none, .store 31 (.tmp (10 : Nat)) (.tmp (75 : Nat)), none⟩]
def sheet_check_r18 : List SO := [⟨(some 76), .fieldAddr 31 (.tmp (10 : Nat)) 0, none⟩,
  ⟨(some 77), .load 3 (.tmp (76 : Nat)), none⟩,
  ⟨(some 78), .binOp .lss 3 (.tmp (77 : Nat)) (.const (.int .i64 (-1024))) 3, none⟩,
  ⟨(some 79), .move (.tmp (78 : Nat)), none⟩,
  ⟨(some 80), .fieldAddr 31 (.tmp (10 : Nat)) 0, (some (79, false))⟩,
  ⟨(some 81), .load 3 (.tmp (80 : Nat)), (some (79, false))⟩,
  ⟨(some 82), .binOp .gtr 3 (.tmp (81 : Nat)) (.const (.int .i64 1024)) 3, (some (79, false))⟩,
  ⟨(some 83), .pick (.tmp (79 : Nat)) (.const (.bool true)) (.tmp (82 : Nat)), none⟩,
  ⟨(some 84), .move (.tmp (83 : Nat)), none⟩,
  ⟨(some 85), .fieldAddr 31 (.tmp (10 : Nat)) 1, (some (84, false))⟩,
  ⟨(some 86), .load 3 (.tmp (85 : Nat)), (some (84, false))⟩,
  ⟨(some 87), .binOp .lss 3 (.tmp (86 : Nat)) (.const (.int .i64 (-1024))) 3, (some (84, false))⟩,
  ⟨(some 88), .pick (.tmp (84 : Nat)) (.const (.bool true)) (.tmp (87 : Nat)), none⟩,
  ⟨(some 89), .move (.tmp (88 : Nat)), none⟩,
  ⟨(some 90), .fieldAddr 31 (.tmp (10 : Nat)) 1, (some (89, false))⟩,
  ⟨(some 91), .load 3 (.tmp (90 : Nat)), (some (89, false))⟩,
  ⟨(some 92), .binOp .gtr 3 (.tmp (91 : Nat)) (.const (.int .i64 1024)) 3, (some (89, false))⟩,
  ⟨(some 93), .pick (.tmp (89 : Nat)) (.const (.bool true)) (.tmp (92 : Nat)), none⟩]
def sheet_check_r19 : List SO := [⟨(some 6), .assign (.const (.int .i64 3)), none⟩]
def sheet_check_r20 : List SO := [⟨(some 94), .binOp .add 3 (.tmp (34 : Nat)) (.const (.int .i64 1)) 3, none⟩,
  ⟨(some 34), .move (.tmp (94 : Nat)), none⟩]
def sheet_check_r21 : List SO := [⟨(some 6), .assign (.const (.int .i64 0)), none⟩]
def sheet_check_c : SF := ⟨95, (.seq (.reg sheet_check_r0)
  (.seq (.block 0 (.seq (.reg sheet_check_r1)
  (.cond (.tmp (11 : Nat)) (.seq (.reg sheet_check_r2)
  .ret) (.seq (.reg sheet_check_r3)
  (.cond (.tmp (15 : Nat)) (.seq (.reg sheet_check_r4)
  .ret) (.seq (.reg sheet_check_r5)
  (.cond (.tmp (19 : Nat)) (.seq (.reg sheet_check_r6)
  .ret) .skip)))))))
  (.seq (.seq (.reg sheet_check_r7)
  (.block 1 (.loop (.seq (.reg sheet_check_r8)
  (.seq (.cond (.tmp (35 : Nat)) .skip (.exit 1))
  (.seq (.block 2 (.seq (.reg sheet_check_r9)
  (.seq (.seq (.reg sheet_check_r10)
  (.seq (.reg sheet_check_r11)
  (.cond (.tmp (42 : Nat)) (.seq (.reg sheet_check_r12)
  .ret) .skip)))
  (.seq (.seq (.regd sheet_check_r13 sheet_check_a13)
  (.cond (.tmp (59 : Nat)) (.seq (.reg sheet_check_r14)
  .ret) .skip))
  (.seq (.seq (.reg sheet_check_r15)
  (.cond (.tmp (71 : Nat)) (.seq (.reg sheet_check_r16)
  .ret) .skip))
  (.seq (.reg sheet_check_r17)
  (.seq (.reg sheet_check_r18)
  (.cond (.tmp (93 : Nat)) (.seq (.reg sheet_check_r19)
  .ret) .skip))))))))
  (.reg sheet_check_r20)))))))
  (.seq (.reg sheet_check_r21)
  .ret)))), [.tmp 6]⟩
theorem sheet_check_s : slimF Try.prog 74 = some sheet_check_c := by kernel_rfl
abbrev sheet_check_f : Nat := 74

end Go.Proofs.Ytanhalcbghbpaaa
namespace Go.Proofs.Ytanhalcbghbpaaa
open Go Go.Lite
set_option linter.unusedVariables false

/-- printworks/curve.Nearest -/
def curve_Nearest_r0 : List SO := [⟨(some 4), .assign (.const (.int .i64 0)), none⟩]
def curve_Nearest_r1 : List SO := [⟨(some 6), .move (.tmp (0 : Nat)), none⟩,
  ⟨(some 7), .binOp .mul 3 (.const (.int .i64 2)) (.tmp (6 : Nat)) 3, none⟩,
  ⟨(some 8), .move (.tmp (1 : Nat)), none⟩,
  ⟨(some 9), .binOp .add 3 (.tmp (7 : Nat)) (.tmp (8 : Nat)) 3, none⟩,
  ⟨(some 10), .move (.tmp (1 : Nat)), none⟩,
  ⟨(some 11), .binOp .mul 3 (.const (.int .i64 2)) (.tmp (10 : Nat)) 3, none⟩,
  ⟨(some 0), .assign (.tmp (9 : Nat)), none⟩,
  ⟨(some 1), .assign (.tmp (11 : Nat)), none⟩]
def curve_Nearest_r2 : List SO := [⟨(some 12), .move (.tmp (0 : Nat)), none⟩,
  ⟨(some 13), .move (.tmp (1 : Nat)), none⟩,
  ⟨(some 14), .binOp .quo 3 (.tmp (12 : Nat)) (.tmp (13 : Nat)) 3, none⟩,
  ⟨(some 5), .assign (.tmp (14 : Nat)), none⟩]
def curve_Nearest_r3 : List SO := [⟨(some 15), .move (.tmp (0 : Nat)), none⟩,
  ⟨(some 16), .move (.tmp (1 : Nat)), none⟩,
  ⟨(some 17), .binOp .rem 3 (.tmp (15 : Nat)) (.tmp (16 : Nat)) 3, none⟩,
  ⟨(some 18), .binOp .lss 3 (.tmp (17 : Nat)) (.const (.int .i64 0)) 3, none⟩]
def curve_Nearest_r4 : List SO := [⟨(some 19), .move (.tmp (5 : Nat)), none⟩,
  ⟨(some 20), .binOp .sub 3 (.tmp (19 : Nat)) (.const (.int .i64 1)) 3, none⟩,
  ⟨(some 5), .assign (.tmp (20 : Nat)), none⟩]
def curve_Nearest_r5 : List SO := [⟨(some 21), .move (.tmp (5 : Nat)), none⟩,
  ⟨(some 4), .assign (.tmp (21 : Nat)), none⟩]
def curve_Nearest_c : SF := ⟨22, (.seq (.reg curve_Nearest_r0)
  (.seq (.reg curve_Nearest_r1)
  (.seq (.reg curve_Nearest_r2)
  (.seq (.seq (.reg curve_Nearest_r3)
  (.cond (.tmp (18 : Nat)) (.reg curve_Nearest_r4) .skip))
  (.seq (.reg curve_Nearest_r5)
  .ret))))), [.tmp 4]⟩
theorem curve_Nearest_s : slimF Try.prog 84 = some curve_Nearest_c := by kernel_rfl
def tbl_curve : List (Nat × SF) := [(84, curve_Nearest_c)]
theorem tbl_curve_ok : okT Try.prog tbl_curve := ⟨curve_Nearest_s, trivial⟩

end Go.Proofs.Ytanhalcbghbpaaa
namespace Go.Proofs.Ytanhalcbghbpaaa
open Go Go.Lite
set_option linter.unusedVariables false

/-- printworks/printworkskeep2.stripWorks -/
def K2_stripWorks_r0 : List SO := [⟨(some 0), .assign (.const (.bool false)), none⟩]
def K2_stripWorks_r1 : List SO := [⟨(some 8), .call ⟨(.value (.func (43 : Nat))), #[(.const (.int .i64 1)), (.const (.int .i64 2)), (.const (.int .i64 20))], #[3, 3, 3]⟩, none⟩,
  ⟨(some 7), .move (.tmp (8 : Nat)), none⟩,
  ⟨(some 9), .extract (.tmp (7 : Nat)) 0, none⟩,
  ⟨(some 10), .extract (.tmp (7 : Nat)) 1, none⟩,
  ⟨(some 1), .assign (.tmp (9 : Nat)), none⟩,
  ⟨(some 2), .assign (.tmp (10 : Nat)), none⟩]
def K2_stripWorks_r2 : List SO := [⟨(some 12), .call ⟨(.value (.func (49 : Nat))), #[(.const (.int .i64 1))], #[3]⟩, none⟩,
  ⟨(some 11), .move (.tmp (12 : Nat)), none⟩,
  ⟨(some 13), .extract (.tmp (11 : Nat)) 0, none⟩,
  ⟨(some 14), .extract (.tmp (11 : Nat)) 1, none⟩,
  ⟨(some 3), .alloc 28, none⟩,
  ⟨none, .store 28 (.tmp (3 : Nat)) (.tmp (13 : Nat)), none⟩,
  ⟨(some 4), .assign (.tmp (14 : Nat)), none⟩]
def K2_stripWorks_r3 : List SO := [⟨(some 16), .buildSlice 26 4 #[(0, (.const (.int .u8 0))), (1, (.const (.int .u8 16))), (2, (.const (.int .u8 56))), (3, (.const (.int .u8 16)))], none⟩,
  ⟨(some 17), .build 28 #[(0, (.const (.int .i64 5))), (1, (.const (.int .i64 4))), (2, (.tmp (16 : Nat)))], none⟩,
  ⟨(some 18), .call ⟨(.value (.func (18 : Nat))), #[(.tmp (17 : Nat)), (.const (.int .i64 1))], #[28, 3]⟩, none⟩,
  ⟨(some 15), .move (.tmp (18 : Nat)), none⟩,
  ⟨(some 19), .extract (.tmp (15 : Nat)) 0, none⟩,
  ⟨(some 20), .extract (.tmp (15 : Nat)) 1, none⟩,
  ⟨(some 5), .alloc 31, none⟩,
  ⟨none, .store 31 (.tmp (5 : Nat)) (.tmp (19 : Nat)), none⟩,
  ⟨(some 6), .assign (.tmp (20 : Nat)), none⟩]
def K2_stripWorks_r4 : List SO := [⟨(some 21), .move (.tmp (2 : Nat)), none⟩,
  ⟨(some 22), .binOp .eql 32 (.tmp (21 : Nat)) (.const (.int .i64 0)) 32, none⟩,
  ⟨(some 23), .move (.tmp (22 : Nat)), none⟩,
  ⟨(some 24), .move (.tmp (1 : Nat)), (some (23, true))⟩,
  ⟨(some 25), .call ⟨(.builtin .len), #[(.tmp (24 : Nat))], #[74]⟩, (some (23, true))⟩,
  ⟨(some 26), .binOp .eql 3 (.tmp (25 : Nat)) (.const (.int .i64 4)) 3, (some (23, true))⟩,
  ⟨(some 27), .pick (.tmp (23 : Nat)) (.tmp (26 : Nat)) (.const (.bool false)), none⟩,
  ⟨(some 28), .move (.tmp (27 : Nat)), none⟩,
  ⟨(some 29), .move (.tmp (1 : Nat)), (some (28, true))⟩,
  ⟨(some 30), .indexAddr 74 (.tmp (29 : Nat)) (.const (.int .i64 3)), (some (28, true))⟩,
  ⟨(some 31), .load 94 (.tmp (30 : Nat)), (some (28, true))⟩,
  ⟨(some 32), .build 94 #[(0, (.const (.int .i64 15))), (1, (.const (.int .i64 5))), (2, (.const (.int .i64 1))), (4, (.const (.int .i64 1)))], (some (28, true))⟩,
  ⟨(some 33), .binOp .eql 94 (.tmp (31 : Nat)) (.tmp (32 : Nat)) 94, (some (28, true))⟩,
  ⟨(some 34), .pick (.tmp (28 : Nat)) (.tmp (33 : Nat)) (.const (.bool false)), none⟩,
  ⟨(some 35), .move (.tmp (34 : Nat)), none⟩,
  ⟨(some 36), .move (.tmp (4 : Nat)), (some (35, true))⟩,
  ⟨(some 37), .binOp .eql 32 (.tmp (36 : Nat)) (.const (.int .i64 0)) 32, (some (35, true))⟩,
  ⟨(some 38), .pick (.tmp (35 : Nat)) (.tmp (37 : Nat)) (.const (.bool false)), none⟩,
  ⟨(some 39), .move (.tmp (38 : Nat)), none⟩,
  ⟨(some 40), .fieldAddr 28 (.tmp (3 : Nat)) 2, (some (39, true))⟩,
  ⟨(some 41), .load 26 (.tmp (40 : Nat)), (some (39, true))⟩,
  ⟨(some 42), .buildSlice 26 3 #[(0, (.const (.int .u8 64))), (1, (.const (.int .u8 224))), (2, (.const (.int .u8 64)))], (some (39, true))⟩,
  ⟨(some 43), .call ⟨(.value (.func (50 : Nat))), #[(.tmp (41 : Nat)), (.tmp (42 : Nat))], #[26, 26]⟩, (some (39, true))⟩,
  ⟨(some 44), .pick (.tmp (39 : Nat)) (.tmp (43 : Nat)) (.const (.bool false)), none⟩,
  ⟨(some 45), .move (.tmp (44 : Nat)), none⟩,
  ⟨(some 46), .move (.tmp (6 : Nat)), (some (45, true))⟩,
  ⟨(some 47), .binOp .eql 32 (.tmp (46 : Nat)) (.const (.int .i64 0)) 32, (some (45, true))⟩,
  ⟨(some 48), .pick (.tmp (45 : Nat)) (.tmp (47 : Nat)) (.const (.bool false)), none⟩,
  ⟨(some 49), .move (.tmp (48 : Nat)), none⟩,
  ⟨(some 50), .load 31 (.tmp (5 : Nat)), (some (49, true))⟩,
  ⟨(some 51), .build 31 #[(0, (.const (.int .i64 3))), (1, (.const (.int .i64 2)))], (some (49, true))⟩,
  ⟨(some 52), .binOp .eql 31 (.tmp (50 : Nat)) (.tmp (51 : Nat)) 31, (some (49, true))⟩,
  ⟨(some 53), .pick (.tmp (49 : Nat)) (.tmp (52 : Nat)) (.const (.bool false)), none⟩,
  ⟨(some 0), .assign (.tmp (53 : Nat)), none⟩]
def K2_stripWorks_c : SF := ⟨54, (.seq (.reg K2_stripWorks_r0)
  (.seq (.reg K2_stripWorks_r1)
  (.seq (.reg K2_stripWorks_r2)
  (.seq (.reg K2_stripWorks_r3)
  (.seq (.reg K2_stripWorks_r4)
  .ret))))), [.tmp 0]⟩
theorem K2_stripWorks_s : slimF Try.prog 15 = some K2_stripWorks_c := by kernel_rfl
abbrev K2_stripWorks_f : Nat := 15
/-- printworks/printworkskeep2.bitmapWorks -/
def K2_bitmapWorks_r0 : List SO := [⟨(some 0), .assign (.const (.bool false)), none⟩]
def K2_bitmapWorks_r1 : List SO := [⟨(some 12), .buildSlice 26 2 #[(0, (.const (.int .u8 0))), (1, (.const (.int .u8 0)))], none⟩,
  ⟨(some 13), .build 28 #[(0, (.const (.int .i64 10))), (1, (.const (.int .i64 1))), (2, (.tmp (12 : Nat)))], none⟩,
  ⟨(some 14), .call ⟨(.value (.func (53 : Nat))), #[(.tmp (13 : Nat)), (.const (.int .i64 9)), (.const (.int .i64 0)), (.const (.bool true))], #[28, 3, 3, 4]⟩, none⟩,
  ⟨(some 11), .move (.tmp (14 : Nat)), none⟩,
  ⟨(some 15), .extract (.tmp (11 : Nat)) 0, none⟩,
  ⟨(some 16), .extract (.tmp (11 : Nat)) 1, none⟩,
  ⟨(some 1), .alloc 28, none⟩,
  ⟨none, .store 28 (.tmp (1 : Nat)) (.tmp (15 : Nat)), none⟩,
  ⟨(some 2), .assign (.tmp (16 : Nat)), none⟩]
def K2_bitmapWorks_r2 : List SO := [⟨(some 18), .call ⟨(.value (.func (54 : Nat))), #[], #[]⟩, none⟩,
  ⟨(some 19), .call ⟨(.value (.func (34 : Nat))), #[(.tmp (18 : Nat))], #[28]⟩, none⟩,
  ⟨(some 17), .move (.tmp (19 : Nat)), none⟩,
  ⟨(some 20), .extract (.tmp (17 : Nat)) 0, none⟩,
  ⟨(some 21), .extract (.tmp (17 : Nat)) 1, none⟩,
  ⟨(some 3), .assign (.tmp (20 : Nat)), none⟩,
  ⟨(some 4), .assign (.tmp (21 : Nat)), none⟩]
def K2_bitmapWorks_r3 : List SO := [⟨(some 23), .call ⟨(.value (.func (54 : Nat))), #[], #[]⟩, none⟩,
  ⟨(some 24), .call ⟨(.value (.func (21 : Nat))), #[(.tmp (23 : Nat)), (.const (.int .i64 1))], #[28, 3]⟩, none⟩,
  ⟨(some 22), .move (.tmp (24 : Nat)), none⟩,
  ⟨(some 25), .extract (.tmp (22 : Nat)) 0, none⟩,
  ⟨(some 26), .extract (.tmp (22 : Nat)) 1, none⟩,
  ⟨(some 5), .alloc 28, none⟩,
  ⟨none, .store 28 (.tmp (5 : Nat)) (.tmp (25 : Nat)), none⟩,
  ⟨(some 6), .assign (.tmp (26 : Nat)), none⟩]
def K2_bitmapWorks_r4 : List SO := [⟨(some 28), .call ⟨(.value (.func (54 : Nat))), #[], #[]⟩, none⟩,
  ⟨(some 29), .call ⟨(.value (.func (33 : Nat))), #[(.tmp (28 : Nat))], #[28]⟩, none⟩,
  ⟨(some 27), .move (.tmp (29 : Nat)), none⟩,
  ⟨(some 30), .extract (.tmp (27 : Nat)) 0, none⟩,
  ⟨(some 31), .extract (.tmp (27 : Nat)) 1, none⟩,
  ⟨(some 7), .assign (.tmp (30 : Nat)), none⟩,
  ⟨(some 8), .assign (.tmp (31 : Nat)), none⟩]
def K2_bitmapWorks_r5 : List SO := [⟨(some 33), .call ⟨(.value (.func (54 : Nat))), #[], #[]⟩, none⟩,
  ⟨(some 34), .call ⟨(.value (.func (36 : Nat))), #[(.tmp (33 : Nat)), (.const (.int .i64 1))], #[28, 3]⟩, none⟩,
  ⟨(some 32), .move (.tmp (34 : Nat)), none⟩,
  ⟨(some 35), .extract (.tmp (32 : Nat)) 0, none⟩,
  ⟨(some 36), .extract (.tmp (32 : Nat)) 1, none⟩,
  ⟨(some 9), .alloc 28, none⟩,
  ⟨none, .store 28 (.tmp (9 : Nat)) (.tmp (35 : Nat)), none⟩,
  ⟨(some 10), .assign (.tmp (36 : Nat)), none⟩]
def K2_bitmapWorks_r6 : List SO := [⟨(some 37), .move (.tmp (2 : Nat)), none⟩,
  ⟨(some 38), .binOp .eql 32 (.tmp (37 : Nat)) (.const (.int .i64 0)) 32, none⟩,
  ⟨(some 39), .move (.tmp (38 : Nat)), none⟩,
  ⟨(some 40), .fieldAddr 28 (.tmp (1 : Nat)) 2, (some (39, true))⟩,
  ⟨(some 41), .load 26 (.tmp (40 : Nat)), (some (39, true))⟩,
  ⟨(some 42), .buildSlice 26 2 #[(0, (.const (.int .u8 0))), (1, (.const (.int .u8 64)))], (some (39, true))⟩,
  ⟨(some 43), .call ⟨(.value (.func (50 : Nat))), #[(.tmp (41 : Nat)), (.tmp (42 : Nat))], #[26, 26]⟩, (some (39, true))⟩,
  ⟨(some 44), .pick (.tmp (39 : Nat)) (.tmp (43 : Nat)) (.const (.bool false)), none⟩,
  ⟨(some 45), .move (.tmp (44 : Nat)), none⟩,
  ⟨(some 46), .move (.tmp (4 : Nat)), (some (45, true))⟩,
  ⟨(some 47), .binOp .eql 32 (.tmp (46 : Nat)) (.const (.int .i64 0)) 32, (some (45, true))⟩,
  ⟨(some 48), .pick (.tmp (45 : Nat)) (.tmp (47 : Nat)) (.const (.bool false)), none⟩,
  ⟨(some 49), .move (.tmp (48 : Nat)), none⟩,
  ⟨(some 50), .move (.tmp (3 : Nat)), (some (49, true))⟩,
  ⟨(some 51), .binOp .eql 3 (.tmp (50 : Nat)) (.const (.int .i64 3)) 3, (some (49, true))⟩,
  ⟨(some 52), .pick (.tmp (49 : Nat)) (.tmp (51 : Nat)) (.const (.bool false)), none⟩,
  ⟨(some 53), .move (.tmp (52 : Nat)), none⟩,
  ⟨(some 54), .move (.tmp (6 : Nat)), (some (53, true))⟩,
  ⟨(some 55), .binOp .eql 32 (.tmp (54 : Nat)) (.const (.int .i64 0)) 32, (some (53, true))⟩,
  ⟨(some 56), .pick (.tmp (53 : Nat)) (.tmp (55 : Nat)) (.const (.bool false)), none⟩,
  ⟨(some 57), .move (.tmp (56 : Nat)), none⟩,
  ⟨(some 58), .load 28 (.tmp (5 : Nat)), (some (57, true))⟩,
  ⟨(some 59), .buildSlice 26 5 #[(0, (.const (.int .u8 64))), (1, (.const (.int .u8 0))), (2, (.const (.int .u8 0))), (3, (.const (.int .u8 64))), (4, (.const (.int .u8 128)))], (some (57, true))⟩,
  ⟨(some 60), .build 28 #[(0, (.const (.int .i64 2))), (1, (.const (.int .i64 5))), (2, (.tmp (59 : Nat)))], (some (57, true))⟩,
  ⟨(some 61), .call ⟨(.value (.func (24 : Nat))), #[(.tmp (58 : Nat)), (.tmp (60 : Nat))], #[28, 28]⟩, (some (57, true))⟩,
  ⟨(some 62), .pick (.tmp (57 : Nat)) (.tmp (61 : Nat)) (.const (.bool false)), none⟩,
  ⟨(some 63), .move (.tmp (62 : Nat)), none⟩,
  ⟨(some 64), .move (.tmp (8 : Nat)), (some (63, true))⟩,
  ⟨(some 65), .binOp .eql 32 (.tmp (64 : Nat)) (.const (.int .i64 0)) 32, (some (63, true))⟩,
  ⟨(some 66), .pick (.tmp (63 : Nat)) (.tmp (65 : Nat)) (.const (.bool false)), none⟩,
  ⟨(some 67), .move (.tmp (66 : Nat)), none⟩,
  ⟨(some 68), .move (.tmp (7 : Nat)), (some (67, true))⟩,
  ⟨(some 69), .call ⟨(.builtin .len), #[(.tmp (68 : Nat))], #[60]⟩, (some (67, true))⟩,
  ⟨(some 70), .binOp .eql 3 (.tmp (69 : Nat)) (.const (.int .i64 3)) 3, (some (67, true))⟩,
  ⟨(some 71), .pick (.tmp (67 : Nat)) (.tmp (70 : Nat)) (.const (.bool false)), none⟩,
  ⟨(some 72), .move (.tmp (71 : Nat)), none⟩,
  ⟨(some 73), .move (.tmp (7 : Nat)), (some (72, true))⟩,
  ⟨(some 74), .indexAddr 60 (.tmp (73 : Nat)) (.const (.int .i64 2)), (some (72, true))⟩,
  ⟨(some 75), .load 66 (.tmp (74 : Nat)), (some (72, true))⟩,
  ⟨(some 76), .build 66 #[(0, (.const (.int .i64 1))), (1, (.const (.int .i64 4))), (2, (.const (.int .i64 5)))], (some (72, true))⟩,
  ⟨(some 77), .binOp .eql 66 (.tmp (75 : Nat)) (.tmp (76 : Nat)) 66, (some (72, true))⟩,
  ⟨(some 78), .pick (.tmp (72 : Nat)) (.tmp (77 : Nat)) (.const (.bool false)), none⟩,
  ⟨(some 79), .move (.tmp (78 : Nat)), none⟩,
  ⟨(some 80), .move (.tmp (10 : Nat)), (some (79, true))⟩,
  ⟨(some 81), .binOp .eql 32 (.tmp (80 : Nat)) (.const (.int .i64 0)) 32, (some (79, true))⟩,
  ⟨(some 82), .pick (.tmp (79 : Nat)) (.tmp (81 : Nat)) (.const (.bool false)), none⟩,
  ⟨(some 83), .move (.tmp (82 : Nat)), none⟩,
  ⟨(some 84), .fieldAddr 28 (.tmp (9 : Nat)) 2, (some (83, true))⟩,
  ⟨(some 85), .load 26 (.tmp (84 : Nat)), (some (83, true))⟩,
  ⟨(some 86), .buildSlice 26 2 #[(0, (.const (.int .u8 248))), (1, (.const (.int .u8 152)))], (some (83, true))⟩,
  ⟨(some 87), .call ⟨(.value (.func (50 : Nat))), #[(.tmp (85 : Nat)), (.tmp (86 : Nat))], #[26, 26]⟩, (some (83, true))⟩,
  ⟨(some 88), .pick (.tmp (83 : Nat)) (.tmp (87 : Nat)) (.const (.bool false)), none⟩,
  ⟨(some 0), .assign (.tmp (88 : Nat)), none⟩]
def K2_bitmapWorks_c : SF := ⟨89, (.seq (.reg K2_bitmapWorks_r0)
  (.seq (.reg K2_bitmapWorks_r1)
  (.seq (.reg K2_bitmapWorks_r2)
  (.seq (.reg K2_bitmapWorks_r3)
  (.seq (.reg K2_bitmapWorks_r4)
  (.seq (.reg K2_bitmapWorks_r5)
  (.seq (.reg K2_bitmapWorks_r6)
  .ret))))))), [.tmp 0]⟩
theorem K2_bitmapWorks_s : slimF Try.prog 20 = some K2_bitmapWorks_c := by kernel_rfl
/-- printworks/printworkskeep2.sheetWorks -/
def K2_sheetWorks_r0 : List SO := [⟨(some 0), .assign (.const (.bool false)), none⟩]
def K2_sheetWorks_r1 : List SO := [⟨(some 8), .call ⟨(.value (.func (57 : Nat))), #[], #[]⟩, none⟩,
  ⟨(some 9), .buildSlice 22 2 #[(0, (.const (.int .i64 1))), (1, (.const (.int .i64 0)))], none⟩,
  ⟨(some 10), .build 31 #[], none⟩,
  ⟨(some 11), .build 31 #[(0, (.const (.int .i64 2)))], none⟩,
  ⟨(some 12), .buildSlice 35 2 #[(0, (.tmp (10 : Nat))), (1, (.tmp (11 : Nat)))], none⟩,
  ⟨(some 13), .call ⟨(.value (.func (40 : Nat))), #[(.tmp (8 : Nat)), (.tmp (9 : Nat)), (.tmp (12 : Nat))], #[38, 22, 35]⟩, none⟩,
  ⟨(some 7), .move (.tmp (13 : Nat)), none⟩,
  ⟨(some 14), .extract (.tmp (7 : Nat)) 0, none⟩,
  ⟨(some 15), .extract (.tmp (7 : Nat)) 1, none⟩,
  ⟨(some 1), .alloc 47, none⟩,
  ⟨none, .store 47 (.tmp (1 : Nat)) (.tmp (14 : Nat)), none⟩,
  ⟨(some 2), .assign (.tmp (15 : Nat)), none⟩]
def K2_sheetWorks_r2 : List SO := [⟨(some 17), .load 47 (.tmp (1 : Nat)), none⟩,
  ⟨(some 18), .call ⟨(.value (.func (42 : Nat))), #[(.tmp (17 : Nat)), (.const (.int .i64 2))], #[47, 3]⟩, none⟩,
  ⟨(some 16), .move (.tmp (18 : Nat)), none⟩,
  ⟨(some 19), .extract (.tmp (16 : Nat)) 0, none⟩,
  ⟨(some 20), .extract (.tmp (16 : Nat)) 1, none⟩,
  ⟨(some 3), .assign (.tmp (19 : Nat)), none⟩,
  ⟨(some 4), .assign (.tmp (20 : Nat)), none⟩]
def K2_sheetWorks_r3 : List SO := [⟨(some 22), .load 47 (.tmp (1 : Nat)), none⟩,
  ⟨(some 23), .makeSlice 26 (.const (.int .i64 5)) (.const (.int .i64 5)), none⟩,
  ⟨(some 24), .build 47 #[(0, (.const (.int .i64 5))), (1, (.const (.int .i64 1))), (2, (.tmp (23 : Nat)))], none⟩,
  ⟨(some 25), .call ⟨(.value (.func (26 : Nat))), #[(.tmp (22 : Nat)), (.tmp (24 : Nat)), (.const (.int .i64 0))], #[47, 47, 3]⟩, none⟩,
  ⟨(some 21), .move (.tmp (25 : Nat)), none⟩,
  ⟨(some 26), .extract (.tmp (21 : Nat)) 0, none⟩,
  ⟨(some 27), .extract (.tmp (21 : Nat)) 1, none⟩,
  ⟨(some 5), .assign (.tmp (26 : Nat)), none⟩,
  ⟨(some 6), .assign (.tmp (27 : Nat)), none⟩]
def K2_sheetWorks_a3 : List (List Nat) := [[], [], [1], [0, 2], [3], [4], [4], [5, 3, 0, 1, 2, 3, 4, 5], [6, 7, 0, 1, 2, 3, 4, 5, 6, 7]]
def K2_sheetWorks_r4 : List SO := [⟨(some 28), .move (.tmp (2 : Nat)), none⟩,
  ⟨(some 29), .binOp .eql 32 (.tmp (28 : Nat)) (.const (.int .i64 0)) 32, none⟩,
  ⟨(some 30), .move (.tmp (29 : Nat)), none⟩,
  ⟨(some 31), .fieldAddr 47 (.tmp (1 : Nat)) 0, (some (30, true))⟩,
  ⟨(some 32), .load 3 (.tmp (31 : Nat)), (some (30, true))⟩,
  ⟨(some 33), .binOp .eql 3 (.tmp (32 : Nat)) (.const (.int .i64 5)) 3, (some (30, true))⟩,
  ⟨(some 34), .pick (.tmp (30 : Nat)) (.tmp (33 : Nat)) (.const (.bool false)), none⟩,
  ⟨(some 35), .move (.tmp (34 : Nat)), none⟩,
  ⟨(some 36), .fieldAddr 47 (.tmp (1 : Nat)) 1, (some (35, true))⟩,
  ⟨(some 37), .load 3 (.tmp (36 : Nat)), (some (35, true))⟩,
  ⟨(some 38), .binOp .eql 3 (.tmp (37 : Nat)) (.const (.int .i64 1)) 3, (some (35, true))⟩,
  ⟨(some 39), .pick (.tmp (35 : Nat)) (.tmp (38 : Nat)) (.const (.bool false)), none⟩,
  ⟨(some 40), .move (.tmp (39 : Nat)), none⟩,
  ⟨(some 41), .fieldAddr 47 (.tmp (1 : Nat)) 2, (some (40, true))⟩,
  ⟨(some 42), .load 26 (.tmp (41 : Nat)), (some (40, true))⟩,
  ⟨(some 43), .buildSlice 26 5 #[(0, (.const (.int .u8 0))), (1, (.const (.int .u8 1))), (2, (.const (.int .u8 1))), (3, (.const (.int .u8 1))), (4, (.const (.int .u8 2)))], (some (40, true))⟩,
  ⟨(some 44), .call ⟨(.value (.func (50 : Nat))), #[(.tmp (42 : Nat)), (.tmp (43 : Nat))], #[26, 26]⟩, (some (40, true))⟩,
  ⟨(some 45), .pick (.tmp (40 : Nat)) (.tmp (44 : Nat)) (.const (.bool false)), none⟩,
  ⟨(some 46), .move (.tmp (45 : Nat)), none⟩,
  ⟨(some 47), .move (.tmp (4 : Nat)), (some (46, true))⟩,
  ⟨(some 48), .binOp .eql 32 (.tmp (47 : Nat)) (.const (.int .i64 0)) 32, (some (46, true))⟩,
  ⟨(some 49), .pick (.tmp (46 : Nat)) (.tmp (48 : Nat)) (.const (.bool false)), none⟩,
  ⟨(some 50), .move (.tmp (49 : Nat)), none⟩,
  ⟨(some 51), .move (.tmp (3 : Nat)), (some (50, true))⟩,
  ⟨(some 52), .buildSlice 22 4 #[(0, (.const (.int .i64 1))), (1, (.const (.int .i64 3))), (2, (.const (.int .i64 1))), (3, (.const (.int .i64 0)))], (some (50, true))⟩,
  ⟨(some 53), .call ⟨(.value (.func (32 : Nat))), #[(.tmp (51 : Nat)), (.tmp (52 : Nat))], #[22, 22]⟩, (some (50, true))⟩,
  ⟨(some 54), .pick (.tmp (50 : Nat)) (.tmp (53 : Nat)) (.const (.bool false)), none⟩,
  ⟨(some 55), .move (.tmp (54 : Nat)), none⟩,
  ⟨(some 56), .move (.tmp (6 : Nat)), (some (55, true))⟩,
  ⟨(some 57), .binOp .eql 32 (.tmp (56 : Nat)) (.const (.int .i64 0)) 32, (some (55, true))⟩,
  ⟨(some 58), .pick (.tmp (55 : Nat)) (.tmp (57 : Nat)) (.const (.bool false)), none⟩,
  ⟨(some 59), .move (.tmp (58 : Nat)), none⟩,
  ⟨(some 60), .move (.tmp (5 : Nat)), (some (59, true))⟩,
  ⟨(some 61), .binOp .eql 3 (.tmp (60 : Nat)) (.const (.int .i64 4)) 3, (some (59, true))⟩,
  ⟨(some 62), .pick (.tmp (59 : Nat)) (.tmp (61 : Nat)) (.const (.bool false)), none⟩,
  ⟨(some 0), .assign (.tmp (62 : Nat)), none⟩]
def K2_sheetWorks_c : SF := ⟨63, (.seq (.reg K2_sheetWorks_r0)
  (.seq (.reg K2_sheetWorks_r1)
  (.seq (.reg K2_sheetWorks_r2)
  (.seq (.regd K2_sheetWorks_r3 K2_sheetWorks_a3)
  (.seq (.reg K2_sheetWorks_r4)
  .ret))))), [.tmp 0]⟩
theorem K2_sheetWorks_s : slimF Try.prog 25 = some K2_sheetWorks_c := by kernel_rfl
/-- printworks/printworkskeep2.linearWorks -/
def K2_linearWorks_r0 : List SO := [⟨(some 0), .assign (.const (.bool false)), none⟩]
def K2_linearWorks_r1 : List SO := [⟨(some 8), .call ⟨(.value (.func (29 : Nat))), #[(.const (.string ⟨([48, 48] : List UInt8).toArray⟩))], #[9]⟩, none⟩,
  ⟨(some 7), .move (.tmp (8 : Nat)), none⟩,
  ⟨(some 9), .extract (.tmp (7 : Nat)) 0, none⟩,
  ⟨(some 10), .extract (.tmp (7 : Nat)) 1, none⟩,
  ⟨(some 1), .assign (.tmp (9 : Nat)), none⟩,
  ⟨(some 2), .assign (.tmp (10 : Nat)), none⟩]
def K2_linearWorks_r2 : List SO := [⟨(some 12), .move (.tmp (1 : Nat)), none⟩,
  ⟨(some 13), .call ⟨(.value (.func (30 : Nat))), #[(.tmp (12 : Nat))], #[22]⟩, none⟩,
  ⟨(some 11), .move (.tmp (13 : Nat)), none⟩,
  ⟨(some 14), .extract (.tmp (11 : Nat)) 0, none⟩,
  ⟨(some 15), .extract (.tmp (11 : Nat)) 1, none⟩,
  ⟨(some 3), .assign (.tmp (14 : Nat)), none⟩,
  ⟨(some 4), .assign (.tmp (15 : Nat)), none⟩]
def K2_linearWorks_r3 : List SO := [⟨(some 17), .call ⟨(.value (.func (31 : Nat))), #[(.const (.int .i64 1))], #[3]⟩, none⟩,
  ⟨(some 16), .move (.tmp (17 : Nat)), none⟩,
  ⟨(some 18), .extract (.tmp (16 : Nat)) 0, none⟩,
  ⟨(some 19), .extract (.tmp (16 : Nat)) 1, none⟩,
  ⟨(some 5), .assign (.tmp (18 : Nat)), none⟩,
  ⟨(some 6), .assign (.tmp (19 : Nat)), none⟩]
def K2_linearWorks_r4 : List SO := [⟨(some 20), .move (.tmp (2 : Nat)), none⟩,
  ⟨(some 21), .binOp .eql 32 (.tmp (20 : Nat)) (.const (.int .i64 0)) 32, none⟩,
  ⟨(some 22), .move (.tmp (21 : Nat)), none⟩,
  ⟨(some 23), .move (.tmp (1 : Nat)), (some (22, true))⟩,
  ⟨(some 24), .buildSlice 22 25 #[(0, (.const (.int .i64 4))), (1, (.const (.int .i64 1))), (2, (.const (.int .i64 1))), (3, (.const (.int .i64 2))), (4, (.const (.int .i64 1))), (5, (.const (.int .i64 2))), (6, (.const (.int .i64 1))), (7, (.const (.int .i64 1))), (8, (.const (.int .i64 1))), (9, (.const (.int .i64 1))), (10, (.const (.int .i64 4))), (11, (.const (.int .i64 3))), (12, (.const (.int .i64 1))), (13, (.const (.int .i64 1))), (14, (.const (.int .i64 1))), (15, (.const (.int .i64 1))), (16, (.const (.int .i64 4))), (17, (.const (.int .i64 3))), (18, (.const (.int .i64 4))), (19, (.const (.int .i64 1))), (20, (.const (.int .i64 1))), (21, (.const (.int .i64 3))), (22, (.const (.int .i64 1))), (23, (.const (.int .i64 1))), (24, (.const (.int .i64 2)))], (some (22, true))⟩,
  ⟨(some 25), .call ⟨(.value (.func (32 : Nat))), #[(.tmp (23 : Nat)), (.tmp (24 : Nat))], #[22, 22]⟩, (some (22, true))⟩,
  ⟨(some 26), .pick (.tmp (22 : Nat)) (.tmp (25 : Nat)) (.const (.bool false)), none⟩,
  ⟨(some 27), .move (.tmp (26 : Nat)), none⟩,
  ⟨(some 28), .move (.tmp (4 : Nat)), (some (27, true))⟩,
  ⟨(some 29), .binOp .eql 32 (.tmp (28 : Nat)) (.const (.int .i64 0)) 32, (some (27, true))⟩,
  ⟨(some 30), .pick (.tmp (27 : Nat)) (.tmp (29 : Nat)) (.const (.bool false)), none⟩,
  ⟨(some 31), .move (.tmp (30 : Nat)), none⟩,
  ⟨(some 32), .move (.tmp (3 : Nat)), (some (31, true))⟩,
  ⟨(some 33), .binOp .eql 9 (.tmp (32 : Nat)) (.const (.string ⟨([48, 48] : List UInt8).toArray⟩)) 9, (some (31, true))⟩,
  ⟨(some 34), .pick (.tmp (31 : Nat)) (.tmp (33 : Nat)) (.const (.bool false)), none⟩,
  ⟨(some 35), .move (.tmp (34 : Nat)), none⟩,
  ⟨(some 36), .move (.tmp (6 : Nat)), (some (35, true))⟩,
  ⟨(some 37), .binOp .eql 32 (.tmp (36 : Nat)) (.const (.int .i64 0)) 32, (some (35, true))⟩,
  ⟨(some 38), .pick (.tmp (35 : Nat)) (.tmp (37 : Nat)) (.const (.bool false)), none⟩,
  ⟨(some 39), .move (.tmp (38 : Nat)), none⟩,
  ⟨(some 40), .move (.tmp (5 : Nat)), (some (39, true))⟩,
  ⟨(some 41), .buildSlice 22 6 #[(0, (.const (.int .i64 1))), (1, (.const (.int .i64 1))), (2, (.const (.int .i64 1))), (3, (.const (.int .i64 2))), (4, (.const (.int .i64 2))), (5, (.const (.int .i64 4)))], (some (39, true))⟩,
  ⟨(some 42), .call ⟨(.value (.func (32 : Nat))), #[(.tmp (40 : Nat)), (.tmp (41 : Nat))], #[22, 22]⟩, (some (39, true))⟩,
  ⟨(some 43), .pick (.tmp (39 : Nat)) (.tmp (42 : Nat)) (.const (.bool false)), none⟩,
  ⟨(some 0), .assign (.tmp (43 : Nat)), none⟩]
def K2_linearWorks_c : SF := ⟨44, (.seq (.reg K2_linearWorks_r0)
  (.seq (.reg K2_linearWorks_r1)
  (.seq (.reg K2_linearWorks_r2)
  (.seq (.reg K2_linearWorks_r3)
  (.seq (.reg K2_linearWorks_r4)
  .ret))))), [.tmp 0]⟩
theorem K2_linearWorks_s : slimF Try.prog 27 = some K2_linearWorks_c := by kernel_rfl
/-- printworks/printworkskeep2.digitsOf -/
def K2_digitsOf_r0 : List SO := [⟨(some 2), .assign (.const (.string ⟨([] : List UInt8).toArray⟩)), none⟩]
def K2_digitsOf_r1 : List SO := [⟨(some 3), .assign (.const (.string ⟨([] : List UInt8).toArray⟩)), none⟩]
def K2_digitsOf_r2 : List SO := [⟨(some 6), .move (.tmp (0 : Nat)), none⟩,
  ⟨(some 7), .move (.tmp (0 : Nat)), none⟩,
  ⟨(some 8), .call ⟨(.builtin .len), #[(.tmp (7 : Nat))], #[22]⟩, none⟩,
  ⟨(some 9), .call ⟨(.builtin .min), #[(.tmp (8 : Nat)), (.const (.int .i64 20))], #[3, 3]⟩, none⟩,
  ⟨(some 10), .slice 22 (.tmp (6 : Nat)) none (some (.tmp (9 : Nat))) none, none⟩,
  ⟨(some 11), .call ⟨(.builtin .len), #[(.tmp (10 : Nat))], #[22]⟩, none⟩,
  ⟨(some 12), .move (.const (.int .i64 0)), none⟩]
def K2_digitsOf_r3 : List SO := [⟨(some 13), .binOp .lss 3 (.tmp (12 : Nat)) (.tmp (11 : Nat)) 3, none⟩]
def K2_digitsOf_r4 : List SO := [⟨(some 14), .indexAddr 22 (.tmp (10 : Nat)) (.tmp (12 : Nat)), none⟩,
  ⟨(some 15), .load 3 (.tmp (14 : Nat)), none⟩,
  ⟨(some 5), .assign (.tmp (15 : Nat)), none⟩]
def K2_digitsOf_r5 : List SO := [⟨(some 16), .move (.tmp (3 : Nat)), none⟩,
  ⟨(some 17), .move (.tmp (5 : Nat)), none⟩,
  ⟨(some 18), .call ⟨(.value (.func (16 : Nat))), #[(.tmp (17 : Nat)), (.const (.int .i64 10))], #[3, 3]⟩, none⟩,
  ⟨(some 19), .binOp .add 3 (.const (.int .i64 48)) (.tmp (18 : Nat)) 3, none⟩,
  ⟨(some 20), .convert 3 5 (.tmp (19 : Nat)), none⟩,
  ⟨(some 21), .buildSlice 26 1 #[(0, (.tmp (20 : Nat)))], none⟩,
  ⟨(some 22), .convert 26 9 (.tmp (21 : Nat)), none⟩,
  ⟨(some 23), .binOp .add 9 (.tmp (16 : Nat)) (.tmp (22 : Nat)) 9, none⟩,
  ⟨(some 3), .assign (.tmp (23 : Nat)), none⟩]
def K2_digitsOf_r6 : List SO := [⟨(some 24), .binOp .add 3 (.tmp (12 : Nat)) (.const (.int .i64 1)) 3, none⟩,
  ⟨(some 12), .move (.tmp (24 : Nat)), none⟩]
def K2_digitsOf_r7 : List SO := [⟨(some 25), .move (.tmp (3 : Nat)), none⟩,
  ⟨(some 26), .binOp .eql 9 (.tmp (25 : Nat)) (.const (.string ⟨([] : List UInt8).toArray⟩)) 9, none⟩]
def K2_digitsOf_r8 : List SO := [⟨(some 2), .assign (.const (.string ⟨([55] : List UInt8).toArray⟩)), none⟩]
def K2_digitsOf_r9 : List SO := [⟨(some 27), .move (.tmp (3 : Nat)), none⟩,
  ⟨(some 2), .assign (.tmp (27 : Nat)), none⟩]
def K2_digitsOf_c : SF := ⟨28, (.seq (.reg K2_digitsOf_r0)
  (.seq (.reg K2_digitsOf_r1)
  (.seq (.seq (.reg K2_digitsOf_r2)
  (.block 0 (.loop (.seq (.reg K2_digitsOf_r3)
  (.seq (.cond (.tmp (13 : Nat)) .skip (.exit 0))
  (.seq (.block 1 (.seq (.reg K2_digitsOf_r4)
  (.reg K2_digitsOf_r5)))
  (.reg K2_digitsOf_r6)))))))
  (.seq (.seq (.reg K2_digitsOf_r7)
  (.cond (.tmp (26 : Nat)) (.seq (.reg K2_digitsOf_r8)
  .ret) .skip))
  (.seq (.reg K2_digitsOf_r9)
  .ret))))), [.tmp 2]⟩
theorem K2_digitsOf_s : slimF Try.prog 28 = some K2_digitsOf_c := by kernel_rfl
/-- printworks/printworkskeep2.dots -/
def K2_dots_r0 : List SO := [⟨(some 0), .alloc 28, none⟩]
def K2_dots_r1 : List SO := [⟨(some 1), .buildSlice 26 2 #[(0, (.const (.int .u8 144))), (1, (.const (.int .u8 8)))], none⟩,
  ⟨(some 2), .build 28 #[(0, (.const (.int .i64 5))), (1, (.const (.int .i64 2))), (2, (.tmp (1 : Nat)))], none⟩,
  ⟨none, .store 28 (.tmp (0 : Nat)) (.tmp (2 : Nat)), none⟩]
def K2_dots_c : SF := ⟨3, (.seq (.reg K2_dots_r0)
  (.seq (.reg K2_dots_r1)
  .ret)), [.cell 0 28]⟩
theorem K2_dots_s : slimF Try.prog 54 = some K2_dots_c := by kernel_rfl
/-- printworks/printworkskeep2.twoInks -/
def K2_twoInks_r0 : List SO := [⟨(some 0), .assign (.const (.slice none 0 0)), none⟩]
def K2_twoInks_r1 : List SO := [⟨(some 1), .buildSlice 26 1 #[(0, (.const (.int .u8 32)))], none⟩,
  ⟨(some 2), .build 28 #[(0, (.const (.int .i64 5))), (1, (.const (.int .i64 1))), (2, (.tmp (1 : Nat)))], none⟩,
  ⟨(some 3), .buildSlice 26 1 #[(0, (.const (.int .u8 32)))], none⟩,
  ⟨(some 4), .build 28 #[(0, (.const (.int .i64 5))), (1, (.const (.int .i64 1))), (2, (.tmp (3 : Nat)))], none⟩,
  ⟨(some 5), .buildSlice 38 2 #[(0, (.tmp (2 : Nat))), (1, (.tmp (4 : Nat)))], none⟩,
  ⟨(some 0), .assign (.tmp (5 : Nat)), none⟩]
def K2_twoInks_c : SF := ⟨6, (.seq (.reg K2_twoInks_r0)
  (.seq (.reg K2_twoInks_r1)
  .ret)), [.tmp 0]⟩
theorem K2_twoInks_s : slimF Try.prog 57 = some K2_twoInks_c := by kernel_rfl
def tbl_K2 : List (Nat × SF) := [(15, K2_stripWorks_c), (20, K2_bitmapWorks_c), (25, K2_sheetWorks_c), (27, K2_linearWorks_c), (28, K2_digitsOf_c), (54, K2_dots_c), (57, K2_twoInks_c)]
theorem tbl_K2_ok : okT Try.prog tbl_K2 := ⟨K2_stripWorks_s, K2_bitmapWorks_s, K2_sheetWorks_s, K2_linearWorks_s, K2_digitsOf_s, K2_dots_s, K2_twoInks_s, trivial⟩

end Go.Proofs.Ytanhalcbghbpaaa
namespace Go.Proofs.Ytanhalcbghbpaaa
open Go Go.Lite
set_option linter.unusedVariables false

end Go.Proofs.Ytanhalcbghbpaaa
namespace Go.Proofs.Ytanhalcbghbpaaa
open Go Go.Lite
set_option linter.unusedVariables false

/-- printworks/printworkskeep2.StripRegisters -/
def K2_StripRegisters_r0 : List SO := [⟨(some 4), .assign (.const (.bool false)), none⟩]
def K2_StripRegisters_r1 : List SO := [⟨(some 27), .call ⟨(.value (.func (15 : Nat))), #[], #[]⟩, none⟩,
  ⟨(some 28), .unOp .not 4 (.tmp (27 : Nat)), none⟩]
def K2_StripRegisters_r2 : List SO := [⟨(some 4), .assign (.const (.bool false)), none⟩]
def K2_StripRegisters_r3 : List SO := [⟨(some 29), .move (.tmp (0 : Nat)), none⟩,
  ⟨(some 30), .call ⟨(.value (.func (16 : Nat))), #[(.tmp (29 : Nat)), (.const (.int .i64 5))], #[3, 3]⟩, none⟩,
  ⟨(some 31), .binOp .add 3 (.const (.int .i64 1)) (.tmp (30 : Nat)) 3, none⟩,
  ⟨(some 0), .assign (.tmp (31 : Nat)), none⟩]
def K2_StripRegisters_r4 : List SO := [⟨(some 32), .move (.tmp (1 : Nat)), none⟩,
  ⟨(some 33), .call ⟨(.builtin .len), #[(.tmp (32 : Nat))], #[35]⟩, none⟩,
  ⟨(some 34), .binOp .rem 3 (.tmp (33 : Nat)) (.const (.int .i64 4)) 3, none⟩,
  ⟨(some 35), .binOp .add 3 (.const (.int .i64 1)) (.tmp (34 : Nat)) 3, none⟩,
  ⟨(some 5), .assign (.tmp (35 : Nat)), none⟩]
def K2_StripRegisters_r5 : List SO := [⟨(some 37), .move (.tmp (0 : Nat)), none⟩,
  ⟨(some 38), .call ⟨(.value (.func (49 : Nat))), #[(.tmp (37 : Nat))], #[3]⟩, none⟩,
  ⟨(some 36), .move (.tmp (38 : Nat)), none⟩,
  ⟨(some 39), .extract (.tmp (36 : Nat)) 0, none⟩,
  ⟨(some 40), .extract (.tmp (36 : Nat)) 1, none⟩,
  ⟨(some 6), .alloc 28, none⟩,
  ⟨none, .store 28 (.tmp (6 : Nat)) (.tmp (39 : Nat)), none⟩,
  ⟨(some 7), .assign (.tmp (40 : Nat)), none⟩]
def K2_StripRegisters_r6 : List SO := [⟨(some 42), .load 28 (.tmp (6 : Nat)), none⟩,
  ⟨(some 43), .call ⟨(.value (.func (33 : Nat))), #[(.tmp (42 : Nat))], #[28]⟩, none⟩,
  ⟨(some 41), .move (.tmp (43 : Nat)), none⟩,
  ⟨(some 44), .extract (.tmp (41 : Nat)) 0, none⟩,
  ⟨(some 45), .extract (.tmp (41 : Nat)) 1, none⟩,
  ⟨(some 8), .assign (.tmp (44 : Nat)), none⟩,
  ⟨(some 9), .assign (.tmp (45 : Nat)), none⟩]
def K2_StripRegisters_r7 : List SO := [⟨(some 46), .move (.tmp (8 : Nat)), none⟩,
  ⟨(some 47), .call ⟨(.builtin .len), #[(.tmp (46 : Nat))], #[60]⟩, none⟩,
  ⟨(some 48), .move (.const (.int .i64 0)), none⟩]
def K2_StripRegisters_r8 : List SO := [⟨(some 49), .binOp .lss 3 (.tmp (48 : Nat)) (.tmp (47 : Nat)) 3, none⟩]
def K2_StripRegisters_r9 : List SO := [⟨(some 50), .move (.tmp (48 : Nat)), none⟩,
  ⟨(some 10), .assign (.tmp (50 : Nat)), none⟩]
def K2_StripRegisters_r10 : List SO := [⟨(some 51), .move (.tmp (8 : Nat)), none⟩,
  ⟨(some 52), .move (.tmp (10 : Nat)), none⟩,
  ⟨(some 53), .move (.tmp (8 : Nat)), none⟩,
  ⟨(some 54), .move (.tmp (10 : Nat)), none⟩,
  ⟨(some 55), .move (.tmp (8 : Nat)), none⟩,
  ⟨(some 56), .move (.tmp (10 : Nat)), none⟩,
  ⟨(some 57), .move (.tmp (8 : Nat)), none⟩,
  ⟨(some 58), .move (.tmp (10 : Nat)), none⟩,
  ⟨(some 59), .indexAddr 60 (.tmp (57 : Nat)) (.tmp (58 : Nat)), none⟩,
  ⟨(some 60), .fieldAddr 66 (.tmp (59 : Nat)) 0, none⟩,
  ⟨(some 61), .load 3 (.tmp (60 : Nat)), none⟩,
  ⟨(some 62), .binOp .add 3 (.tmp (61 : Nat)) (.const (.int .i64 6)) 3, none⟩,
  ⟨(some 63), .move (.tmp (8 : Nat)), none⟩,
  ⟨(some 64), .move (.tmp (10 : Nat)), none⟩,
  ⟨(some 65), .indexAddr 60 (.tmp (63 : Nat)) (.tmp (64 : Nat)), none⟩,
  ⟨(some 66), .fieldAddr 66 (.tmp (65 : Nat)) 1, none⟩,
  ⟨(some 67), .load 3 (.tmp (66 : Nat)), none⟩,
  ⟨(some 68), .binOp .add 3 (.tmp (67 : Nat)) (.const (.int .i64 6)) 3, none⟩,
  ⟨(some 69), .move (.tmp (8 : Nat)), none⟩,
  ⟨(some 70), .move (.tmp (10 : Nat)), none⟩,
  ⟨(some 71), .indexAddr 60 (.tmp (69 : Nat)) (.tmp (70 : Nat)), none⟩,
  ⟨(some 72), .fieldAddr 66 (.tmp (71 : Nat)) 2, none⟩,
  ⟨(some 73), .load 3 (.tmp (72 : Nat)), none⟩,
  ⟨(some 74), .binOp .add 3 (.tmp (73 : Nat)) (.const (.int .i64 6)) 3, none⟩,
  ⟨(some 75), .indexAddr 60 (.tmp (51 : Nat)) (.tmp (52 : Nat)), none⟩,
  ⟨(some 76), .fieldAddr 66 (.tmp (75 : Nat)) 0, none⟩,
  ⟨none, .store 3 (.tmp (76 : Nat)) (.tmp (62 : Nat)), none⟩,
  ⟨(some 77), .indexAddr 60 (.tmp (53 : Nat)) (.tmp (54 : Nat)), none⟩,
  ⟨(some 78), .fieldAddr 66 (.tmp (77 : Nat)) 1, none⟩,
  ⟨none, .store 3 (.tmp (78 : Nat)) (.tmp (68 : Nat)), none⟩,
  ⟨(some 79), .indexAddr 60 (.tmp (55 : Nat)) (.tmp (56 : Nat)), none⟩,
  ⟨(some 80), .fieldAddr 66 (.tmp (79 : Nat)) 2, none⟩,
  ⟨none, .store 3 (.tmp (80 : Nat)) (.tmp (74 : Nat)), none⟩]
def K2_StripRegisters_a10 : List (List Nat) := [[], [], [], [], [], [], [], [], [6, 7], [8], [9], [10], [], [], [12, 13], [14], [15], [16], [], [], [18, 19], [20], [21], [22], [0, 1, 0, 1, 6, 7, 8, 9, 10, 11, 16, 22], [24, 0, 1, 6, 7, 8, 9, 10, 11, 16, 22], [25, 11, 0, 1, 6, 7, 8, 9, 10, 11, 16, 22], [2, 3, 0, 1, 2, 3, 6, 7, 8, 9, 10, 11, 12, 13, 14, 15, 16, 17, 22, 24, 25, 26], [27, 0, 1, 2, 3, 6, 7, 8, 9, 10, 11, 12, 13, 14, 15, 16, 17, 22, 24, 25, 26], [28, 17, 26, 0, 1, 2, 3, 6, 7, 8, 9, 10, 11, 12, 13, 14, 15, 16, 17, 22, 24, 25, 26], [4, 5, 0, 1, 2, 3, 4, 5, 6, 7, 8, 9, 10, 11, 12, 13, 14, 15, 16, 17, 18, 19, 20, 21, 22, 23, 24, 25, 26, 27, 28, 29], [30, 0, 1, 2, 3, 4, 5, 6, 7, 8, 9, 10, 11, 12, 13, 14, 15, 16, 17, 18, 19, 20, 21, 22, 23, 24, 25, 26, 27, 28, 29], [31, 23, 29, 0, 1, 2, 3, 4, 5, 6, 7, 8, 9, 10, 11, 12, 13, 14, 15, 16, 17, 18, 19, 20, 21, 22, 23, 24, 25, 26, 27, 28, 29]]
def K2_StripRegisters_r11 : List SO := [⟨(some 81), .binOp .add 3 (.tmp (48 : Nat)) (.const (.int .i64 1)) 3, none⟩,
  ⟨(some 48), .move (.tmp (81 : Nat)), none⟩]
def K2_StripRegisters_r12 : List SO := [⟨(some 82), .move (.tmp (0 : Nat)), none⟩,
  ⟨(some 83), .binOp .mul 3 (.const (.int .i64 2)) (.tmp (82 : Nat)) 3, none⟩,
  ⟨(some 84), .binOp .add 3 (.tmp (83 : Nat)) (.const (.int .i64 13)) 3, none⟩,
  ⟨(some 11), .assign (.tmp (84 : Nat)), none⟩]
def K2_StripRegisters_r13 : List SO := [⟨(some 86), .move (.tmp (11 : Nat)), none⟩,
  ⟨(some 87), .move (.tmp (11 : Nat)), none⟩,
  ⟨(some 88), .move (.tmp (8 : Nat)), none⟩,
  ⟨(some 89), .call ⟨(.value (.func (35 : Nat))), #[(.tmp (86 : Nat)), (.tmp (87 : Nat)), (.tmp (88 : Nat))], #[3, 3, 60]⟩, none⟩,
  ⟨(some 85), .move (.tmp (89 : Nat)), none⟩,
  ⟨(some 90), .extract (.tmp (85 : Nat)) 0, none⟩,
  ⟨(some 91), .extract (.tmp (85 : Nat)) 1, none⟩,
  ⟨(some 12), .alloc 28, none⟩,
  ⟨none, .store 28 (.tmp (12 : Nat)) (.tmp (90 : Nat)), none⟩,
  ⟨(some 13), .assign (.tmp (91 : Nat)), none⟩]
def K2_StripRegisters_r14 : List SO := [⟨(some 14), .assign (.const (.slice none 0 0)), none⟩,
  ⟨(some 15), .assign (.const (.slice none 0 0)), none⟩]
def K2_StripRegisters_r15 : List SO := [⟨(some 16), .assign (.const (.slice none 0 0)), none⟩]
def K2_StripRegisters_r16 : List SO := [⟨(some 92), .move (.tmp (5 : Nat)), none⟩,
  ⟨(some 93), .move (.const (.int .i64 0)), none⟩]
def K2_StripRegisters_r17 : List SO := [⟨(some 94), .binOp .lss 3 (.tmp (93 : Nat)) (.tmp (92 : Nat)) 3, none⟩]
def K2_StripRegisters_r18 : List SO := [⟨(some 95), .move (.tmp (93 : Nat)), none⟩,
  ⟨(some 17), .assign (.tmp (95 : Nat)), none⟩]
def K2_StripRegisters_r19 : List SO := [⟨(some 96), .build 31 #[], none⟩,
  ⟨(some 18), .alloc 31, none⟩,
  ⟨none, .store 31 (.tmp (18 : Nat)) (.tmp (96 : Nat)), none⟩]
def K2_StripRegisters_r20 : List SO := [⟨(some 97), .move (.tmp (17 : Nat)), none⟩,
  ⟨(some 98), .move (.tmp (1 : Nat)), none⟩,
  ⟨(some 99), .call ⟨(.builtin .len), #[(.tmp (98 : Nat))], #[35]⟩, none⟩,
  ⟨(some 100), .binOp .lss 3 (.tmp (97 : Nat)) (.tmp (99 : Nat)) 3, none⟩]
def K2_StripRegisters_r21 : List SO := [⟨(some 101), .move (.tmp (1 : Nat)), none⟩,
  ⟨(some 102), .move (.tmp (17 : Nat)), none⟩,
  ⟨(some 103), .indexAddr 35 (.tmp (101 : Nat)) (.tmp (102 : Nat)), none⟩,
  ⟨(some 104), .fieldAddr 31 (.tmp (103 : Nat)) 0, none⟩,
  ⟨(some 105), .load 3 (.tmp (104 : Nat)), none⟩,
  ⟨(some 106), .call ⟨(.value (.func (16 : Nat))), #[(.tmp (105 : Nat)), (.const (.int .i64 13))], #[3, 3]⟩, none⟩,
  ⟨(some 107), .binOp .sub 3 (.tmp (106 : Nat)) (.const (.int .i64 6)) 3, none⟩,
  ⟨(some 108), .move (.tmp (1 : Nat)), none⟩,
  ⟨(some 109), .move (.tmp (17 : Nat)), none⟩,
  ⟨(some 110), .indexAddr 35 (.tmp (108 : Nat)) (.tmp (109 : Nat)), none⟩,
  ⟨(some 111), .fieldAddr 31 (.tmp (110 : Nat)) 1, none⟩,
  ⟨(some 112), .load 3 (.tmp (111 : Nat)), none⟩,
  ⟨(some 113), .call ⟨(.value (.func (16 : Nat))), #[(.tmp (112 : Nat)), (.const (.int .i64 13))], #[3, 3]⟩, none⟩,
  ⟨(some 114), .binOp .sub 3 (.tmp (113 : Nat)) (.const (.int .i64 6)) 3, none⟩,
  ⟨(some 115), .build 31 #[(0, (.tmp (107 : Nat))), (1, (.tmp (114 : Nat)))], none⟩,
  ⟨none, .store 31 (.tmp (18 : Nat)) (.tmp (115 : Nat)), none⟩]
def K2_StripRegisters_a21 : List (List Nat) := [[], [], [0, 1], [2], [3], [4], [5], [], [], [7, 8], [9], [10], [11, 5], [12], [6, 13], [14, 12, 0, 1, 2, 3, 4, 5, 6, 7, 8, 9, 10, 11, 12, 13, 14]]
def K2_StripRegisters_r22 : List SO := [⟨(some 116), .move (.tmp (14 : Nat)), none⟩,
  ⟨(some 117), .load 28 (.tmp (12 : Nat)), none⟩,
  ⟨(some 118), .buildSlice 38 1 #[(0, (.tmp (117 : Nat)))], none⟩,
  ⟨(some 119), .call ⟨(.builtin .append), #[(.tmp (116 : Nat)), (.tmp (118 : Nat))], #[38, 38]⟩, none⟩,
  ⟨(some 120), .move (.tmp (16 : Nat)), none⟩,
  ⟨(some 121), .load 31 (.tmp (18 : Nat)), none⟩,
  ⟨(some 122), .buildSlice 35 1 #[(0, (.tmp (121 : Nat)))], none⟩,
  ⟨(some 123), .call ⟨(.builtin .append), #[(.tmp (120 : Nat)), (.tmp (122 : Nat))], #[35, 35]⟩, none⟩,
  ⟨(some 14), .assign (.tmp (119 : Nat)), none⟩,
  ⟨(some 16), .assign (.tmp (123 : Nat)), none⟩]
def K2_StripRegisters_a22 : List (List Nat) := [[], [], [1], [0, 2], [], [], [5], [4, 6, 3], [3, 7, 0, 1, 2, 3], [7, 8, 0, 1, 2, 3, 4, 5, 6, 7, 8]]
def K2_StripRegisters_r23 : List SO := [⟨(some 124), .binOp .add 3 (.tmp (93 : Nat)) (.const (.int .i64 1)) 3, none⟩,
  ⟨(some 93), .move (.tmp (124 : Nat)), none⟩]
def K2_StripRegisters_r24 : List SO := [⟨(some 126), .move (.tmp (14 : Nat)), none⟩,
  ⟨(some 127), .move (.tmp (5 : Nat)), none⟩,
  ⟨(some 128), .makeSlice 22 (.tmp (127 : Nat)) (.tmp (127 : Nat)), none⟩,
  ⟨(some 129), .move (.tmp (16 : Nat)), none⟩,
  ⟨(some 130), .call ⟨(.value (.func (40 : Nat))), #[(.tmp (126 : Nat)), (.tmp (128 : Nat)), (.tmp (129 : Nat))], #[38, 22, 35]⟩, none⟩,
  ⟨(some 125), .move (.tmp (130 : Nat)), none⟩,
  ⟨(some 131), .extract (.tmp (125 : Nat)) 0, none⟩,
  ⟨(some 132), .extract (.tmp (125 : Nat)) 1, none⟩,
  ⟨(some 19), .alloc 47, none⟩,
  ⟨none, .store 47 (.tmp (19 : Nat)) (.tmp (131 : Nat)), none⟩,
  ⟨(some 20), .assign (.tmp (132 : Nat)), none⟩]
def K2_StripRegisters_r25 : List SO := [⟨(some 133), .move (.tmp (5 : Nat)), none⟩,
  ⟨(some 134), .move (.const (.int .i64 0)), none⟩]
def K2_StripRegisters_r26 : List SO := [⟨(some 135), .binOp .lss 3 (.tmp (134 : Nat)) (.tmp (133 : Nat)) 3, none⟩]
def K2_StripRegisters_r27 : List SO := [⟨(some 136), .move (.tmp (134 : Nat)), none⟩,
  ⟨(some 21), .assign (.tmp (136 : Nat)), none⟩]
def K2_StripRegisters_r28 : List SO := [⟨(some 138), .load 47 (.tmp (19 : Nat)), none⟩,
  ⟨(some 139), .move (.tmp (21 : Nat)), none⟩,
  ⟨(some 140), .call ⟨(.value (.func (41 : Nat))), #[(.tmp (138 : Nat)), (.tmp (139 : Nat))], #[47, 3]⟩, none⟩,
  ⟨(some 137), .move (.tmp (140 : Nat)), none⟩,
  ⟨(some 141), .extract (.tmp (137 : Nat)) 0, none⟩,
  ⟨(some 142), .extract (.tmp (137 : Nat)) 1, none⟩,
  ⟨(some 22), .alloc 28, none⟩,
  ⟨none, .store 28 (.tmp (22 : Nat)) (.tmp (141 : Nat)), none⟩,
  ⟨(some 23), .assign (.tmp (142 : Nat)), none⟩]
def K2_StripRegisters_r29 : List SO := [⟨(some 143), .move (.tmp (23 : Nat)), none⟩,
  ⟨(some 144), .binOp .neq 32 (.tmp (143 : Nat)) (.const (.int .i64 0)) 32, none⟩]
def K2_StripRegisters_r30 : List SO := [⟨(some 4), .assign (.const (.bool false)), none⟩]
def K2_StripRegisters_r31 : List SO := [⟨(some 145), .move (.tmp (15 : Nat)), none⟩,
  ⟨(some 146), .load 28 (.tmp (22 : Nat)), none⟩,
  ⟨(some 147), .buildSlice 38 1 #[(0, (.tmp (146 : Nat)))], none⟩,
  ⟨(some 148), .call ⟨(.builtin .append), #[(.tmp (145 : Nat)), (.tmp (147 : Nat))], #[38, 38]⟩, none⟩,
  ⟨(some 15), .assign (.tmp (148 : Nat)), none⟩]
def K2_StripRegisters_r32 : List SO := [⟨(some 149), .binOp .add 3 (.tmp (134 : Nat)) (.const (.int .i64 1)) 3, none⟩,
  ⟨(some 134), .move (.tmp (149 : Nat)), none⟩]
def K2_StripRegisters_r33 : List SO := [⟨(some 151), .move (.tmp (15 : Nat)), none⟩,
  ⟨(some 152), .move (.tmp (0 : Nat)), none⟩,
  ⟨(some 153), .move (.tmp (0 : Nat)), none⟩,
  ⟨(some 154), .binOp .add 3 (.tmp (153 : Nat)) (.const (.int .i64 6)) 3, none⟩,
  ⟨(some 155), .move (.tmp (0 : Nat)), none⟩,
  ⟨(some 156), .binOp .add 3 (.tmp (155 : Nat)) (.const (.int .i64 6)) 3, none⟩,
  ⟨(some 157), .build 31 #[(0, (.tmp (154 : Nat))), (1, (.tmp (156 : Nat)))], none⟩,
  ⟨(some 158), .call ⟨(.value (.func (19 : Nat))), #[(.tmp (151 : Nat)), (.tmp (152 : Nat)), (.tmp (157 : Nat))], #[38, 3, 31]⟩, none⟩,
  ⟨(some 150), .move (.tmp (158 : Nat)), none⟩,
  ⟨(some 159), .extract (.tmp (150 : Nat)) 0, none⟩,
  ⟨(some 160), .extract (.tmp (150 : Nat)) 1, none⟩,
  ⟨(some 24), .assign (.tmp (159 : Nat)), none⟩,
  ⟨(some 25), .assign (.tmp (160 : Nat)), none⟩]
def K2_StripRegisters_r34 : List SO := [⟨(some 161), .move (.tmp (7 : Nat)), none⟩,
  ⟨(some 162), .binOp .neq 32 (.tmp (161 : Nat)) (.const (.int .i64 0)) 32, none⟩,
  ⟨(some 163), .move (.tmp (162 : Nat)), none⟩,
  ⟨(some 164), .move (.tmp (9 : Nat)), (some (163, false))⟩,
  ⟨(some 165), .binOp .neq 32 (.tmp (164 : Nat)) (.const (.int .i64 0)) 32, (some (163, false))⟩,
  ⟨(some 166), .pick (.tmp (163 : Nat)) (.const (.bool true)) (.tmp (165 : Nat)), none⟩,
  ⟨(some 167), .move (.tmp (166 : Nat)), none⟩,
  ⟨(some 168), .move (.tmp (13 : Nat)), (some (167, false))⟩,
  ⟨(some 169), .binOp .neq 32 (.tmp (168 : Nat)) (.const (.int .i64 0)) 32, (some (167, false))⟩,
  ⟨(some 170), .pick (.tmp (167 : Nat)) (.const (.bool true)) (.tmp (169 : Nat)), none⟩,
  ⟨(some 171), .move (.tmp (170 : Nat)), none⟩,
  ⟨(some 172), .move (.tmp (20 : Nat)), (some (171, false))⟩,
  ⟨(some 173), .binOp .neq 32 (.tmp (172 : Nat)) (.const (.int .i64 0)) 32, (some (171, false))⟩,
  ⟨(some 174), .pick (.tmp (171 : Nat)) (.const (.bool true)) (.tmp (173 : Nat)), none⟩,
  ⟨(some 175), .move (.tmp (174 : Nat)), none⟩,
  ⟨(some 176), .move (.tmp (25 : Nat)), (some (175, false))⟩,
  ⟨(some 177), .binOp .neq 32 (.tmp (176 : Nat)) (.const (.int .i64 0)) 32, (some (175, false))⟩,
  ⟨(some 178), .pick (.tmp (175 : Nat)) (.const (.bool true)) (.tmp (177 : Nat)), none⟩,
  ⟨(some 179), .move (.tmp (178 : Nat)), none⟩,
  ⟨(some 180), .move (.tmp (24 : Nat)), (some (179, false))⟩,
  ⟨(some 181), .call ⟨(.builtin .len), #[(.tmp (180 : Nat))], #[35]⟩, (some (179, false))⟩,
  ⟨(some 182), .move (.tmp (5 : Nat)), (some (179, false))⟩,
  ⟨(some 183), .binOp .neq 3 (.tmp (181 : Nat)) (.tmp (182 : Nat)) 3, (some (179, false))⟩,
  ⟨(some 184), .pick (.tmp (179 : Nat)) (.const (.bool true)) (.tmp (183 : Nat)), none⟩]
def K2_StripRegisters_r35 : List SO := [⟨(some 4), .assign (.const (.bool false)), none⟩]
def K2_StripRegisters_r36 : List SO := [⟨(some 185), .move (.tmp (5 : Nat)), none⟩,
  ⟨(some 186), .move (.const (.int .i64 0)), none⟩]
def K2_StripRegisters_r37 : List SO := [⟨(some 187), .binOp .lss 3 (.tmp (186 : Nat)) (.tmp (185 : Nat)) 3, none⟩]
def K2_StripRegisters_r38 : List SO := [⟨(some 188), .move (.tmp (186 : Nat)), none⟩,
  ⟨(some 26), .assign (.tmp (188 : Nat)), none⟩]
def K2_StripRegisters_r39 : List SO := [⟨(some 189), .move (.tmp (24 : Nat)), none⟩,
  ⟨(some 190), .move (.tmp (26 : Nat)), none⟩,
  ⟨(some 191), .indexAddr 35 (.tmp (189 : Nat)) (.tmp (190 : Nat)), none⟩,
  ⟨(some 192), .load 31 (.tmp (191 : Nat)), none⟩,
  ⟨(some 193), .move (.tmp (16 : Nat)), none⟩,
  ⟨(some 194), .move (.tmp (26 : Nat)), none⟩,
  ⟨(some 195), .indexAddr 35 (.tmp (193 : Nat)) (.tmp (194 : Nat)), none⟩,
  ⟨(some 196), .load 31 (.tmp (195 : Nat)), none⟩,
  ⟨(some 197), .binOp .neq 31 (.tmp (192 : Nat)) (.tmp (196 : Nat)) 31, none⟩]
def K2_StripRegisters_a39 : List (List Nat) := [[], [], [0, 1], [2], [], [], [4, 5], [6], [3, 7]]
def K2_StripRegisters_r40 : List SO := [⟨(some 4), .assign (.const (.bool false)), none⟩]
def K2_StripRegisters_r41 : List SO := [⟨(some 198), .binOp .add 3 (.tmp (186 : Nat)) (.const (.int .i64 1)) 3, none⟩,
  ⟨(some 186), .move (.tmp (198 : Nat)), none⟩]
def K2_StripRegisters_r42 : List SO := [⟨(some 4), .assign (.const (.bool true)), none⟩]
def K2_StripRegisters_c : SF := ⟨199, (.seq (.reg K2_StripRegisters_r0)
  (.seq (.seq (.reg K2_StripRegisters_r1)
  (.cond (.tmp (28 : Nat)) (.seq (.reg K2_StripRegisters_r2)
  .ret) .skip))
  (.seq (.reg K2_StripRegisters_r3)
  (.seq (.reg K2_StripRegisters_r4)
  (.seq (.reg K2_StripRegisters_r5)
  (.seq (.reg K2_StripRegisters_r6)
  (.seq (.seq (.reg K2_StripRegisters_r7)
  (.block 0 (.loop (.seq (.reg K2_StripRegisters_r8)
  (.seq (.cond (.tmp (49 : Nat)) .skip (.exit 0))
  (.seq (.block 1 (.seq (.reg K2_StripRegisters_r9)
  (.regd K2_StripRegisters_r10 K2_StripRegisters_a10)))
  (.reg K2_StripRegisters_r11)))))))
  (.seq (.reg K2_StripRegisters_r12)
  (.seq (.reg K2_StripRegisters_r13)
  (.seq (.reg K2_StripRegisters_r14)
  (.seq (.reg K2_StripRegisters_r15)
  (.seq (.seq (.reg K2_StripRegisters_r16)
  (.block 2 (.loop (.seq (.reg K2_StripRegisters_r17)
  (.seq (.cond (.tmp (94 : Nat)) .skip (.exit 2))
  (.seq (.block 3 (.seq (.reg K2_StripRegisters_r18)
  (.seq (.reg K2_StripRegisters_r19)
  (.seq (.seq (.reg K2_StripRegisters_r20)
  (.cond (.tmp (100 : Nat)) (.regd K2_StripRegisters_r21 K2_StripRegisters_a21) .skip))
  (.regd K2_StripRegisters_r22 K2_StripRegisters_a22)))))
  (.reg K2_StripRegisters_r23)))))))
  (.seq (.reg K2_StripRegisters_r24)
  (.seq (.seq (.reg K2_StripRegisters_r25)
  (.block 4 (.loop (.seq (.reg K2_StripRegisters_r26)
  (.seq (.cond (.tmp (135 : Nat)) .skip (.exit 4))
  (.seq (.block 5 (.seq (.reg K2_StripRegisters_r27)
  (.seq (.reg K2_StripRegisters_r28)
  (.seq (.seq (.reg K2_StripRegisters_r29)
  (.cond (.tmp (144 : Nat)) (.seq (.reg K2_StripRegisters_r30)
  .ret) .skip))
  (.reg K2_StripRegisters_r31)))))
  (.reg K2_StripRegisters_r32)))))))
  (.seq (.reg K2_StripRegisters_r33)
  (.seq (.seq (.reg K2_StripRegisters_r34)
  (.cond (.tmp (184 : Nat)) (.seq (.reg K2_StripRegisters_r35)
  .ret) .skip))
  (.seq (.seq (.reg K2_StripRegisters_r36)
  (.block 6 (.loop (.seq (.reg K2_StripRegisters_r37)
  (.seq (.cond (.tmp (187 : Nat)) .skip (.exit 6))
  (.seq (.block 7 (.seq (.reg K2_StripRegisters_r38)
  (.seq (.regd K2_StripRegisters_r39 K2_StripRegisters_a39)
  (.cond (.tmp (197 : Nat)) (.seq (.reg K2_StripRegisters_r40)
  .ret) .skip))))
  (.reg K2_StripRegisters_r41)))))))
  (.seq (.reg K2_StripRegisters_r42)
  .ret)))))))))))))))))), [.tmp 4]⟩
theorem K2_StripRegisters_s : slimF Try.prog 14 = some K2_StripRegisters_c := by kernel_rfl
abbrev K2_StripRegisters_f : Nat := 14

end Go.Proofs.Ytanhalcbghbpaaa
