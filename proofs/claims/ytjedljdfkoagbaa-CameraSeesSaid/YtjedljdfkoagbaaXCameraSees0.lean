/- Printed by program: the functions' code in few words; the kernel checks it against the translation. -/
import Derived.Test.YtjedljdfkoagbaaRows
import Derived.Test.YtjedljdfkoagbaaLiteTP
namespace Go.Proofs.Ytjedljdfkoagbaa
open Go Go.Lite
set_option linter.unusedVariables false

/-- Int -/
abbrev Ey : Nat := 0
/-- Int -/
abbrev Ei : Nat := 1
/-- Bool -/
abbrev Eo : Nat := 2
@[reducible] def A (e : Nat) : Type := match e with
  | 0 => Int
  | 1 => Int
  | 2 => Bool
  | 3 => List (Int)
  | 4 => Int × Int
  | 5 => Int × Int × Int × Int × Int × Int
  | _ => Unit
def eSz (e : Nat) : Nat := match e with
  | 0 => 1
  | 1 => 1
  | 2 => 1
  | 3 => 1
  | 4 => 2
  | 5 => 6
  | _ => 1
def eD (e : Nat) : A e := match e with
  | 0 => (0 : Int)
  | 1 => (0 : Int)
  | 2 => false
  | 3 => ([] : List (Int))
  | 4 => ((0 : Int), (0 : Int))
  | 5 => ((0 : Int), (0 : Int), (0 : Int), (0 : Int), (0 : Int), (0 : Int))
  | _ + 6 => ()
def encL0 (x : Int) : List LV := [.int .u8 (x)]
def enc0 (x : Int) : List (TV A) := [.int .u8 (x)]
def dec0 (cs : List (TV A)) : Option (Int) := match cs with
  | [.int .u8 x0] => some x0
  | _ => none
def encL1 (x : Int) : List LV := [.int .i64 (x)]
def enc1 (x : Int) : List (TV A) := [.int .i64 (x)]
def dec1 (cs : List (TV A)) : Option (Int) := match cs with
  | [.int .i64 x0] => some x0
  | _ => none
def encL2 (x : Bool) : List LV := [.bool (x)]
def enc2 (x : Bool) : List (TV A) := [.bool (x)]
def dec2 (cs : List (TV A)) : Option (Bool) := match cs with
  | [.bool x0] => some x0
  | _ => none
def encL3 (x : List (Int)) : List LV := [.ps 1 (List.length (x)) (List.flatMap encL0 (x))]
def enc3 (x : List (Int)) : List (TV A) := [.lst 0 (x)]
def dec3 (cs : List (TV A)) : Option (List (Int)) := match cs with
  | [.lst 0 x0] => some x0
  | _ => none
def encL4 (x : Int × Int) : List LV := [.int .u32 (x.1), .int .u32 (x.2)]
def enc4 (x : Int × Int) : List (TV A) := [.int .u32 (x.1), .int .u32 (x.2)]
def dec4 (cs : List (TV A)) : Option (Int × Int) := match cs with
  | [.int .u32 x0, .int .u32 x1] => some (x0, x1)
  | _ => none
def encL5 (x : Int × Int × Int × Int × Int × Int) : List LV := [.int .i64 (x.1), .int .i64 (x.2.1), .int .i64 (x.2.2.1), .int .i64 (x.2.2.2.1), .int .i64 (x.2.2.2.2.1), .int .i64 (x.2.2.2.2.2)]
def enc5 (x : Int × Int × Int × Int × Int × Int) : List (TV A) := [.int .i64 (x.1), .int .i64 (x.2.1), .int .i64 (x.2.2.1), .int .i64 (x.2.2.2.1), .int .i64 (x.2.2.2.2.1), .int .i64 (x.2.2.2.2.2)]
def dec5 (cs : List (TV A)) : Option (Int × Int × Int × Int × Int × Int) := match cs with
  | [.int .i64 x0, .int .i64 x1, .int .i64 x2, .int .i64 x3, .int .i64 x4, .int .i64 x5] => some (x0, x1, x2, x3, x4, x5)
  | _ => none
def eEncL (e : Nat) (a : A e) : List LV := match e, a with
  | 0, a => encL0 a
  | 1, a => encL1 a
  | 2, a => encL2 a
  | 3, a => encL3 a
  | 4, a => encL4 a
  | 5, a => encL5 a
  | _ + 6, _ => [.nilp]
def eEnc (e : Nat) (a : A e) : List (TV A) := match e, a with
  | 0, a => enc0 a
  | 1, a => enc1 a
  | 2, a => enc2 a
  | 3, a => enc3 a
  | 4, a => enc4 a
  | 5, a => enc5 a
  | _ + 6, _ => [.nilp]
def eDec (e : Nat) (cs : List (TV A)) : Option (A e) := match e with
  | 0 => dec0 cs
  | 1 => dec1 cs
  | 2 => dec2 cs
  | 3 => dec3 cs
  | 4 => dec4 cs
  | 5 => dec5 cs
  | _ + 6 => none
def eEl (t : Nat) : Option Nat := match t with
  | 22 => some 0
  | 25 => some 1
  | 63 => some 2
  | 113 => some 3
  | 154 => some 4
  | 218 => some 5
  | _ => none
def fl (e : Nat) : Bool := match e with
  | 0 => true
  | 1 => true
  | 2 => true
  | 3 => false
  | 4 => true
  | 5 => true
  | _ => false
def eByt (e : Nat) : Option (List (A e) → List Int) := match e with
  | 0 => some fun xs => xs
  | _ => none
theorem flat1 : ∀ xs : List Int, xs.flatMap (fun x => [LV.int .u8 x]) = xs.map (LV.int .u8)
  | [] => rfl
  | x :: r => congrArg (LV.int .u8 x :: ·) (flat1 r)
def R : Reg A := ⟨eSz, eD, eEncL, eEnc, eDec, eEl, eByt⟩
theorem R_ok : R.Ok where
  pos e := by show 0 < eSz e; unfold eSz; split <;> decide
  len e a := match e, a with
    | 0, a => rfl
    | 1, a => rfl
    | 2, a => rfl
    | 3, a => rfl
    | 4, a => rfl
    | 5, a => rfl
    | e + 6, a => rfl
  ok e a := match e, a with
    | 0, a => rfl
    | 1, a => rfl
    | 2, a => rfl
    | 3, a => rfl
    | 4, a => rfl
    | 5, a => rfl
    | e + 6, a => rfl
  dec e cs a h := match e, a, h with
    | 0, a, h => by
      replace h : dec0 cs = some a := h
      unfold dec0 at h
      split at h
      · cases h; rfl
      · cases h
    | 1, a, h => by
      replace h : dec1 cs = some a := h
      unfold dec1 at h
      split at h
      · cases h; rfl
      · cases h
    | 2, a, h => by
      replace h : dec2 cs = some a := h
      unfold dec2 at h
      split at h
      · cases h; rfl
      · cases h
    | 3, a, h => by
      replace h : dec3 cs = some a := h
      unfold dec3 at h
      split at h
      · cases h; rfl
      · cases h
    | 4, a, h => by
      replace h : dec4 cs = some a := h
      unfold dec4 at h
      split at h
      · cases h; rfl
      · cases h
    | 5, a, h => by
      replace h : dec5 cs = some a := h
      unfold dec5 at h
      split at h
      · cases h; rfl
      · cases h
    | e + 6, a, h => by cases h
  free e a := match e, a with
    | 0, a => rfl
    | 1, a => rfl
    | 2, a => rfl
    | 3, a => rfl
    | 4, a => rfl
    | 5, a => rfl
    | e + 6, a => rfl
  sol e a := match e, a with
    | 0, a => rfl
    | 1, a => rfl
    | 2, a => rfl
    | 3, a => rfl
    | 4, a => rfl
    | 5, a => rfl
    | e + 6, a => rfl
  byt e f h xs := match e, f, h with
    | 0, f, h => by cases h; exact flat1 xs
    | 1, f, h => by cases h
    | 2, f, h => by cases h
    | 3, f, h => by cases h
    | 4, f, h => by cases h
    | 5, f, h => by cases h
    | e + 6, f, h => by cases h
theorem fl_ok : ∀ e, fl e = true → ∀ a, psfreeL (R.encL e a) = true := fun e h a => match e, h, a with
  | 0, h, a => rfl
  | 1, h, a => rfl
  | 2, h, a => rfl
  | 3, h, a => by cases h
  | 4, h, a => rfl
  | 5, h, a => rfl
  | e + 6, h, a => rfl

def tyL : List (Nat × TI) := [(0, ⟨.other, 1, false, [.dead]⟩),
  (24, ⟨.struct [(0, 1, false), (1, 1, false), (2, 1, false)], 3, true, [.int .i64 0, .int .i64 0, .nils]⟩),
  (27, ⟨.struct [(0, 1, false), (1, 1, false), (2, 1, false), (3, 1, false), (4, 1, false), (5, 1, false), (6, 1, false), (7, 1, false)], 8, true, [.int .i64 0, .int .i64 0, .int .i64 0, .int .i64 0, .int .i64 0, .int .i64 0, .int .i64 0, .nils]⟩),
  (30, ⟨.struct [(0, 1, false), (1, 1, false), (2, 1, false)], 3, true, [.int .i64 0, .int .i64 0, .nils]⟩),
  (31, ⟨.int .i64, 1, false, [.int .i64 0]⟩),
  (3, ⟨.int .i64, 1, false, [.int .i64 0]⟩),
  (22, ⟨.slice 1 1 [.int .u8 0], 1, false, [.nils]⟩),
  (25, ⟨.slice 1 8 [.int .i64 0], 1, false, [.nils]⟩),
  (4, ⟨.bool, 1, false, [.bool false]⟩),
  (5, ⟨.int .u8, 1, false, [.int .u8 0]⟩),
  (91, ⟨.other, 1, false, [.nilp]⟩),
  (95, ⟨.other, 1, false, [.nilp]⟩),
  (9, ⟨.str, 1, false, [.str ⟨([] : List UInt8).toArray⟩]⟩),
  (63, ⟨.slice 1 1 [.bool false], 1, false, [.nils]⟩),
  (104, ⟨.other, 1, false, [.nilp]⟩),
  (48, ⟨.other, 1, false, [.nilf]⟩),
  (149, ⟨.other, 1, false, [.nilp]⟩),
  (201, ⟨.other, 1, false, [.nilf]⟩),
  (115, ⟨.struct [(0, 1, false), (1, 1, false), (2, 1, false), (3, 1, false)], 4, true, [.int .i64 0, .int .i64 0, .int .i64 0, .nils]⟩),
  (113, ⟨.slice 1 24 [.nils], 1, false, [.nils]⟩),
  (157, ⟨.struct [(0, 1, false), (1, 1, false), (2, 1, false)], 3, true, [.nils, .int .u32 0, .int .i64 0]⟩),
  (161, ⟨.struct [(0, 3, true), (3, 1, false), (4, 1, false), (5, 1, false)], 6, true, [.nils, .int .u32 0, .int .i64 0, .int .u32 0, .nils, .bool false]⟩),
  (155, ⟨.int .u32, 1, false, [.int .u32 0]⟩),
  (199, ⟨.struct [(0, 3, true), (3, 1, false), (4, 1, false)], 5, true, [.nils, .int .u32 0, .int .i64 0, .int .u32 0, .nils]⟩),
  (154, ⟨.slice 2 8 [.int .u32 0, .int .u32 0], 1, false, [.nils]⟩),
  (203, ⟨.other, 1, false, [.nilp]⟩),
  (205, ⟨.struct [(0, 1, false), (1, 1, false)], 2, true, [.int .u32 0, .int .u32 0]⟩),
  (226, ⟨.struct [(0, 1, false), (1, 1, false), (2, 1, false)], 3, true, [.int .i64 0, .int .i64 0, .int .i64 0]⟩),
  (218, ⟨.slice 6 48 [.int .i64 0, .int .i64 0, .int .i64 0, .int .i64 0, .int .i64 0, .int .i64 0], 1, false, [.nils]⟩),
  (243, ⟨.arr 6 1 false, 6, true, [.int .i64 0, .int .i64 0, .int .i64 0, .int .i64 0, .int .i64 0, .int .i64 0]⟩),
  (164, ⟨.other, 1, false, [.nilf]⟩),
  (184, ⟨.arr 4 1 false, 4, true, [.int .i64 0, .int .i64 0, .int .i64 0, .int .i64 0]⟩),
  (244, ⟨.other, 1, false, [.nilf]⟩)]
theorem tyL_ok : okL (tiOf Try.prog) tyL := ⟨by kernel_rfl, by kernel_rfl, by kernel_rfl, by kernel_rfl, by kernel_rfl, by kernel_rfl, by kernel_rfl, by kernel_rfl, by kernel_rfl, by kernel_rfl, by kernel_rfl, by kernel_rfl, by kernel_rfl, by kernel_rfl, by kernel_rfl, by kernel_rfl, by kernel_rfl, by kernel_rfl, by kernel_rfl, by kernel_rfl, by kernel_rfl, by kernel_rfl, by kernel_rfl, by kernel_rfl, by kernel_rfl, by kernel_rfl, by kernel_rfl, by kernel_rfl, by kernel_rfl, by kernel_rfl, by kernel_rfl, by kernel_rfl, by kernel_rfl, trivial⟩
def eqL : List (Nat × List Nat) := []
theorem eqL_ok : okL (eqOf Try.prog) eqL := trivial
def nlL : List (Nat × Nat) := [(31, 0), (3, 0), (4, 0), (5, 0), (9, 0), (155, 0), (22, 3)]
theorem nlL_ok : okN (nilOf Try.prog) nlL := ⟨by kernel_rfl, by kernel_rfl, by kernel_rfl, by kernel_rfl, by kernel_rfl, by kernel_rfl, by kernel_rfl, trivial⟩
noncomputable def ty : TT := ⟨lookT tyL (tiOf Try.prog), lookT eqL (eqOf Try.prog), lookN nlL (nilOf Try.prog)⟩
theorem ty_ok : ty = ttOf Try.prog := by
  unfold ty ttOf
  rw [lookT_eq tyL_ok, lookT_eq eqL_ok, lookN_eq nlL_ok]
def Wy (x : Int) : Prop := rng .u8 x
def Wi (x : Int) : Prop := rng .i64 x
theorem rdy : R.d Ey = (0 : Int) := rfl
theorem rdi : R.d Ei = (0 : Int) := rfl
theorem rdo : R.d Eo = false := rfl
theorem env : Env A R Try.prog ty fl := ⟨R_ok, ty_ok, fl_ok, by kernel_rfl⟩

end Go.Proofs.Ytjedljdfkoagbaa
namespace Go.Proofs.Ytjedljdfkoagbaa
open Go Go.Lite
set_option linter.unusedVariables false

/-- printworks/bitmap.Count -/
def bitmap_Count_r0 : List SO := [⟨(some 1), .box 24 (.tmp (0 : Nat)), none⟩,
  ⟨(some 2), .assign (.const (.int .i64 0)), none⟩,
  ⟨(some 3), .assign (.const (.int .i64 0)), none⟩]
def bitmap_Count_r1 : List SO := [⟨(some 8), .load 24 (.tmp (1 : Nat)), none⟩,
  ⟨(some 9), .call ⟨(.value (.func (25 : Nat))), #[(.tmp (8 : Nat))], #[24]⟩, none⟩,
  ⟨(some 4), .assign (.tmp (9 : Nat)), none⟩]
def bitmap_Count_r2 : List SO := [⟨(some 10), .move (.tmp (4 : Nat)), none⟩,
  ⟨(some 11), .binOp .neq 31 (.tmp (10 : Nat)) (.const (.int .i64 0)) 31, none⟩]
def bitmap_Count_r3 : List SO := [⟨(some 12), .move (.tmp (4 : Nat)), none⟩,
  ⟨(some 2), .assign (.const (.int .i64 0)), none⟩,
  ⟨(some 3), .assign (.tmp (12 : Nat)), none⟩]
def bitmap_Count_r4 : List SO := [⟨(some 5), .assign (.const (.int .i64 0)), none⟩]
def bitmap_Count_r5 : List SO := [⟨(some 13), .fieldAddr 24 (.tmp (1 : Nat)) 2, none⟩,
  ⟨(some 14), .load 22 (.tmp (13 : Nat)), none⟩,
  ⟨(some 15), .call ⟨(.builtin .len), #[(.tmp (14 : Nat))], #[22]⟩, none⟩,
  ⟨(some 16), .move (.const (.int .i64 0)), none⟩]
def bitmap_Count_r6 : List SO := [⟨(some 17), .binOp .lss 3 (.tmp (16 : Nat)) (.tmp (15 : Nat)) 3, none⟩]
def bitmap_Count_r7 : List SO := [⟨(some 18), .indexAddr 22 (.tmp (14 : Nat)) (.tmp (16 : Nat)), none⟩,
  ⟨(some 19), .load 5 (.tmp (18 : Nat)), none⟩,
  ⟨(some 7), .assign (.tmp (19 : Nat)), none⟩]
def bitmap_Count_r8 : List SO := [⟨(some 20), .move (.tmp (5 : Nat)), none⟩,
  ⟨(some 21), .move (.tmp (7 : Nat)), none⟩,
  ⟨(some 22), .call ⟨(.value (.func (49 : Nat))), #[(.tmp (21 : Nat))], #[5]⟩, none⟩,
  ⟨(some 23), .binOp .add 3 (.tmp (20 : Nat)) (.tmp (22 : Nat)) 3, none⟩,
  ⟨(some 5), .assign (.tmp (23 : Nat)), none⟩]
def bitmap_Count_r9 : List SO := [⟨(some 24), .binOp .add 3 (.tmp (16 : Nat)) (.const (.int .i64 1)) 3, none⟩,
  ⟨(some 16), .move (.tmp (24 : Nat)), none⟩]
def bitmap_Count_r10 : List SO := [⟨(some 25), .move (.tmp (5 : Nat)), none⟩,
  ⟨(some 2), .assign (.tmp (25 : Nat)), none⟩,
  ⟨(some 3), .assign (.const (.int .i64 0)), none⟩]
def bitmap_Count_c : SF := ⟨26, (.seq (.reg bitmap_Count_r0)
  (.seq (.seq (.reg bitmap_Count_r1)
  (.seq (.reg bitmap_Count_r2)
  (.cond (.tmp (11 : Nat)) (.seq (.reg bitmap_Count_r3)
  .ret) .skip)))
  (.seq (.reg bitmap_Count_r4)
  (.seq (.seq (.reg bitmap_Count_r5)
  (.block 0 (.loop (.seq (.reg bitmap_Count_r6)
  (.seq (.cond (.tmp (17 : Nat)) .skip (.exit 0))
  (.seq (.block 1 (.seq (.reg bitmap_Count_r7)
  (.reg bitmap_Count_r8)))
  (.reg bitmap_Count_r9)))))))
  (.seq (.reg bitmap_Count_r10)
  .ret))))), [.tmp 2, .tmp 3]⟩
theorem bitmap_Count_s : slimF Try.prog 15 = some bitmap_Count_c := by kernel_rfl
abbrev bitmap_Count_f : Nat := 15
/-- printworks/bitmap.Check -/
def bitmap_Check_r0 : List SO := [⟨(some 1), .box 24 (.tmp (0 : Nat)), none⟩,
  ⟨(some 2), .assign (.const (.int .i64 0)), none⟩]
def bitmap_Check_r1 : List SO := [⟨(some 6), .fieldAddr 24 (.tmp (1 : Nat)) 0, none⟩,
  ⟨(some 7), .load 3 (.tmp (6 : Nat)), none⟩,
  ⟨(some 8), .binOp .lss 3 (.tmp (7 : Nat)) (.const (.int .i64 1)) 3, none⟩,
  ⟨(some 9), .move (.tmp (8 : Nat)), none⟩,
  ⟨(some 10), .fieldAddr 24 (.tmp (1 : Nat)) 0, (some (9, false))⟩,
  ⟨(some 11), .load 3 (.tmp (10 : Nat)), (some (9, false))⟩,
  ⟨(some 12), .binOp .gtr 3 (.tmp (11 : Nat)) (.const (.int .i64 1024)) 3, (some (9, false))⟩,
  ⟨(some 13), .pick (.tmp (9 : Nat)) (.const (.bool true)) (.tmp (12 : Nat)), none⟩,
  ⟨(some 14), .move (.tmp (13 : Nat)), none⟩,
  ⟨(some 15), .fieldAddr 24 (.tmp (1 : Nat)) 1, (some (14, false))⟩,
  ⟨(some 16), .load 3 (.tmp (15 : Nat)), (some (14, false))⟩,
  ⟨(some 17), .binOp .lss 3 (.tmp (16 : Nat)) (.const (.int .i64 1)) 3, (some (14, false))⟩,
  ⟨(some 18), .pick (.tmp (14 : Nat)) (.const (.bool true)) (.tmp (17 : Nat)), none⟩,
  ⟨(some 19), .move (.tmp (18 : Nat)), none⟩,
  ⟨(some 20), .fieldAddr 24 (.tmp (1 : Nat)) 1, (some (19, false))⟩,
  ⟨(some 21), .load 3 (.tmp (20 : Nat)), (some (19, false))⟩,
  ⟨(some 22), .binOp .gtr 3 (.tmp (21 : Nat)) (.const (.int .i64 1024)) 3, (some (19, false))⟩,
  ⟨(some 23), .pick (.tmp (19 : Nat)) (.const (.bool true)) (.tmp (22 : Nat)), none⟩]
def bitmap_Check_r2 : List SO := [⟨(some 2), .assign (.const (.int .i64 3)), none⟩]
def bitmap_Check_r3 : List SO := [⟨(some 24), .fieldAddr 24 (.tmp (1 : Nat)) 0, none⟩,
  ⟨(some 25), .load 3 (.tmp (24 : Nat)), none⟩,
  ⟨(some 26), .call ⟨(.value (.func (63 : Nat))), #[(.tmp (25 : Nat))], #[3]⟩, none⟩,
  ⟨(some 3), .assign (.tmp (26 : Nat)), none⟩]
def bitmap_Check_r4 : List SO := [⟨(some 27), .fieldAddr 24 (.tmp (1 : Nat)) 2, none⟩,
  ⟨(some 28), .load 22 (.tmp (27 : Nat)), none⟩,
  ⟨(some 29), .call ⟨(.builtin .len), #[(.tmp (28 : Nat))], #[22]⟩, none⟩,
  ⟨(some 30), .move (.tmp (3 : Nat)), none⟩,
  ⟨(some 31), .fieldAddr 24 (.tmp (1 : Nat)) 1, none⟩,
  ⟨(some 32), .load 3 (.tmp (31 : Nat)), none⟩,
  ⟨(some 33), .binOp .mul 3 (.tmp (30 : Nat)) (.tmp (32 : Nat)) 3, none⟩,
  ⟨(some 34), .binOp .neq 3 (.tmp (29 : Nat)) (.tmp (33 : Nat)) 3, none⟩]
def bitmap_Check_r5 : List SO := [⟨(some 2), .assign (.const (.int .i64 4)), none⟩]
def bitmap_Check_r6 : List SO := [⟨(some 35), .move (.tmp (3 : Nat)), none⟩,
  ⟨(some 36), .binOp .mul 3 (.const (.int .i64 8)) (.tmp (35 : Nat)) 3, none⟩,
  ⟨(some 37), .fieldAddr 24 (.tmp (1 : Nat)) 0, none⟩,
  ⟨(some 38), .load 3 (.tmp (37 : Nat)), none⟩,
  ⟨(some 39), .binOp .sub 3 (.tmp (36 : Nat)) (.tmp (38 : Nat)) 3, none⟩,
  ⟨(some 40), .binOp .shl 5 (.const (.int .u8 1)) (.tmp (39 : Nat)) 3, none⟩,
  ⟨(some 41), .binOp .sub 5 (.tmp (40 : Nat)) (.const (.int .u8 1)) 5, none⟩,
  ⟨(some 4), .assign (.tmp (41 : Nat)), none⟩]
def bitmap_Check_r7 : List SO := [⟨(some 42), .move (.tmp (4 : Nat)), none⟩,
  ⟨(some 43), .binOp .neq 5 (.tmp (42 : Nat)) (.const (.int .u8 0)) 5, none⟩]
def bitmap_Check_r8 : List SO := [⟨(some 44), .fieldAddr 24 (.tmp (1 : Nat)) 1, none⟩,
  ⟨(some 45), .load 3 (.tmp (44 : Nat)), none⟩,
  ⟨(some 46), .move (.const (.int .i64 0)), none⟩]
def bitmap_Check_r9 : List SO := [⟨(some 47), .binOp .lss 3 (.tmp (46 : Nat)) (.tmp (45 : Nat)) 3, none⟩]
def bitmap_Check_r10 : List SO := [⟨(some 48), .move (.tmp (46 : Nat)), none⟩,
  ⟨(some 5), .assign (.tmp (48 : Nat)), none⟩]
def bitmap_Check_r11 : List SO := [⟨(some 49), .fieldAddr 24 (.tmp (1 : Nat)) 2, none⟩,
  ⟨(some 50), .load 22 (.tmp (49 : Nat)), none⟩,
  ⟨(some 51), .move (.tmp (5 : Nat)), none⟩,
  ⟨(some 52), .move (.tmp (3 : Nat)), none⟩,
  ⟨(some 53), .binOp .mul 3 (.tmp (51 : Nat)) (.tmp (52 : Nat)) 3, none⟩,
  ⟨(some 54), .move (.tmp (3 : Nat)), none⟩,
  ⟨(some 55), .binOp .add 3 (.tmp (53 : Nat)) (.tmp (54 : Nat)) 3, none⟩,
  ⟨(some 56), .binOp .sub 3 (.tmp (55 : Nat)) (.const (.int .i64 1)) 3, none⟩,
  ⟨(some 57), .indexAddr 22 (.tmp (50 : Nat)) (.tmp (56 : Nat)), none⟩,
  ⟨(some 58), .load 5 (.tmp (57 : Nat)), none⟩,
  ⟨(some 59), .move (.tmp (4 : Nat)), none⟩,
  ⟨(some 60), .binOp .and 5 (.tmp (58 : Nat)) (.tmp (59 : Nat)) 5, none⟩,
  ⟨(some 61), .binOp .neq 5 (.tmp (60 : Nat)) (.const (.int .u8 0)) 5, none⟩]
def bitmap_Check_r12 : List SO := [⟨(some 2), .assign (.const (.int .i64 4)), none⟩]
def bitmap_Check_r13 : List SO := [⟨(some 62), .binOp .add 3 (.tmp (46 : Nat)) (.const (.int .i64 1)) 3, none⟩,
  ⟨(some 46), .move (.tmp (62 : Nat)), none⟩]
def bitmap_Check_r14 : List SO := [⟨(some 2), .assign (.const (.int .i64 0)), none⟩]
def bitmap_Check_c : SF := ⟨63, (.seq (.reg bitmap_Check_r0)
  (.seq (.seq (.reg bitmap_Check_r1)
  (.cond (.tmp (23 : Nat)) (.seq (.reg bitmap_Check_r2)
  .ret) .skip))
  (.seq (.reg bitmap_Check_r3)
  (.seq (.seq (.reg bitmap_Check_r4)
  (.cond (.tmp (34 : Nat)) (.seq (.reg bitmap_Check_r5)
  .ret) .skip))
  (.seq (.seq (.reg bitmap_Check_r6)
  (.seq (.reg bitmap_Check_r7)
  (.cond (.tmp (43 : Nat)) (.seq (.reg bitmap_Check_r8)
  (.block 0 (.loop (.seq (.reg bitmap_Check_r9)
  (.seq (.cond (.tmp (47 : Nat)) .skip (.exit 0))
  (.seq (.block 1 (.seq (.reg bitmap_Check_r10)
  (.seq (.reg bitmap_Check_r11)
  (.cond (.tmp (61 : Nat)) (.seq (.reg bitmap_Check_r12)
  .ret) .skip))))
  (.reg bitmap_Check_r13))))))) .skip)))
  (.seq (.reg bitmap_Check_r14)
  .ret)))))), [.tmp 2]⟩
theorem bitmap_Check_s : slimF Try.prog 25 = some bitmap_Check_c := by kernel_rfl
abbrev bitmap_Check_f : Nat := 25
/-- printworks/bitmap.Turned -/
def bitmap_Turned_r0 : List SO := [⟨(some 2), .box 91 (.tmp (0 : Nat)), none⟩,
  ⟨(some 4), .alloc 24, none⟩]
def bitmap_Turned_r1 : List SO := [⟨(some 7), .load 91 (.tmp (2 : Nat)), none⟩,
  ⟨(some 8), .nilCheck (.tmp (7 : Nat)), none⟩,
  ⟨(some 9), .load 24 (.tmp (8 : Nat)), none⟩,
  ⟨(some 5), .alloc 24, none⟩,
  ⟨none, .store 24 (.tmp (5 : Nat)) (.tmp (9 : Nat)), none⟩]
def bitmap_Turned_r2 : List SO := [⟨(some 10), .load 91 (.tmp (2 : Nat)), none⟩,
  ⟨(some 11), .nilCheck (.tmp (10 : Nat)), none⟩,
  ⟨(some 12), .fieldAddr 24 (.tmp (11 : Nat)) 2, none⟩,
  ⟨(some 13), .load 22 (.tmp (12 : Nat)), none⟩,
  ⟨(some 14), .call ⟨(.builtin .append), #[(.const (.slice none 0 0)), (.tmp (13 : Nat))], #[22, 22]⟩, none⟩,
  ⟨(some 15), .fieldAddr 24 (.tmp (5 : Nat)) 2, none⟩,
  ⟨none, .store 22 (.tmp (15 : Nat)) (.tmp (14 : Nat)), none⟩]
def bitmap_Turned_r3 : List SO := [⟨(some 16), .move (.tmp (1 : Nat)), none⟩,
  ⟨(some 17), .binOp .geq 3 (.tmp (16 : Nat)) (.const (.int .i64 4)) 3, none⟩]
def bitmap_Turned_r4 : List SO := [⟨(some 18), .load 91 (.tmp (2 : Nat)), none⟩,
  ⟨(some 19), .nilCheck (.tmp (18 : Nat)), none⟩,
  ⟨(some 20), .fieldAddr 24 (.tmp (19 : Nat)) 0, none⟩,
  ⟨(some 21), .load 3 (.tmp (20 : Nat)), none⟩,
  ⟨(some 22), .load 91 (.tmp (2 : Nat)), none⟩,
  ⟨(some 23), .nilCheck (.tmp (22 : Nat)), none⟩,
  ⟨(some 24), .fieldAddr 24 (.tmp (23 : Nat)) 1, none⟩,
  ⟨(some 25), .load 3 (.tmp (24 : Nat)), none⟩,
  ⟨(some 26), .makeFunc (.func (90 : Nat)) #[] #[(.tmp (2 : Nat))], none⟩,
  ⟨(some 27), .call ⟨(.value (.func (66 : Nat))), #[(.tmp (21 : Nat)), (.tmp (25 : Nat)), (.tmp (26 : Nat))], #[3, 3, 48]⟩, none⟩,
  ⟨none, .store 24 (.tmp (5 : Nat)) (.tmp (27 : Nat)), none⟩]
def bitmap_Turned_a4 : List (List Nat) := [[], [0], [1], [2], [], [4], [5], [6], [], [3, 7, 8], [9, 9, 0, 1, 2, 3, 4, 5, 6, 7, 8, 9]]
def bitmap_Turned_r5 : List SO := [⟨(some 28), .move (.tmp (1 : Nat)), none⟩,
  ⟨(some 29), .binOp .rem 3 (.tmp (28 : Nat)) (.const (.int .i64 4)) 3, none⟩,
  ⟨(some 30), .move (.const (.int .i64 0)), none⟩]
def bitmap_Turned_r6 : List SO := [⟨(some 31), .binOp .lss 3 (.tmp (30 : Nat)) (.tmp (29 : Nat)) 3, none⟩]
def bitmap_Turned_r7 : List SO := [⟨(some 32), .load 24 (.tmp (5 : Nat)), none⟩,
  ⟨(some 6), .alloc 24, none⟩,
  ⟨none, .store 24 (.tmp (6 : Nat)) (.tmp (32 : Nat)), none⟩]
def bitmap_Turned_r8 : List SO := [⟨(some 33), .fieldAddr 24 (.tmp (6 : Nat)) 1, none⟩,
  ⟨(some 34), .load 3 (.tmp (33 : Nat)), none⟩,
  ⟨(some 35), .fieldAddr 24 (.tmp (6 : Nat)) 0, none⟩,
  ⟨(some 36), .load 3 (.tmp (35 : Nat)), none⟩,
  ⟨(some 37), .makeFunc (.func (91 : Nat)) #[] #[(.tmp (6 : Nat))], none⟩,
  ⟨(some 38), .call ⟨(.value (.func (66 : Nat))), #[(.tmp (34 : Nat)), (.tmp (36 : Nat)), (.tmp (37 : Nat))], #[3, 3, 48]⟩, none⟩,
  ⟨none, .store 24 (.tmp (5 : Nat)) (.tmp (38 : Nat)), none⟩]
def bitmap_Turned_r9 : List SO := [⟨(some 39), .binOp .add 3 (.tmp (30 : Nat)) (.const (.int .i64 1)) 3, none⟩,
  ⟨(some 30), .move (.tmp (39 : Nat)), none⟩]
def bitmap_Turned_r10 : List SO := [⟨(some 40), .load 24 (.tmp (5 : Nat)), none⟩,
  ⟨none, .store 24 (.tmp (4 : Nat)) (.tmp (40 : Nat)), none⟩]
def bitmap_Turned_c : SF := ⟨41, (.seq (.reg bitmap_Turned_r0)
  (.seq (.reg bitmap_Turned_r1)
  (.seq (.reg bitmap_Turned_r2)
  (.seq (.seq (.reg bitmap_Turned_r3)
  (.cond (.tmp (17 : Nat)) (.regd bitmap_Turned_r4 bitmap_Turned_a4) .skip))
  (.seq (.seq (.reg bitmap_Turned_r5)
  (.block 0 (.loop (.seq (.reg bitmap_Turned_r6)
  (.seq (.cond (.tmp (31 : Nat)) .skip (.exit 0))
  (.seq (.block 1 (.seq (.reg bitmap_Turned_r7)
  (.reg bitmap_Turned_r8)))
  (.reg bitmap_Turned_r9)))))))
  (.seq (.reg bitmap_Turned_r10)
  .ret)))))), [.cell 4 24]⟩
theorem bitmap_Turned_s : slimF Try.prog 45 = some bitmap_Turned_c := by kernel_rfl
abbrev bitmap_Turned_f : Nat := 45
/-- printworks/bitmap.Is -/
def bitmap_Is_r0 : List SO := [⟨(some 6), .assign (.const (.bool false)), none⟩]
def bitmap_Is_r1 : List SO := [⟨(some 7), .move (.tmp (1 : Nat)), none⟩,
  ⟨(some 8), .binOp .geq 3 (.tmp (7 : Nat)) (.const (.int .i64 0)) 3, none⟩,
  ⟨(some 9), .move (.tmp (8 : Nat)), none⟩,
  ⟨(some 10), .move (.tmp (1 : Nat)), (some (9, true))⟩,
  ⟨(some 11), .move (.tmp (0 : Nat)), (some (9, true))⟩,
  ⟨(some 12), .nilCheck (.tmp (11 : Nat)), (some (9, true))⟩,
  ⟨(some 13), .fieldAddr 24 (.tmp (12 : Nat)) 0, (some (9, true))⟩,
  ⟨(some 14), .load 3 (.tmp (13 : Nat)), (some (9, true))⟩,
  ⟨(some 15), .binOp .lss 3 (.tmp (10 : Nat)) (.tmp (14 : Nat)) 3, (some (9, true))⟩,
  ⟨(some 16), .pick (.tmp (9 : Nat)) (.tmp (15 : Nat)) (.const (.bool false)), none⟩,
  ⟨(some 17), .move (.tmp (16 : Nat)), none⟩,
  ⟨(some 18), .move (.tmp (2 : Nat)), (some (17, true))⟩,
  ⟨(some 19), .binOp .geq 3 (.tmp (18 : Nat)) (.const (.int .i64 0)) 3, (some (17, true))⟩,
  ⟨(some 20), .pick (.tmp (17 : Nat)) (.tmp (19 : Nat)) (.const (.bool false)), none⟩,
  ⟨(some 21), .move (.tmp (20 : Nat)), none⟩,
  ⟨(some 22), .move (.tmp (2 : Nat)), (some (21, true))⟩,
  ⟨(some 23), .move (.tmp (0 : Nat)), (some (21, true))⟩,
  ⟨(some 24), .nilCheck (.tmp (23 : Nat)), (some (21, true))⟩,
  ⟨(some 25), .fieldAddr 24 (.tmp (24 : Nat)) 1, (some (21, true))⟩,
  ⟨(some 26), .load 3 (.tmp (25 : Nat)), (some (21, true))⟩,
  ⟨(some 27), .binOp .lss 3 (.tmp (22 : Nat)) (.tmp (26 : Nat)) 3, (some (21, true))⟩,
  ⟨(some 28), .pick (.tmp (21 : Nat)) (.tmp (27 : Nat)) (.const (.bool false)), none⟩,
  ⟨(some 29), .move (.tmp (28 : Nat)), none⟩,
  ⟨(some 30), .move (.tmp (0 : Nat)), (some (29, true))⟩,
  ⟨(some 31), .nilCheck (.tmp (30 : Nat)), (some (29, true))⟩,
  ⟨(some 32), .fieldAddr 24 (.tmp (31 : Nat)) 2, (some (29, true))⟩,
  ⟨(some 33), .load 22 (.tmp (32 : Nat)), (some (29, true))⟩,
  ⟨(some 34), .move (.tmp (2 : Nat)), (some (29, true))⟩,
  ⟨(some 35), .move (.tmp (0 : Nat)), (some (29, true))⟩,
  ⟨(some 36), .nilCheck (.tmp (35 : Nat)), (some (29, true))⟩,
  ⟨(some 37), .fieldAddr 24 (.tmp (36 : Nat)) 0, (some (29, true))⟩,
  ⟨(some 38), .load 3 (.tmp (37 : Nat)), (some (29, true))⟩,
  ⟨(some 39), .call ⟨(.value (.func (63 : Nat))), #[(.tmp (38 : Nat))], #[3]⟩, (some (29, true))⟩,
  ⟨(some 40), .binOp .mul 3 (.tmp (34 : Nat)) (.tmp (39 : Nat)) 3, (some (29, true))⟩,
  ⟨(some 41), .move (.tmp (1 : Nat)), (some (29, true))⟩,
  ⟨(some 42), .binOp .quo 3 (.tmp (41 : Nat)) (.const (.int .i64 8)) 3, (some (29, true))⟩,
  ⟨(some 43), .binOp .add 3 (.tmp (40 : Nat)) (.tmp (42 : Nat)) 3, (some (29, true))⟩,
  ⟨(some 44), .indexAddr 22 (.tmp (33 : Nat)) (.tmp (43 : Nat)), (some (29, true))⟩,
  ⟨(some 45), .load 5 (.tmp (44 : Nat)), (some (29, true))⟩,
  ⟨(some 46), .move (.tmp (1 : Nat)), (some (29, true))⟩,
  ⟨(some 47), .binOp .rem 3 (.tmp (46 : Nat)) (.const (.int .i64 8)) 3, (some (29, true))⟩,
  ⟨(some 48), .binOp .shr 5 (.const (.int .u8 128)) (.tmp (47 : Nat)) 3, (some (29, true))⟩,
  ⟨(some 49), .binOp .and 5 (.tmp (45 : Nat)) (.tmp (48 : Nat)) 5, (some (29, true))⟩,
  ⟨(some 50), .binOp .neq 5 (.tmp (49 : Nat)) (.const (.int .u8 0)) 5, (some (29, true))⟩,
  ⟨(some 51), .pick (.tmp (29 : Nat)) (.tmp (50 : Nat)) (.const (.bool false)), none⟩,
  ⟨(some 6), .assign (.tmp (51 : Nat)), none⟩]
def bitmap_Is_a1 : List (List Nat) := [[], [0], [1], [2], [2], [4, 2], [5, 2], [6, 2], [3, 7, 2], [2, 8], [9, 2], [10], [11, 10], [10, 12], [13, 10], [14], [14], [16, 14], [17, 14], [18, 14], [15, 19, 14], [14, 20], [21, 14], [22], [23, 22], [24, 22], [25, 22], [22], [22], [28, 22], [29, 22], [30, 22], [31, 22, 22], [27, 32, 22], [22], [34, 22], [33, 35, 22], [26, 36, 22], [37, 22], [22], [39, 22], [40, 22], [38, 41, 22], [42, 22], [22, 43], [44, 32, 0, 1, 2, 3, 4, 5, 6, 7, 8, 9, 10, 11, 12, 13, 14, 15, 16, 17, 18, 19, 20, 21, 22, 23, 24, 25, 26, 27, 28, 29, 30, 31, 32, 33, 34, 35, 36, 37, 38, 39, 40, 41, 42, 43, 44]]
def bitmap_Is_c : SF := ⟨52, (.seq (.reg bitmap_Is_r0)
  (.seq (.regd bitmap_Is_r1 bitmap_Is_a1)
  .ret)), [.tmp 6]⟩
theorem bitmap_Is_s : slimF Try.prog 46 = some bitmap_Is_c := by kernel_rfl
abbrev bitmap_Is_f : Nat := 46
/-- printworks/bitmap.Blank -/
def bitmap_Blank_r0 : List SO := [⟨(some 4), .alloc 24, none⟩]
def bitmap_Blank_r1 : List SO := [⟨(some 5), .move (.tmp (0 : Nat)), none⟩,
  ⟨(some 6), .move (.tmp (1 : Nat)), none⟩,
  ⟨(some 7), .move (.tmp (0 : Nat)), none⟩,
  ⟨(some 8), .call ⟨(.value (.func (63 : Nat))), #[(.tmp (7 : Nat))], #[3]⟩, none⟩,
  ⟨(some 9), .move (.tmp (1 : Nat)), none⟩,
  ⟨(some 10), .binOp .mul 3 (.tmp (8 : Nat)) (.tmp (9 : Nat)) 3, none⟩,
  ⟨(some 11), .makeSlice 22 (.tmp (10 : Nat)) (.tmp (10 : Nat)), none⟩,
  ⟨(some 12), .build 24 #[(0, (.tmp (5 : Nat))), (1, (.tmp (6 : Nat))), (2, (.tmp (11 : Nat)))], none⟩,
  ⟨none, .store 24 (.tmp (4 : Nat)) (.tmp (12 : Nat)), none⟩]
def bitmap_Blank_c : SF := ⟨13, (.seq (.reg bitmap_Blank_r0)
  (.seq (.reg bitmap_Blank_r1)
  .ret)), [.cell 4 24]⟩
theorem bitmap_Blank_s : slimF Try.prog 56 = some bitmap_Blank_c := by kernel_rfl
abbrev bitmap_Blank_f : Nat := 56
/-- printworks/bitmap.stride -/
def bitmap_stride_r0 : List SO := [⟨(some 2), .assign (.const (.int .i64 0)), none⟩]
def bitmap_stride_r1 : List SO := [⟨(some 3), .move (.tmp (0 : Nat)), none⟩,
  ⟨(some 4), .binOp .add 3 (.tmp (3 : Nat)) (.const (.int .i64 7)) 3, none⟩,
  ⟨(some 5), .binOp .quo 3 (.tmp (4 : Nat)) (.const (.int .i64 8)) 3, none⟩,
  ⟨(some 2), .assign (.tmp (5 : Nat)), none⟩]
def bitmap_stride_c : SF := ⟨6, (.seq (.reg bitmap_stride_r0)
  (.seq (.reg bitmap_stride_r1)
  .ret)), [.tmp 2]⟩
theorem bitmap_stride_s : slimF Try.prog 63 = some bitmap_stride_c := by kernel_rfl
abbrev bitmap_stride_f : Nat := 63
/-- printworks/bitmap.Turned$1 -/
def bitmap_Turned_1_r0 : List SO := [⟨(some 5), .assign (.const (.bool false)), none⟩]
def bitmap_Turned_1_r1 : List SO := [⟨(some 6), .load 91 (.tmp (2 : Nat)), none⟩,
  ⟨(some 7), .load 91 (.tmp (2 : Nat)), none⟩,
  ⟨(some 8), .nilCheck (.tmp (7 : Nat)), none⟩,
  ⟨(some 9), .fieldAddr 24 (.tmp (8 : Nat)) 0, none⟩,
  ⟨(some 10), .load 3 (.tmp (9 : Nat)), none⟩,
  ⟨(some 11), .binOp .sub 3 (.tmp (10 : Nat)) (.const (.int .i64 1)) 3, none⟩,
  ⟨(some 12), .move (.tmp (0 : Nat)), none⟩,
  ⟨(some 13), .binOp .sub 3 (.tmp (11 : Nat)) (.tmp (12 : Nat)) 3, none⟩,
  ⟨(some 14), .move (.tmp (1 : Nat)), none⟩,
  ⟨(some 15), .call ⟨(.value (.func (46 : Nat))), #[(.tmp (6 : Nat)), (.tmp (13 : Nat)), (.tmp (14 : Nat))], #[91, 3, 3]⟩, none⟩,
  ⟨(some 5), .assign (.tmp (15 : Nat)), none⟩]
def bitmap_Turned_1_a1 : List (List Nat) := [[], [], [1], [2], [3], [4], [], [5, 6], [], [0, 7, 8], [9, 9, 0, 1, 2, 3, 4, 5, 6, 7, 8, 9]]
def bitmap_Turned_1_c : SF := ⟨16, (.seq (.reg bitmap_Turned_1_r0)
  (.seq (.regd bitmap_Turned_1_r1 bitmap_Turned_1_a1)
  .ret)), [.tmp 5]⟩
theorem bitmap_Turned_1_s : slimF Try.prog 90 = some bitmap_Turned_1_c := by kernel_rfl
abbrev bitmap_Turned_1_f : Nat := 90
/-- printworks/bitmap.from -/
def bitmap_from_r0 : List SO := [⟨(some 6), .alloc 24, none⟩]
def bitmap_from_r1 : List SO := [⟨(some 10), .move (.tmp (0 : Nat)), none⟩,
  ⟨(some 11), .move (.tmp (1 : Nat)), none⟩,
  ⟨(some 12), .call ⟨(.value (.func (56 : Nat))), #[(.tmp (10 : Nat)), (.tmp (11 : Nat))], #[3, 3]⟩, none⟩,
  ⟨(some 7), .alloc 24, none⟩,
  ⟨none, .store 24 (.tmp (7 : Nat)) (.tmp (12 : Nat)), none⟩]
def bitmap_from_r2 : List SO := [⟨(some 13), .move (.tmp (1 : Nat)), none⟩,
  ⟨(some 14), .move (.const (.int .i64 0)), none⟩]
def bitmap_from_r3 : List SO := [⟨(some 15), .binOp .lss 3 (.tmp (14 : Nat)) (.tmp (13 : Nat)) 3, none⟩]
def bitmap_from_r4 : List SO := [⟨(some 16), .move (.tmp (14 : Nat)), none⟩,
  ⟨(some 8), .assign (.tmp (16 : Nat)), none⟩]
def bitmap_from_r5 : List SO := [⟨(some 17), .move (.tmp (0 : Nat)), none⟩,
  ⟨(some 18), .move (.const (.int .i64 0)), none⟩]
def bitmap_from_r6 : List SO := [⟨(some 19), .binOp .lss 3 (.tmp (18 : Nat)) (.tmp (17 : Nat)) 3, none⟩]
def bitmap_from_r7 : List SO := [⟨(some 20), .move (.tmp (18 : Nat)), none⟩,
  ⟨(some 9), .assign (.tmp (20 : Nat)), none⟩]
def bitmap_from_r8 : List SO := [⟨(some 21), .move (.tmp (2 : Nat)), none⟩,
  ⟨(some 22), .move (.tmp (9 : Nat)), none⟩,
  ⟨(some 23), .move (.tmp (8 : Nat)), none⟩,
  ⟨(some 24), .call ⟨(.value (.tmp (21 : Nat))), #[(.tmp (22 : Nat)), (.tmp (23 : Nat))], #[3, 3]⟩, none⟩]
def bitmap_from_r9 : List SO := [⟨(some 25), .move (.tmp (9 : Nat)), none⟩,
  ⟨(some 26), .move (.tmp (8 : Nat)), none⟩,
  ⟨(some 27), .call ⟨(.value (.func (92 : Nat))), #[(.tmp (7 : Nat)), (.tmp (25 : Nat)), (.tmp (26 : Nat))], #[91, 3, 3]⟩, none⟩]
def bitmap_from_r10 : List SO := [⟨(some 28), .binOp .add 3 (.tmp (18 : Nat)) (.const (.int .i64 1)) 3, none⟩,
  ⟨(some 18), .move (.tmp (28 : Nat)), none⟩]
def bitmap_from_r11 : List SO := [⟨(some 29), .binOp .add 3 (.tmp (14 : Nat)) (.const (.int .i64 1)) 3, none⟩,
  ⟨(some 14), .move (.tmp (29 : Nat)), none⟩]
def bitmap_from_r12 : List SO := [⟨(some 30), .load 24 (.tmp (7 : Nat)), none⟩,
  ⟨none, .store 24 (.tmp (6 : Nat)) (.tmp (30 : Nat)), none⟩]
def bitmap_from_c : SF := ⟨31, (.seq (.reg bitmap_from_r0)
  (.seq (.reg bitmap_from_r1)
  (.seq (.seq (.reg bitmap_from_r2)
  (.block 0 (.loop (.seq (.reg bitmap_from_r3)
  (.seq (.cond (.tmp (15 : Nat)) .skip (.exit 0))
  (.seq (.block 1 (.seq (.reg bitmap_from_r4)
  (.seq (.reg bitmap_from_r5)
  (.block 2 (.loop (.seq (.reg bitmap_from_r6)
  (.seq (.cond (.tmp (19 : Nat)) .skip (.exit 2))
  (.seq (.block 3 (.seq (.reg bitmap_from_r7)
  (.seq (.reg bitmap_from_r8)
  (.cond (.tmp (24 : Nat)) (.reg bitmap_from_r9) .skip))))
  (.reg bitmap_from_r10)))))))))
  (.reg bitmap_from_r11)))))))
  (.seq (.reg bitmap_from_r12)
  .ret)))), [.cell 6 24]⟩
theorem bitmap_from_s : slimF Try.prog 66 = some bitmap_from_c := by kernel_rfl
abbrev bitmap_from_f : Nat := 66
/-- printworks/bitmap.Turned$2 -/
def bitmap_Turned_2_r0 : List SO := [⟨(some 5), .assign (.const (.bool false)), none⟩]
def bitmap_Turned_2_r1 : List SO := [⟨(some 6), .move (.tmp (1 : Nat)), none⟩,
  ⟨(some 7), .fieldAddr 24 (.tmp (2 : Nat)) 1, none⟩,
  ⟨(some 8), .load 3 (.tmp (7 : Nat)), none⟩,
  ⟨(some 9), .binOp .sub 3 (.tmp (8 : Nat)) (.const (.int .i64 1)) 3, none⟩,
  ⟨(some 10), .move (.tmp (0 : Nat)), none⟩,
  ⟨(some 11), .binOp .sub 3 (.tmp (9 : Nat)) (.tmp (10 : Nat)) 3, none⟩,
  ⟨(some 12), .call ⟨(.value (.func (46 : Nat))), #[(.tmp (2 : Nat)), (.tmp (6 : Nat)), (.tmp (11 : Nat))], #[91, 3, 3]⟩, none⟩,
  ⟨(some 5), .assign (.tmp (12 : Nat)), none⟩]
def bitmap_Turned_2_c : SF := ⟨13, (.seq (.reg bitmap_Turned_2_r0)
  (.seq (.reg bitmap_Turned_2_r1)
  .ret)), [.tmp 5]⟩
theorem bitmap_Turned_2_s : slimF Try.prog 91 = some bitmap_Turned_2_c := by kernel_rfl
abbrev bitmap_Turned_2_f : Nat := 91
/-- printworks/bitmap.Mark -/
def bitmap_Mark_r0 : List SO := [⟨(some 6), .move (.tmp (0 : Nat)), none⟩,
  ⟨(some 7), .nilCheck (.tmp (6 : Nat)), none⟩,
  ⟨(some 8), .fieldAddr 24 (.tmp (7 : Nat)) 2, none⟩,
  ⟨(some 9), .load 22 (.tmp (8 : Nat)), none⟩,
  ⟨(some 10), .move (.tmp (2 : Nat)), none⟩,
  ⟨(some 11), .move (.tmp (0 : Nat)), none⟩,
  ⟨(some 12), .nilCheck (.tmp (11 : Nat)), none⟩,
  ⟨(some 13), .fieldAddr 24 (.tmp (12 : Nat)) 0, none⟩,
  ⟨(some 14), .load 3 (.tmp (13 : Nat)), none⟩,
  ⟨(some 15), .call ⟨(.value (.func (63 : Nat))), #[(.tmp (14 : Nat))], #[3]⟩, none⟩,
  ⟨(some 16), .binOp .mul 3 (.tmp (10 : Nat)) (.tmp (15 : Nat)) 3, none⟩,
  ⟨(some 17), .move (.tmp (1 : Nat)), none⟩,
  ⟨(some 18), .binOp .quo 3 (.tmp (17 : Nat)) (.const (.int .i64 8)) 3, none⟩,
  ⟨(some 19), .binOp .add 3 (.tmp (16 : Nat)) (.tmp (18 : Nat)) 3, none⟩,
  ⟨(some 20), .indexAddr 22 (.tmp (9 : Nat)) (.tmp (19 : Nat)), none⟩,
  ⟨(some 21), .load 5 (.tmp (20 : Nat)), none⟩,
  ⟨(some 22), .move (.tmp (1 : Nat)), none⟩,
  ⟨(some 23), .binOp .rem 3 (.tmp (22 : Nat)) (.const (.int .i64 8)) 3, none⟩,
  ⟨(some 24), .binOp .shr 5 (.const (.int .u8 128)) (.tmp (23 : Nat)) 3, none⟩,
  ⟨(some 25), .binOp .or 5 (.tmp (21 : Nat)) (.tmp (24 : Nat)) 5, none⟩,
  ⟨(some 26), .indexAddr 22 (.tmp (9 : Nat)) (.tmp (19 : Nat)), none⟩,
  ⟨none, .store 5 (.tmp (26 : Nat)) (.tmp (25 : Nat)), none⟩]
def bitmap_Mark_a0 : List (List Nat) := [[], [0], [1], [2], [], [], [5], [6], [7], [8], [4, 9], [], [11], [10, 12], [3, 13], [14], [], [16], [17], [15, 18], [3, 13, 0, 1, 2, 3, 4, 5, 6, 7, 8, 9, 10, 11, 12, 13, 14, 15, 16, 17, 18, 19], [20, 19, 9, 0, 1, 2, 3, 4, 5, 6, 7, 8, 9, 10, 11, 12, 13, 14, 15, 16, 17, 18, 19]]
def bitmap_Mark_c : SF := ⟨27, (.regd bitmap_Mark_r0 bitmap_Mark_a0), []⟩
theorem bitmap_Mark_s : slimF Try.prog 92 = some bitmap_Mark_c := by kernel_rfl
abbrev bitmap_Mark_f : Nat := 92
/-- printworks/bitmap.Row -/
def bitmap_Row_r0 : List SO := [⟨(some 2), .box 91 (.tmp (0 : Nat)), none⟩,
  ⟨(some 3), .box 3 (.tmp (1 : Nat)), none⟩,
  ⟨(some 4), .assign (.const .nilFunc), none⟩]
def bitmap_Row_r1 : List SO := [⟨(some 5), .makeFunc (.func (164 : Nat)) #[] #[(.tmp (2 : Nat)), (.tmp (3 : Nat))], none⟩,
  ⟨(some 4), .assign (.tmp (5 : Nat)), none⟩]
def bitmap_Row_c : SF := ⟨6, (.seq (.reg bitmap_Row_r0)
  (.seq (.reg bitmap_Row_r1)
  .ret)), [.tmp 4]⟩
theorem bitmap_Row_s : slimF Try.prog 147 = some bitmap_Row_c := by kernel_rfl
abbrev bitmap_Row_f : Nat := 147
/-- printworks/bitmap.Row$1 -/
def bitmap_Row_1_r0 : List SO := [⟨(some 4), .assign (.const (.int .i64 0)), none⟩]
def bitmap_Row_1_r1 : List SO := [⟨(some 6), .move (.tmp (4 : Nat)), none⟩,
  ⟨(some 7), .load 91 (.tmp (1 : Nat)), none⟩,
  ⟨(some 8), .nilCheck (.tmp (7 : Nat)), none⟩,
  ⟨(some 9), .fieldAddr 24 (.tmp (8 : Nat)) 0, none⟩,
  ⟨(some 10), .load 3 (.tmp (9 : Nat)), none⟩,
  ⟨(some 11), .binOp .lss 3 (.tmp (6 : Nat)) (.tmp (10 : Nat)) 3, none⟩]
def bitmap_Row_1_r2 : List SO := [⟨(some 12), .load 91 (.tmp (1 : Nat)), none⟩,
  ⟨(some 13), .move (.tmp (4 : Nat)), none⟩,
  ⟨(some 14), .load 3 (.tmp (2 : Nat)), none⟩,
  ⟨(some 15), .call ⟨(.value (.func (46 : Nat))), #[(.tmp (12 : Nat)), (.tmp (13 : Nat)), (.tmp (14 : Nat))], #[91, 3, 3]⟩, none⟩,
  ⟨(some 16), .unOp .not 4 (.tmp (15 : Nat)), none⟩]
def bitmap_Row_1_r3 : List SO := [⟨(some 17), .move (.tmp (4 : Nat)), none⟩,
  ⟨(some 18), .binOp .add 3 (.tmp (17 : Nat)) (.const (.int .i64 1)) 3, none⟩,
  ⟨(some 4), .assign (.tmp (18 : Nat)), none⟩]
def bitmap_Row_1_r4 : List SO := [⟨(some 19), .move (.tmp (4 : Nat)), none⟩,
  ⟨(some 5), .assign (.tmp (19 : Nat)), none⟩]
def bitmap_Row_1_r5 : List SO := [⟨(some 20), .move (.tmp (4 : Nat)), none⟩,
  ⟨(some 21), .load 91 (.tmp (1 : Nat)), none⟩,
  ⟨(some 22), .nilCheck (.tmp (21 : Nat)), none⟩,
  ⟨(some 23), .fieldAddr 24 (.tmp (22 : Nat)) 0, none⟩,
  ⟨(some 24), .load 3 (.tmp (23 : Nat)), none⟩,
  ⟨(some 25), .binOp .lss 3 (.tmp (20 : Nat)) (.tmp (24 : Nat)) 3, none⟩,
  ⟨(some 26), .move (.tmp (25 : Nat)), none⟩,
  ⟨(some 27), .load 91 (.tmp (1 : Nat)), (some (26, true))⟩,
  ⟨(some 28), .move (.tmp (4 : Nat)), (some (26, true))⟩,
  ⟨(some 29), .load 3 (.tmp (2 : Nat)), (some (26, true))⟩,
  ⟨(some 30), .call ⟨(.value (.func (46 : Nat))), #[(.tmp (27 : Nat)), (.tmp (28 : Nat)), (.tmp (29 : Nat))], #[91, 3, 3]⟩, (some (26, true))⟩,
  ⟨(some 31), .pick (.tmp (26 : Nat)) (.tmp (30 : Nat)) (.const (.bool false)), none⟩]
def bitmap_Row_1_r6 : List SO := [⟨(some 32), .move (.tmp (4 : Nat)), none⟩,
  ⟨(some 33), .binOp .add 3 (.tmp (32 : Nat)) (.const (.int .i64 1)) 3, none⟩,
  ⟨(some 4), .assign (.tmp (33 : Nat)), none⟩]
def bitmap_Row_1_r7 : List SO := [⟨(some 34), .move (.tmp (0 : Nat)), none⟩,
  ⟨(some 35), .load 3 (.tmp (2 : Nat)), none⟩,
  ⟨(some 36), .move (.tmp (5 : Nat)), none⟩,
  ⟨(some 37), .move (.tmp (4 : Nat)), none⟩,
  ⟨(some 38), .build 226 #[(0, (.tmp (35 : Nat))), (1, (.tmp (36 : Nat))), (2, (.tmp (37 : Nat)))], none⟩,
  ⟨(some 39), .call ⟨(.value (.tmp (34 : Nat))), #[(.tmp (38 : Nat))], #[226]⟩, none⟩,
  ⟨(some 40), .unOp .not 4 (.tmp (39 : Nat)), none⟩]
def bitmap_Row_1_c : SF := ⟨41, (.seq (.reg bitmap_Row_1_r0)
  (.block 0 (.loop (.seq (.seq (.reg bitmap_Row_1_r1)
  (.cond (.tmp (11 : Nat)) .skip (.exit 0)))
  (.block 1 (.seq (.seq (.reg bitmap_Row_1_r2)
  (.cond (.tmp (16 : Nat)) (.seq (.reg bitmap_Row_1_r3)
  (.exit 1)) .skip))
  (.seq (.reg bitmap_Row_1_r4)
  (.seq (.block 2 (.loop (.seq (.seq (.reg bitmap_Row_1_r5)
  (.cond (.tmp (31 : Nat)) .skip (.exit 2)))
  (.block 3 (.reg bitmap_Row_1_r6)))))
  (.seq (.reg bitmap_Row_1_r7)
  (.cond (.tmp (40 : Nat)) .ret .skip)))))))))), []⟩
theorem bitmap_Row_1_s : slimF Try.prog 164 = some bitmap_Row_1_c := by kernel_rfl
abbrev bitmap_Row_1_f : Nat := 164

end Go.Proofs.Ytjedljdfkoagbaa
namespace Go.Proofs.Ytjedljdfkoagbaa
open Go Go.Lite
set_option linter.unusedVariables false

/-- printworks/curve.Nearest -/
def curve_Nearest_r0 : List SO := [⟨(some 4), .assign (.const (.int .i64 0)), none⟩]
def curve_Nearest_r1 : List SO := [⟨(some 6), .move (.tmp (0 : Nat)), none⟩,
  ⟨(some 7), .binOp .mul 3 (.const (.int .i64 2)) (.tmp (6 : Nat)) 3, none⟩,
  ⟨(some 8), .move (.tmp (1 : Nat)), none⟩,
  ⟨(some 9), .binOp .add 3 (.tmp (7 : Nat)) (.tmp (8 : Nat)) 3, none⟩,
  ⟨(some 10), .move (.tmp (1 : Nat)), none⟩,
  ⟨(some 11), .binOp .mul 3 (.const (.int .i64 2)) (.tmp (10 : Nat)) 3, none⟩,
  ⟨(some 0), .assign (.tmp (9 : Nat)), none⟩,
  ⟨(some 1), .assign (.tmp (11 : Nat)), none⟩]
def curve_Nearest_r2 : List SO := [⟨(some 12), .move (.tmp (0 : Nat)), none⟩,
  ⟨(some 13), .move (.tmp (1 : Nat)), none⟩,
  ⟨(some 14), .binOp .quo 3 (.tmp (12 : Nat)) (.tmp (13 : Nat)) 3, none⟩,
  ⟨(some 5), .assign (.tmp (14 : Nat)), none⟩]
def curve_Nearest_r3 : List SO := [⟨(some 15), .move (.tmp (0 : Nat)), none⟩,
  ⟨(some 16), .move (.tmp (1 : Nat)), none⟩,
  ⟨(some 17), .binOp .rem 3 (.tmp (15 : Nat)) (.tmp (16 : Nat)) 3, none⟩,
  ⟨(some 18), .binOp .lss 3 (.tmp (17 : Nat)) (.const (.int .i64 0)) 3, none⟩]
def curve_Nearest_r4 : List SO := [⟨(some 19), .move (.tmp (5 : Nat)), none⟩,
  ⟨(some 20), .binOp .sub 3 (.tmp (19 : Nat)) (.const (.int .i64 1)) 3, none⟩,
  ⟨(some 5), .assign (.tmp (20 : Nat)), none⟩]
def curve_Nearest_r5 : List SO := [⟨(some 21), .move (.tmp (5 : Nat)), none⟩,
  ⟨(some 4), .assign (.tmp (21 : Nat)), none⟩]
def curve_Nearest_c : SF := ⟨22, (.seq (.reg curve_Nearest_r0)
  (.seq (.reg curve_Nearest_r1)
  (.seq (.reg curve_Nearest_r2)
  (.seq (.seq (.reg curve_Nearest_r3)
  (.cond (.tmp (18 : Nat)) (.reg curve_Nearest_r4) .skip))
  (.seq (.reg curve_Nearest_r5)
  .ret))))), [.tmp 4]⟩
theorem curve_Nearest_s : slimF Try.prog 48 = some curve_Nearest_c := by kernel_rfl
abbrev curve_Nearest_f : Nat := 48

end Go.Proofs.Ytjedljdfkoagbaa
namespace Go.Proofs.Ytjedljdfkoagbaa
open Go Go.Lite
set_option linter.unusedVariables false

/-- printworks/camera.Capture -/
def camera_Capture_r0 : List SO := [⟨(some 2), .box 24 (.tmp (0 : Nat)), none⟩,
  ⟨(some 3), .box 27 (.tmp (1 : Nat)), none⟩,
  ⟨(some 4), .alloc 30, none⟩,
  ⟨(some 5), .assign (.const (.int .i64 0)), none⟩]
def camera_Capture_r1 : List SO := [⟨(some 20), .load 24 (.tmp (2 : Nat)), none⟩,
  ⟨(some 21), .call ⟨(.value (.func (25 : Nat))), #[(.tmp (20 : Nat))], #[24]⟩, none⟩,
  ⟨(some 6), .assign (.tmp (21 : Nat)), none⟩]
def camera_Capture_r2 : List SO := [⟨(some 22), .move (.tmp (6 : Nat)), none⟩,
  ⟨(some 23), .binOp .neq 31 (.tmp (22 : Nat)) (.const (.int .i64 0)) 31, none⟩]
def camera_Capture_r3 : List SO := [⟨(some 24), .build 30 #[], none⟩,
  ⟨(some 25), .move (.tmp (6 : Nat)), none⟩,
  ⟨none, .store 30 (.tmp (4 : Nat)) (.tmp (24 : Nat)), none⟩,
  ⟨(some 5), .assign (.tmp (25 : Nat)), none⟩]
def camera_Capture_r4 : List SO := [⟨(some 26), .load 27 (.tmp (3 : Nat)), none⟩,
  ⟨(some 27), .call ⟨(.value (.func (44 : Nat))), #[(.tmp (26 : Nat))], #[27]⟩, none⟩,
  ⟨(some 7), .assign (.tmp (27 : Nat)), none⟩]
def camera_Capture_r5 : List SO := [⟨(some 28), .move (.tmp (7 : Nat)), none⟩,
  ⟨(some 29), .binOp .neq 31 (.tmp (28 : Nat)) (.const (.int .i64 0)) 31, none⟩]
def camera_Capture_r6 : List SO := [⟨(some 30), .build 30 #[], none⟩,
  ⟨(some 31), .move (.tmp (7 : Nat)), none⟩,
  ⟨none, .store 30 (.tmp (4 : Nat)) (.tmp (30 : Nat)), none⟩,
  ⟨(some 5), .assign (.tmp (31 : Nat)), none⟩]
def camera_Capture_r7 : List SO := [⟨(some 32), .fieldAddr 27 (.tmp (3 : Nat)) 3, none⟩,
  ⟨(some 33), .load 3 (.tmp (32 : Nat)), none⟩,
  ⟨(some 34), .call ⟨(.value (.func (45 : Nat))), #[(.tmp (2 : Nat)), (.tmp (33 : Nat))], #[91, 3]⟩, none⟩,
  ⟨(some 8), .alloc 24, none⟩,
  ⟨none, .store 24 (.tmp (8 : Nat)) (.tmp (34 : Nat)), none⟩]
def camera_Capture_r8 : List SO := [⟨(some 35), .fieldAddr 24 (.tmp (8 : Nat)) 0, none⟩,
  ⟨(some 36), .load 3 (.tmp (35 : Nat)), none⟩,
  ⟨(some 37), .fieldAddr 27 (.tmp (3 : Nat)) 0, none⟩,
  ⟨(some 38), .load 3 (.tmp (37 : Nat)), none⟩,
  ⟨(some 39), .binOp .mul 3 (.tmp (36 : Nat)) (.tmp (38 : Nat)) 3, none⟩,
  ⟨(some 40), .binOp .add 3 (.tmp (39 : Nat)) (.const (.int .i64 32)) 3, none⟩,
  ⟨(some 41), .fieldAddr 24 (.tmp (8 : Nat)) 1, none⟩,
  ⟨(some 42), .load 3 (.tmp (41 : Nat)), none⟩,
  ⟨(some 43), .fieldAddr 27 (.tmp (3 : Nat)) 0, none⟩,
  ⟨(some 44), .load 3 (.tmp (43 : Nat)), none⟩,
  ⟨(some 45), .binOp .mul 3 (.tmp (42 : Nat)) (.tmp (44 : Nat)) 3, none⟩,
  ⟨(some 46), .binOp .add 3 (.tmp (45 : Nat)) (.const (.int .i64 32)) 3, none⟩,
  ⟨(some 47), .build 30 #[(0, (.tmp (40 : Nat))), (1, (.tmp (46 : Nat)))], none⟩,
  ⟨(some 9), .alloc 30, none⟩,
  ⟨none, .store 30 (.tmp (9 : Nat)) (.tmp (47 : Nat)), none⟩]
def camera_Capture_r9 : List SO := [⟨(some 48), .fieldAddr 30 (.tmp (9 : Nat)) 0, none⟩,
  ⟨(some 49), .load 3 (.tmp (48 : Nat)), none⟩,
  ⟨(some 50), .binOp .gtr 3 (.tmp (49 : Nat)) (.const (.int .i64 1024)) 3, none⟩,
  ⟨(some 51), .move (.tmp (50 : Nat)), none⟩,
  ⟨(some 52), .fieldAddr 30 (.tmp (9 : Nat)) 1, (some (51, false))⟩,
  ⟨(some 53), .load 3 (.tmp (52 : Nat)), (some (51, false))⟩,
  ⟨(some 54), .binOp .gtr 3 (.tmp (53 : Nat)) (.const (.int .i64 1024)) 3, (some (51, false))⟩,
  ⟨(some 55), .pick (.tmp (51 : Nat)) (.const (.bool true)) (.tmp (54 : Nat)), none⟩]
def camera_Capture_r10 : List SO := [⟨(some 56), .build 30 #[], none⟩,
  ⟨none, .store 30 (.tmp (4 : Nat)) (.tmp (56 : Nat)), none⟩,
  ⟨(some 5), .assign (.const (.int .i64 19)), none⟩]
def camera_Capture_r11 : List SO := [⟨(some 57), .fieldAddr 30 (.tmp (9 : Nat)) 0, none⟩,
  ⟨(some 58), .load 3 (.tmp (57 : Nat)), none⟩,
  ⟨(some 59), .fieldAddr 30 (.tmp (9 : Nat)) 1, none⟩,
  ⟨(some 60), .load 3 (.tmp (59 : Nat)), none⟩,
  ⟨(some 61), .binOp .mul 3 (.tmp (58 : Nat)) (.tmp (60 : Nat)) 3, none⟩,
  ⟨(some 62), .makeSlice 22 (.tmp (61 : Nat)) (.tmp (61 : Nat)), none⟩,
  ⟨(some 63), .fieldAddr 30 (.tmp (9 : Nat)) 2, none⟩,
  ⟨none, .store 22 (.tmp (63 : Nat)) (.tmp (62 : Nat)), none⟩]
def camera_Capture_r12 : List SO := [⟨(some 64), .fieldAddr 30 (.tmp (9 : Nat)) 1, none⟩,
  ⟨(some 65), .load 3 (.tmp (64 : Nat)), none⟩,
  ⟨(some 66), .move (.const (.int .i64 0)), none⟩]
def camera_Capture_r13 : List SO := [⟨(some 67), .binOp .lss 3 (.tmp (66 : Nat)) (.tmp (65 : Nat)) 3, none⟩]
def camera_Capture_r14 : List SO := [⟨(some 68), .move (.tmp (66 : Nat)), none⟩,
  ⟨(some 10), .assign (.tmp (68 : Nat)), none⟩]
def camera_Capture_r15 : List SO := [⟨(some 69), .fieldAddr 30 (.tmp (9 : Nat)) 0, none⟩,
  ⟨(some 70), .load 3 (.tmp (69 : Nat)), none⟩,
  ⟨(some 71), .move (.const (.int .i64 0)), none⟩]
def camera_Capture_r16 : List SO := [⟨(some 72), .binOp .lss 3 (.tmp (71 : Nat)) (.tmp (70 : Nat)) 3, none⟩]
def camera_Capture_r17 : List SO := [⟨(some 73), .move (.tmp (71 : Nat)), none⟩,
  ⟨(some 11), .assign (.tmp (73 : Nat)), none⟩]
def camera_Capture_r18 : List SO := [⟨(some 74), .move (.tmp (11 : Nat)), none⟩,
  ⟨(some 75), .fieldAddr 27 (.tmp (3 : Nat)) 1, none⟩,
  ⟨(some 76), .load 3 (.tmp (75 : Nat)), none⟩,
  ⟨(some 77), .binOp .sub 3 (.tmp (74 : Nat)) (.tmp (76 : Nat)) 3, none⟩,
  ⟨(some 78), .move (.tmp (10 : Nat)), none⟩,
  ⟨(some 79), .fieldAddr 27 (.tmp (3 : Nat)) 2, none⟩,
  ⟨(some 80), .load 3 (.tmp (79 : Nat)), none⟩,
  ⟨(some 81), .binOp .sub 3 (.tmp (78 : Nat)) (.tmp (80 : Nat)) 3, none⟩,
  ⟨(some 12), .assign (.tmp (77 : Nat)), none⟩,
  ⟨(some 13), .assign (.tmp (81 : Nat)), none⟩]
def camera_Capture_a18 : List (List Nat) := [[], [], [1], [0, 2], [], [], [5], [4, 6], [3, 0, 1, 2, 3], [7, 8, 0, 1, 2, 3, 4, 5, 6, 7, 8]]
def camera_Capture_r19 : List SO := [⟨(some 82), .fieldAddr 27 (.tmp (3 : Nat)) 5, none⟩,
  ⟨(some 83), .load 3 (.tmp (82 : Nat)), none⟩,
  ⟨(some 14), .assign (.tmp (83 : Nat)), none⟩]
def camera_Capture_r20 : List SO := [⟨(some 84), .move (.tmp (12 : Nat)), none⟩,
  ⟨(some 85), .binOp .geq 3 (.tmp (84 : Nat)) (.const (.int .i64 0)) 3, none⟩,
  ⟨(some 86), .move (.tmp (85 : Nat)), none⟩,
  ⟨(some 87), .move (.tmp (13 : Nat)), (some (86, true))⟩,
  ⟨(some 88), .binOp .geq 3 (.tmp (87 : Nat)) (.const (.int .i64 0)) 3, (some (86, true))⟩,
  ⟨(some 89), .pick (.tmp (86 : Nat)) (.tmp (88 : Nat)) (.const (.bool false)), none⟩,
  ⟨(some 90), .move (.tmp (89 : Nat)), none⟩,
  ⟨(some 91), .move (.tmp (12 : Nat)), (some (90, true))⟩,
  ⟨(some 92), .fieldAddr 27 (.tmp (3 : Nat)) 0, (some (90, true))⟩,
  ⟨(some 93), .load 3 (.tmp (92 : Nat)), (some (90, true))⟩,
  ⟨(some 94), .binOp .quo 3 (.tmp (91 : Nat)) (.tmp (93 : Nat)) 3, (some (90, true))⟩,
  ⟨(some 95), .move (.tmp (13 : Nat)), (some (90, true))⟩,
  ⟨(some 96), .fieldAddr 27 (.tmp (3 : Nat)) 0, (some (90, true))⟩,
  ⟨(some 97), .load 3 (.tmp (96 : Nat)), (some (90, true))⟩,
  ⟨(some 98), .binOp .quo 3 (.tmp (95 : Nat)) (.tmp (97 : Nat)) 3, (some (90, true))⟩,
  ⟨(some 99), .call ⟨(.value (.func (46 : Nat))), #[(.tmp (8 : Nat)), (.tmp (94 : Nat)), (.tmp (98 : Nat))], #[91, 3, 3]⟩, (some (90, true))⟩,
  ⟨(some 100), .pick (.tmp (90 : Nat)) (.tmp (99 : Nat)) (.const (.bool false)), none⟩]
def camera_Capture_a20 : List (List Nat) := [[], [0], [1], [2], [3, 2], [2, 4], [5, 2], [6], [6], [8, 6], [7, 9, 6], [6], [6], [12, 6], [11, 13, 6], [10, 14, 6, 6], [6, 15]]
def camera_Capture_r21 : List SO := [⟨(some 101), .fieldAddr 27 (.tmp (3 : Nat)) 6, none⟩,
  ⟨(some 102), .load 3 (.tmp (101 : Nat)), none⟩,
  ⟨(some 14), .assign (.tmp (102 : Nat)), none⟩]
def camera_Capture_r22 : List SO := [⟨(some 103), .fieldAddr 30 (.tmp (9 : Nat)) 2, none⟩,
  ⟨(some 104), .load 22 (.tmp (103 : Nat)), none⟩,
  ⟨(some 105), .move (.tmp (10 : Nat)), none⟩,
  ⟨(some 106), .fieldAddr 30 (.tmp (9 : Nat)) 0, none⟩,
  ⟨(some 107), .load 3 (.tmp (106 : Nat)), none⟩,
  ⟨(some 108), .binOp .mul 3 (.tmp (105 : Nat)) (.tmp (107 : Nat)) 3, none⟩,
  ⟨(some 109), .move (.tmp (11 : Nat)), none⟩,
  ⟨(some 110), .binOp .add 3 (.tmp (108 : Nat)) (.tmp (109 : Nat)) 3, none⟩,
  ⟨(some 111), .move (.tmp (14 : Nat)), none⟩,
  ⟨(some 112), .convert 3 5 (.tmp (111 : Nat)), none⟩,
  ⟨(some 113), .indexAddr 22 (.tmp (104 : Nat)) (.tmp (110 : Nat)), none⟩,
  ⟨none, .store 5 (.tmp (113 : Nat)) (.tmp (112 : Nat)), none⟩]
def camera_Capture_r23 : List SO := [⟨(some 114), .binOp .add 3 (.tmp (71 : Nat)) (.const (.int .i64 1)) 3, none⟩,
  ⟨(some 71), .move (.tmp (114 : Nat)), none⟩]
def camera_Capture_r24 : List SO := [⟨(some 115), .binOp .add 3 (.tmp (66 : Nat)) (.const (.int .i64 1)) 3, none⟩,
  ⟨(some 66), .move (.tmp (115 : Nat)), none⟩]
def camera_Capture_r25 : List SO := [⟨(some 116), .fieldAddr 27 (.tmp (3 : Nat)) 4, none⟩,
  ⟨(some 117), .load 3 (.tmp (116 : Nat)), none⟩,
  ⟨(some 118), .move (.const (.int .i64 0)), none⟩]
def camera_Capture_r26 : List SO := [⟨(some 119), .binOp .lss 3 (.tmp (118 : Nat)) (.tmp (117 : Nat)) 3, none⟩]
def camera_Capture_r27 : List SO := [⟨(some 120), .load 30 (.tmp (9 : Nat)), none⟩,
  ⟨(some 15), .alloc 30, none⟩,
  ⟨none, .store 30 (.tmp (15 : Nat)) (.tmp (120 : Nat)), none⟩]
def camera_Capture_r28 : List SO := [⟨(some 121), .fieldAddr 30 (.tmp (9 : Nat)) 2, none⟩,
  ⟨(some 122), .load 22 (.tmp (121 : Nat)), none⟩,
  ⟨(some 123), .call ⟨(.builtin .append), #[(.const (.slice none 0 0)), (.tmp (122 : Nat))], #[22, 22]⟩, none⟩,
  ⟨(some 124), .fieldAddr 30 (.tmp (15 : Nat)) 2, none⟩,
  ⟨none, .store 22 (.tmp (124 : Nat)) (.tmp (123 : Nat)), none⟩]
def camera_Capture_r29 : List SO := [⟨(some 125), .fieldAddr 30 (.tmp (9 : Nat)) 2, none⟩,
  ⟨(some 126), .load 22 (.tmp (125 : Nat)), none⟩,
  ⟨(some 127), .call ⟨(.builtin .len), #[(.tmp (126 : Nat))], #[22]⟩, none⟩,
  ⟨(some 128), .move (.const (.int .i64 0)), none⟩]
def camera_Capture_r30 : List SO := [⟨(some 129), .binOp .lss 3 (.tmp (128 : Nat)) (.tmp (127 : Nat)) 3, none⟩]
def camera_Capture_r31 : List SO := [⟨(some 130), .move (.tmp (128 : Nat)), none⟩,
  ⟨(some 16), .assign (.tmp (130 : Nat)), none⟩]
def camera_Capture_r32 : List SO := [⟨(some 132), .move (.tmp (16 : Nat)), none⟩,
  ⟨(some 133), .fieldAddr 30 (.tmp (9 : Nat)) 0, none⟩,
  ⟨(some 134), .load 3 (.tmp (133 : Nat)), none⟩,
  ⟨(some 135), .binOp .rem 3 (.tmp (132 : Nat)) (.tmp (134 : Nat)) 3, none⟩,
  ⟨(some 136), .move (.tmp (16 : Nat)), none⟩,
  ⟨(some 137), .fieldAddr 30 (.tmp (9 : Nat)) 0, none⟩,
  ⟨(some 138), .load 3 (.tmp (137 : Nat)), none⟩,
  ⟨(some 139), .binOp .quo 3 (.tmp (136 : Nat)) (.tmp (138 : Nat)) 3, none⟩,
  ⟨(some 140), .call ⟨(.value (.func (47 : Nat))), #[(.tmp (15 : Nat)), (.tmp (135 : Nat)), (.tmp (139 : Nat)), (.const (.int .i64 1))], #[95, 3, 3, 3]⟩, none⟩,
  ⟨(some 131), .move (.tmp (140 : Nat)), none⟩,
  ⟨(some 141), .extract (.tmp (131 : Nat)) 0, none⟩,
  ⟨(some 142), .extract (.tmp (131 : Nat)) 1, none⟩,
  ⟨(some 17), .assign (.tmp (141 : Nat)), none⟩,
  ⟨(some 18), .assign (.tmp (142 : Nat)), none⟩]
def camera_Capture_a32 : List (List Nat) := [[], [], [1], [0, 2], [], [], [5], [4, 6], [3, 7], [8], [9], [9], [10, 8, 0, 1, 2, 3, 4, 5, 6, 7, 8, 9, 10], [11, 12, 0, 1, 2, 3, 4, 5, 6, 7, 8, 9, 10, 11, 12]]
def camera_Capture_r33 : List SO := [⟨(some 143), .fieldAddr 30 (.tmp (9 : Nat)) 2, none⟩,
  ⟨(some 144), .load 22 (.tmp (143 : Nat)), none⟩,
  ⟨(some 145), .move (.tmp (16 : Nat)), none⟩,
  ⟨(some 146), .move (.tmp (17 : Nat)), none⟩,
  ⟨(some 147), .move (.tmp (18 : Nat)), none⟩,
  ⟨(some 148), .call ⟨(.value (.func (48 : Nat))), #[(.tmp (146 : Nat)), (.tmp (147 : Nat))], #[3, 3]⟩, none⟩,
  ⟨(some 149), .convert 3 5 (.tmp (148 : Nat)), none⟩,
  ⟨(some 150), .indexAddr 22 (.tmp (144 : Nat)) (.tmp (145 : Nat)), none⟩,
  ⟨none, .store 5 (.tmp (150 : Nat)) (.tmp (149 : Nat)), none⟩]
def camera_Capture_a33 : List (List Nat) := [[], [0], [], [], [], [3, 4], [5], [1, 2, 0, 1, 2, 3, 4, 5, 6], [7, 6, 5, 0, 1, 2, 3, 4, 5, 6]]
def camera_Capture_r34 : List SO := [⟨(some 151), .binOp .add 3 (.tmp (128 : Nat)) (.const (.int .i64 1)) 3, none⟩,
  ⟨(some 128), .move (.tmp (151 : Nat)), none⟩]
def camera_Capture_r35 : List SO := [⟨(some 152), .binOp .add 3 (.tmp (118 : Nat)) (.const (.int .i64 1)) 3, none⟩,
  ⟨(some 118), .move (.tmp (152 : Nat)), none⟩]
def camera_Capture_r36 : List SO := [⟨(some 153), .fieldAddr 30 (.tmp (9 : Nat)) 2, none⟩,
  ⟨(some 154), .load 22 (.tmp (153 : Nat)), none⟩,
  ⟨(some 155), .call ⟨(.builtin .len), #[(.tmp (154 : Nat))], #[22]⟩, none⟩,
  ⟨(some 156), .move (.const (.int .i64 0)), none⟩]
def camera_Capture_r37 : List SO := [⟨(some 157), .binOp .lss 3 (.tmp (156 : Nat)) (.tmp (155 : Nat)) 3, none⟩]
def camera_Capture_r38 : List SO := [⟨(some 158), .move (.tmp (156 : Nat)), none⟩,
  ⟨(some 19), .assign (.tmp (158 : Nat)), none⟩]
def camera_Capture_r39 : List SO := [⟨(some 159), .fieldAddr 27 (.tmp (3 : Nat)) 7, none⟩,
  ⟨(some 160), .load 25 (.tmp (159 : Nat)), none⟩,
  ⟨(some 161), .call ⟨(.builtin .len), #[(.tmp (160 : Nat))], #[25]⟩, none⟩,
  ⟨(some 162), .binOp .gtr 3 (.tmp (161 : Nat)) (.const (.int .i64 0)) 3, none⟩]
def camera_Capture_r40 : List SO := [⟨(some 163), .fieldAddr 30 (.tmp (9 : Nat)) 2, none⟩,
  ⟨(some 164), .load 22 (.tmp (163 : Nat)), none⟩,
  ⟨(some 165), .move (.tmp (19 : Nat)), none⟩,
  ⟨(some 166), .fieldAddr 30 (.tmp (9 : Nat)) 2, none⟩,
  ⟨(some 167), .load 22 (.tmp (166 : Nat)), none⟩,
  ⟨(some 168), .move (.tmp (19 : Nat)), none⟩,
  ⟨(some 169), .indexAddr 22 (.tmp (167 : Nat)) (.tmp (168 : Nat)), none⟩,
  ⟨(some 170), .load 5 (.tmp (169 : Nat)), none⟩,
  ⟨(some 171), .convert 5 3 (.tmp (170 : Nat)), none⟩,
  ⟨(some 172), .fieldAddr 27 (.tmp (3 : Nat)) 7, none⟩,
  ⟨(some 173), .load 25 (.tmp (172 : Nat)), none⟩,
  ⟨(some 174), .move (.tmp (19 : Nat)), none⟩,
  ⟨(some 175), .fieldAddr 27 (.tmp (3 : Nat)) 7, none⟩,
  ⟨(some 176), .load 25 (.tmp (175 : Nat)), none⟩,
  ⟨(some 177), .call ⟨(.builtin .len), #[(.tmp (176 : Nat))], #[25]⟩, none⟩,
  ⟨(some 178), .binOp .rem 3 (.tmp (174 : Nat)) (.tmp (177 : Nat)) 3, none⟩,
  ⟨(some 179), .indexAddr 25 (.tmp (173 : Nat)) (.tmp (178 : Nat)), none⟩,
  ⟨(some 180), .load 3 (.tmp (179 : Nat)), none⟩,
  ⟨(some 181), .binOp .add 3 (.tmp (171 : Nat)) (.tmp (180 : Nat)) 3, none⟩,
  ⟨(some 182), .call ⟨(.builtin .min), #[(.const (.int .i64 255)), (.tmp (181 : Nat))], #[3, 3]⟩, none⟩,
  ⟨(some 183), .call ⟨(.builtin .max), #[(.const (.int .i64 0)), (.tmp (182 : Nat))], #[3, 3]⟩, none⟩,
  ⟨(some 184), .convert 3 5 (.tmp (183 : Nat)), none⟩,
  ⟨(some 185), .indexAddr 22 (.tmp (164 : Nat)) (.tmp (165 : Nat)), none⟩,
  ⟨none, .store 5 (.tmp (185 : Nat)) (.tmp (184 : Nat)), none⟩]
def camera_Capture_a40 : List (List Nat) := [[], [0], [], [], [3], [], [4, 5], [6], [7], [], [9], [], [], [12], [13], [11, 14], [10, 15], [16], [8, 17], [18], [19], [20], [1, 2, 0, 1, 2, 3, 4, 5, 6, 7, 8, 9, 10, 11, 12, 13, 14, 15, 16, 17, 18, 19, 20, 21], [22, 21, 0, 1, 2, 3, 4, 5, 6, 7, 8, 9, 10, 11, 12, 13, 14, 15, 16, 17, 18, 19, 20, 21]]
def camera_Capture_r41 : List SO := [⟨(some 186), .binOp .add 3 (.tmp (156 : Nat)) (.const (.int .i64 1)) 3, none⟩,
  ⟨(some 156), .move (.tmp (186 : Nat)), none⟩]
def camera_Capture_r42 : List SO := [⟨(some 187), .load 30 (.tmp (9 : Nat)), none⟩,
  ⟨none, .store 30 (.tmp (4 : Nat)) (.tmp (187 : Nat)), none⟩,
  ⟨(some 5), .assign (.const (.int .i64 0)), none⟩]
def camera_Capture_c : SF := ⟨188, (.seq (.reg camera_Capture_r0)
  (.seq (.seq (.reg camera_Capture_r1)
  (.seq (.reg camera_Capture_r2)
  (.cond (.tmp (23 : Nat)) (.seq (.reg camera_Capture_r3)
  .ret) .skip)))
  (.seq (.seq (.reg camera_Capture_r4)
  (.seq (.reg camera_Capture_r5)
  (.cond (.tmp (29 : Nat)) (.seq (.reg camera_Capture_r6)
  .ret) .skip)))
  (.seq (.reg camera_Capture_r7)
  (.seq (.reg camera_Capture_r8)
  (.seq (.seq (.reg camera_Capture_r9)
  (.cond (.tmp (55 : Nat)) (.seq (.reg camera_Capture_r10)
  .ret) .skip))
  (.seq (.reg camera_Capture_r11)
  (.seq (.seq (.reg camera_Capture_r12)
  (.block 0 (.loop (.seq (.reg camera_Capture_r13)
  (.seq (.cond (.tmp (67 : Nat)) .skip (.exit 0))
  (.seq (.block 1 (.seq (.reg camera_Capture_r14)
  (.seq (.reg camera_Capture_r15)
  (.block 2 (.loop (.seq (.reg camera_Capture_r16)
  (.seq (.cond (.tmp (72 : Nat)) .skip (.exit 2))
  (.seq (.block 3 (.seq (.reg camera_Capture_r17)
  (.seq (.regd camera_Capture_r18 camera_Capture_a18)
  (.seq (.reg camera_Capture_r19)
  (.seq (.seq (.regd camera_Capture_r20 camera_Capture_a20)
  (.cond (.tmp (100 : Nat)) (.reg camera_Capture_r21) .skip))
  (.reg camera_Capture_r22))))))
  (.reg camera_Capture_r23)))))))))
  (.reg camera_Capture_r24)))))))
  (.seq (.seq (.reg camera_Capture_r25)
  (.block 4 (.loop (.seq (.reg camera_Capture_r26)
  (.seq (.cond (.tmp (119 : Nat)) .skip (.exit 4))
  (.seq (.block 5 (.seq (.reg camera_Capture_r27)
  (.seq (.reg camera_Capture_r28)
  (.seq (.reg camera_Capture_r29)
  (.block 6 (.loop (.seq (.reg camera_Capture_r30)
  (.seq (.cond (.tmp (129 : Nat)) .skip (.exit 6))
  (.seq (.block 7 (.seq (.reg camera_Capture_r31)
  (.seq (.regd camera_Capture_r32 camera_Capture_a32)
  (.regd camera_Capture_r33 camera_Capture_a33))))
  (.reg camera_Capture_r34))))))))))
  (.reg camera_Capture_r35)))))))
  (.seq (.seq (.reg camera_Capture_r36)
  (.block 8 (.loop (.seq (.reg camera_Capture_r37)
  (.seq (.cond (.tmp (157 : Nat)) .skip (.exit 8))
  (.seq (.block 9 (.seq (.reg camera_Capture_r38)
  (.seq (.reg camera_Capture_r39)
  (.cond (.tmp (162 : Nat)) (.regd camera_Capture_r40 camera_Capture_a40) .skip))))
  (.reg camera_Capture_r41)))))))
  (.seq (.reg camera_Capture_r42)
  .ret))))))))))), [.cell 4 30, .tmp 5]⟩
theorem camera_Capture_s : slimF Try.prog 12 = some camera_Capture_c := by kernel_rfl
abbrev camera_Capture_f : Nat := 12
/-- printworks/camera.Binarize -/
def camera_Binarize_r0 : List SO := [⟨(some 1), .box 30 (.tmp (0 : Nat)), none⟩,
  ⟨(some 2), .alloc 24, none⟩,
  ⟨(some 3), .assign (.const (.int .i64 0)), none⟩]
def camera_Binarize_r1 : List SO := [⟨(some 5), .load 30 (.tmp (1 : Nat)), none⟩,
  ⟨(some 6), .call ⟨(.value (.func (50 : Nat))), #[(.tmp (5 : Nat))], #[30]⟩, none⟩,
  ⟨(some 4), .assign (.tmp (6 : Nat)), none⟩]
def camera_Binarize_r2 : List SO := [⟨(some 7), .move (.tmp (4 : Nat)), none⟩,
  ⟨(some 8), .binOp .neq 31 (.tmp (7 : Nat)) (.const (.int .i64 0)) 31, none⟩]
def camera_Binarize_r3 : List SO := [⟨(some 9), .build 24 #[], none⟩,
  ⟨(some 10), .move (.tmp (4 : Nat)), none⟩,
  ⟨none, .store 24 (.tmp (2 : Nat)) (.tmp (9 : Nat)), none⟩,
  ⟨(some 3), .assign (.tmp (10 : Nat)), none⟩]
def camera_Binarize_r4 : List SO := [⟨(some 11), .call ⟨(.value (.func (51 : Nat))), #[(.tmp (1 : Nat))], #[95]⟩, none⟩,
  ⟨none, .store 24 (.tmp (2 : Nat)) (.tmp (11 : Nat)), none⟩,
  ⟨(some 3), .assign (.const (.int .i64 0)), none⟩]
def camera_Binarize_c : SF := ⟨12, (.seq (.reg camera_Binarize_r0)
  (.seq (.seq (.reg camera_Binarize_r1)
  (.seq (.reg camera_Binarize_r2)
  (.cond (.tmp (8 : Nat)) (.seq (.reg camera_Binarize_r3)
  .ret) .skip)))
  (.seq (.reg camera_Binarize_r4)
  .ret))), [.cell 2 24, .tmp 3]⟩
theorem camera_Binarize_s : slimF Try.prog 16 = some camera_Binarize_c := by kernel_rfl
abbrev camera_Binarize_f : Nat := 16
/-- printworks/camera.Number -/
def camera_Number_r0 : List SO := [⟨(some 1), .box 30 (.tmp (0 : Nat)), none⟩,
  ⟨(some 2), .assign (.const (.string ⟨([] : List UInt8).toArray⟩)), none⟩,
  ⟨(some 3), .assign (.const (.int .i64 0)), none⟩]
def camera_Number_r1 : List SO := [⟨(some 8), .load 30 (.tmp (1 : Nat)), none⟩,
  ⟨(some 9), .call ⟨(.value (.func (50 : Nat))), #[(.tmp (8 : Nat))], #[30]⟩, none⟩,
  ⟨(some 4), .assign (.tmp (9 : Nat)), none⟩]
def camera_Number_r2 : List SO := [⟨(some 10), .move (.tmp (4 : Nat)), none⟩,
  ⟨(some 11), .binOp .neq 31 (.tmp (10 : Nat)) (.const (.int .i64 0)) 31, none⟩]
def camera_Number_r3 : List SO := [⟨(some 12), .move (.tmp (4 : Nat)), none⟩,
  ⟨(some 2), .assign (.const (.string ⟨([] : List UInt8).toArray⟩)), none⟩,
  ⟨(some 3), .assign (.tmp (12 : Nat)), none⟩]
def camera_Number_r4 : List SO := [⟨(some 13), .call ⟨(.value (.func (51 : Nat))), #[(.tmp (1 : Nat))], #[95]⟩, none⟩,
  ⟨(some 5), .alloc 24, none⟩,
  ⟨none, .store 24 (.tmp (5 : Nat)) (.tmp (13 : Nat)), none⟩]
def camera_Number_r5 : List SO := [⟨(some 15), .call ⟨(.value (.func (89 : Nat))), #[(.tmp (5 : Nat))], #[91]⟩, none⟩,
  ⟨(some 14), .move (.tmp (15 : Nat)), none⟩,
  ⟨(some 16), .extract (.tmp (14 : Nat)) 0, none⟩,
  ⟨(some 17), .extract (.tmp (14 : Nat)) 1, none⟩,
  ⟨(some 6), .assign (.tmp (16 : Nat)), none⟩,
  ⟨(some 7), .assign (.tmp (17 : Nat)), none⟩]
def camera_Number_r6 : List SO := [⟨(some 18), .move (.tmp (7 : Nat)), none⟩,
  ⟨(some 19), .binOp .eql 31 (.tmp (18 : Nat)) (.const (.int .i64 8)) 31, none⟩]
def camera_Number_r7 : List SO := [⟨(some 20), .call ⟨(.value (.func (45 : Nat))), #[(.tmp (5 : Nat)), (.const (.int .i64 1))], #[91, 3]⟩, none⟩,
  ⟨none, .store 24 (.tmp (5 : Nat)) (.tmp (20 : Nat)), none⟩]
def camera_Number_r8 : List SO := [⟨(some 22), .call ⟨(.value (.func (89 : Nat))), #[(.tmp (5 : Nat))], #[91]⟩, none⟩,
  ⟨(some 21), .move (.tmp (22 : Nat)), none⟩,
  ⟨(some 23), .extract (.tmp (21 : Nat)) 0, none⟩,
  ⟨(some 24), .extract (.tmp (21 : Nat)) 1, none⟩,
  ⟨(some 6), .assign (.tmp (23 : Nat)), none⟩,
  ⟨(some 7), .assign (.tmp (24 : Nat)), none⟩]
def camera_Number_r9 : List SO := [⟨(some 25), .move (.tmp (6 : Nat)), none⟩,
  ⟨(some 26), .move (.tmp (7 : Nat)), none⟩,
  ⟨(some 2), .assign (.tmp (25 : Nat)), none⟩,
  ⟨(some 3), .assign (.tmp (26 : Nat)), none⟩]
def camera_Number_c : SF := ⟨27, (.seq (.reg camera_Number_r0)
  (.seq (.seq (.reg camera_Number_r1)
  (.seq (.reg camera_Number_r2)
  (.cond (.tmp (11 : Nat)) (.seq (.reg camera_Number_r3)
  .ret) .skip)))
  (.seq (.reg camera_Number_r4)
  (.seq (.reg camera_Number_r5)
  (.seq (.seq (.reg camera_Number_r6)
  (.cond (.tmp (19 : Nat)) (.seq (.reg camera_Number_r7)
  (.reg camera_Number_r8)) .skip))
  (.seq (.reg camera_Number_r9)
  .ret)))))), [.tmp 2, .tmp 3]⟩
theorem camera_Number_s : slimF Try.prog 43 = some camera_Number_c := by kernel_rfl
abbrev camera_Number_f : Nat := 43
/-- printworks/camera.CheckView -/
def camera_CheckView_r0 : List SO := [⟨(some 1), .box 27 (.tmp (0 : Nat)), none⟩,
  ⟨(some 2), .assign (.const (.int .i64 0)), none⟩]
def camera_CheckView_r1 : List SO := [⟨(some 5), .fieldAddr 27 (.tmp (1 : Nat)) 0, none⟩,
  ⟨(some 6), .load 3 (.tmp (5 : Nat)), none⟩,
  ⟨(some 7), .binOp .lss 3 (.tmp (6 : Nat)) (.const (.int .i64 1)) 3, none⟩,
  ⟨(some 8), .move (.tmp (7 : Nat)), none⟩,
  ⟨(some 9), .fieldAddr 27 (.tmp (1 : Nat)) 0, (some (8, false))⟩,
  ⟨(some 10), .load 3 (.tmp (9 : Nat)), (some (8, false))⟩,
  ⟨(some 11), .binOp .gtr 3 (.tmp (10 : Nat)) (.const (.int .i64 8)) 3, (some (8, false))⟩,
  ⟨(some 12), .pick (.tmp (8 : Nat)) (.const (.bool true)) (.tmp (11 : Nat)), none⟩,
  ⟨(some 13), .move (.tmp (12 : Nat)), none⟩,
  ⟨(some 14), .fieldAddr 27 (.tmp (1 : Nat)) 1, (some (13, false))⟩,
  ⟨(some 15), .load 3 (.tmp (14 : Nat)), (some (13, false))⟩,
  ⟨(some 16), .binOp .lss 3 (.tmp (15 : Nat)) (.const (.int .i64 0)) 3, (some (13, false))⟩,
  ⟨(some 17), .pick (.tmp (13 : Nat)) (.const (.bool true)) (.tmp (16 : Nat)), none⟩,
  ⟨(some 18), .move (.tmp (17 : Nat)), none⟩,
  ⟨(some 19), .fieldAddr 27 (.tmp (1 : Nat)) 1, (some (18, false))⟩,
  ⟨(some 20), .load 3 (.tmp (19 : Nat)), (some (18, false))⟩,
  ⟨(some 21), .binOp .gtr 3 (.tmp (20 : Nat)) (.const (.int .i64 32)) 3, (some (18, false))⟩,
  ⟨(some 22), .pick (.tmp (18 : Nat)) (.const (.bool true)) (.tmp (21 : Nat)), none⟩,
  ⟨(some 23), .move (.tmp (22 : Nat)), none⟩,
  ⟨(some 24), .fieldAddr 27 (.tmp (1 : Nat)) 2, (some (23, false))⟩,
  ⟨(some 25), .load 3 (.tmp (24 : Nat)), (some (23, false))⟩,
  ⟨(some 26), .binOp .lss 3 (.tmp (25 : Nat)) (.const (.int .i64 0)) 3, (some (23, false))⟩,
  ⟨(some 27), .pick (.tmp (23 : Nat)) (.const (.bool true)) (.tmp (26 : Nat)), none⟩,
  ⟨(some 28), .move (.tmp (27 : Nat)), none⟩,
  ⟨(some 29), .fieldAddr 27 (.tmp (1 : Nat)) 2, (some (28, false))⟩,
  ⟨(some 30), .load 3 (.tmp (29 : Nat)), (some (28, false))⟩,
  ⟨(some 31), .binOp .gtr 3 (.tmp (30 : Nat)) (.const (.int .i64 32)) 3, (some (28, false))⟩,
  ⟨(some 32), .pick (.tmp (28 : Nat)) (.const (.bool true)) (.tmp (31 : Nat)), none⟩,
  ⟨(some 33), .move (.tmp (32 : Nat)), none⟩,
  ⟨(some 34), .fieldAddr 27 (.tmp (1 : Nat)) 3, (some (33, false))⟩,
  ⟨(some 35), .load 3 (.tmp (34 : Nat)), (some (33, false))⟩,
  ⟨(some 36), .binOp .lss 3 (.tmp (35 : Nat)) (.const (.int .i64 0)) 3, (some (33, false))⟩,
  ⟨(some 37), .pick (.tmp (33 : Nat)) (.const (.bool true)) (.tmp (36 : Nat)), none⟩,
  ⟨(some 38), .move (.tmp (37 : Nat)), none⟩,
  ⟨(some 39), .fieldAddr 27 (.tmp (1 : Nat)) 3, (some (38, false))⟩,
  ⟨(some 40), .load 3 (.tmp (39 : Nat)), (some (38, false))⟩,
  ⟨(some 41), .binOp .gtr 3 (.tmp (40 : Nat)) (.const (.int .i64 3)) 3, (some (38, false))⟩,
  ⟨(some 42), .pick (.tmp (38 : Nat)) (.const (.bool true)) (.tmp (41 : Nat)), none⟩,
  ⟨(some 43), .move (.tmp (42 : Nat)), none⟩,
  ⟨(some 44), .fieldAddr 27 (.tmp (1 : Nat)) 4, (some (43, false))⟩,
  ⟨(some 45), .load 3 (.tmp (44 : Nat)), (some (43, false))⟩,
  ⟨(some 46), .binOp .lss 3 (.tmp (45 : Nat)) (.const (.int .i64 0)) 3, (some (43, false))⟩,
  ⟨(some 47), .pick (.tmp (43 : Nat)) (.const (.bool true)) (.tmp (46 : Nat)), none⟩,
  ⟨(some 48), .move (.tmp (47 : Nat)), none⟩,
  ⟨(some 49), .fieldAddr 27 (.tmp (1 : Nat)) 4, (some (48, false))⟩,
  ⟨(some 50), .load 3 (.tmp (49 : Nat)), (some (48, false))⟩,
  ⟨(some 51), .binOp .gtr 3 (.tmp (50 : Nat)) (.const (.int .i64 2)) 3, (some (48, false))⟩,
  ⟨(some 52), .pick (.tmp (48 : Nat)) (.const (.bool true)) (.tmp (51 : Nat)), none⟩]
def camera_CheckView_r2 : List SO := [⟨(some 2), .assign (.const (.int .i64 3)), none⟩]
def camera_CheckView_r3 : List SO := [⟨(some 53), .fieldAddr 27 (.tmp (1 : Nat)) 5, none⟩,
  ⟨(some 54), .load 3 (.tmp (53 : Nat)), none⟩,
  ⟨(some 55), .binOp .lss 3 (.tmp (54 : Nat)) (.const (.int .i64 0)) 3, none⟩,
  ⟨(some 56), .move (.tmp (55 : Nat)), none⟩,
  ⟨(some 57), .fieldAddr 27 (.tmp (1 : Nat)) 5, (some (56, false))⟩,
  ⟨(some 58), .load 3 (.tmp (57 : Nat)), (some (56, false))⟩,
  ⟨(some 59), .binOp .gtr 3 (.tmp (58 : Nat)) (.const (.int .i64 255)) 3, (some (56, false))⟩,
  ⟨(some 60), .pick (.tmp (56 : Nat)) (.const (.bool true)) (.tmp (59 : Nat)), none⟩,
  ⟨(some 61), .move (.tmp (60 : Nat)), none⟩,
  ⟨(some 62), .fieldAddr 27 (.tmp (1 : Nat)) 6, (some (61, false))⟩,
  ⟨(some 63), .load 3 (.tmp (62 : Nat)), (some (61, false))⟩,
  ⟨(some 64), .binOp .lss 3 (.tmp (63 : Nat)) (.const (.int .i64 0)) 3, (some (61, false))⟩,
  ⟨(some 65), .pick (.tmp (61 : Nat)) (.const (.bool true)) (.tmp (64 : Nat)), none⟩,
  ⟨(some 66), .move (.tmp (65 : Nat)), none⟩,
  ⟨(some 67), .fieldAddr 27 (.tmp (1 : Nat)) 6, (some (66, false))⟩,
  ⟨(some 68), .load 3 (.tmp (67 : Nat)), (some (66, false))⟩,
  ⟨(some 69), .binOp .gtr 3 (.tmp (68 : Nat)) (.const (.int .i64 255)) 3, (some (66, false))⟩,
  ⟨(some 70), .pick (.tmp (66 : Nat)) (.const (.bool true)) (.tmp (69 : Nat)), none⟩]
def camera_CheckView_r4 : List SO := [⟨(some 2), .assign (.const (.int .i64 3)), none⟩]
def camera_CheckView_r5 : List SO := [⟨(some 71), .fieldAddr 27 (.tmp (1 : Nat)) 6, none⟩,
  ⟨(some 72), .load 3 (.tmp (71 : Nat)), none⟩,
  ⟨(some 73), .fieldAddr 27 (.tmp (1 : Nat)) 5, none⟩,
  ⟨(some 74), .load 3 (.tmp (73 : Nat)), none⟩,
  ⟨(some 75), .binOp .geq 3 (.tmp (72 : Nat)) (.tmp (74 : Nat)) 3, none⟩]
def camera_CheckView_r6 : List SO := [⟨(some 2), .assign (.const (.int .i64 18)), none⟩]
def camera_CheckView_r7 : List SO := [⟨(some 76), .fieldAddr 27 (.tmp (1 : Nat)) 7, none⟩,
  ⟨(some 77), .load 25 (.tmp (76 : Nat)), none⟩,
  ⟨(some 78), .call ⟨(.builtin .len), #[(.tmp (77 : Nat))], #[25]⟩, none⟩,
  ⟨(some 79), .binOp .gtr 3 (.tmp (78 : Nat)) (.const (.int .i64 64)) 3, none⟩]
def camera_CheckView_r8 : List SO := [⟨(some 2), .assign (.const (.int .i64 2)), none⟩]
def camera_CheckView_r9 : List SO := [⟨(some 80), .fieldAddr 27 (.tmp (1 : Nat)) 7, none⟩,
  ⟨(some 81), .load 25 (.tmp (80 : Nat)), none⟩,
  ⟨(some 82), .call ⟨(.builtin .len), #[(.tmp (81 : Nat))], #[25]⟩, none⟩,
  ⟨(some 83), .move (.const (.int .i64 0)), none⟩]
def camera_CheckView_r10 : List SO := [⟨(some 84), .binOp .lss 3 (.tmp (83 : Nat)) (.tmp (82 : Nat)) 3, none⟩]
def camera_CheckView_r11 : List SO := [⟨(some 85), .indexAddr 25 (.tmp (81 : Nat)) (.tmp (83 : Nat)), none⟩,
  ⟨(some 86), .load 3 (.tmp (85 : Nat)), none⟩,
  ⟨(some 4), .assign (.tmp (86 : Nat)), none⟩]
def camera_CheckView_r12 : List SO := [⟨(some 87), .move (.tmp (4 : Nat)), none⟩,
  ⟨(some 88), .binOp .lss 3 (.tmp (87 : Nat)) (.const (.int .i64 (-64))) 3, none⟩,
  ⟨(some 89), .move (.tmp (88 : Nat)), none⟩,
  ⟨(some 90), .move (.tmp (4 : Nat)), (some (89, false))⟩,
  ⟨(some 91), .binOp .gtr 3 (.tmp (90 : Nat)) (.const (.int .i64 64)) 3, (some (89, false))⟩,
  ⟨(some 92), .pick (.tmp (89 : Nat)) (.const (.bool true)) (.tmp (91 : Nat)), none⟩]
def camera_CheckView_r13 : List SO := [⟨(some 2), .assign (.const (.int .i64 3)), none⟩]
def camera_CheckView_r14 : List SO := [⟨(some 93), .binOp .add 3 (.tmp (83 : Nat)) (.const (.int .i64 1)) 3, none⟩,
  ⟨(some 83), .move (.tmp (93 : Nat)), none⟩]
def camera_CheckView_r15 : List SO := [⟨(some 2), .assign (.const (.int .i64 0)), none⟩]
def camera_CheckView_c : SF := ⟨94, (.seq (.reg camera_CheckView_r0)
  (.seq (.seq (.reg camera_CheckView_r1)
  (.cond (.tmp (52 : Nat)) (.seq (.reg camera_CheckView_r2)
  .ret) .skip))
  (.seq (.seq (.reg camera_CheckView_r3)
  (.cond (.tmp (70 : Nat)) (.seq (.reg camera_CheckView_r4)
  .ret) .skip))
  (.seq (.seq (.reg camera_CheckView_r5)
  (.cond (.tmp (75 : Nat)) (.seq (.reg camera_CheckView_r6)
  .ret) .skip))
  (.seq (.seq (.reg camera_CheckView_r7)
  (.cond (.tmp (79 : Nat)) (.seq (.reg camera_CheckView_r8)
  .ret) .skip))
  (.seq (.seq (.reg camera_CheckView_r9)
  (.block 0 (.loop (.seq (.reg camera_CheckView_r10)
  (.seq (.cond (.tmp (84 : Nat)) .skip (.exit 0))
  (.seq (.block 1 (.seq (.reg camera_CheckView_r11)
  (.seq (.reg camera_CheckView_r12)
  (.cond (.tmp (92 : Nat)) (.seq (.reg camera_CheckView_r13)
  .ret) .skip))))
  (.reg camera_CheckView_r14)))))))
  (.seq (.reg camera_CheckView_r15)
  .ret))))))), [.tmp 2]⟩
theorem camera_CheckView_s : slimF Try.prog 44 = some camera_CheckView_c := by kernel_rfl
abbrev camera_CheckView_f : Nat := 44
/-- printworks/camera.window -/
def camera_window_r0 : List SO := [⟨(some 8), .assign (.const (.int .i64 0)), none⟩,
  ⟨(some 9), .assign (.const (.int .i64 0)), none⟩]
def camera_window_r1 : List SO := [⟨(some 12), .move (.tmp (2 : Nat)), none⟩,
  ⟨(some 13), .move (.tmp (3 : Nat)), none⟩,
  ⟨(some 14), .binOp .sub 3 (.tmp (12 : Nat)) (.tmp (13 : Nat)) 3, none⟩,
  ⟨(some 15), .call ⟨(.builtin .max), #[(.const (.int .i64 0)), (.tmp (14 : Nat))], #[3, 3]⟩, none⟩,
  ⟨(some 10), .assign (.tmp (15 : Nat)), none⟩]
def camera_window_r2 : List SO := [⟨(some 16), .move (.tmp (10 : Nat)), none⟩,
  ⟨(some 17), .move (.tmp (0 : Nat)), none⟩,
  ⟨(some 18), .nilCheck (.tmp (17 : Nat)), none⟩,
  ⟨(some 19), .fieldAddr 30 (.tmp (18 : Nat)) 1, none⟩,
  ⟨(some 20), .load 3 (.tmp (19 : Nat)), none⟩,
  ⟨(some 21), .binOp .sub 3 (.tmp (20 : Nat)) (.const (.int .i64 1)) 3, none⟩,
  ⟨(some 22), .move (.tmp (2 : Nat)), none⟩,
  ⟨(some 23), .move (.tmp (3 : Nat)), none⟩,
  ⟨(some 24), .binOp .add 3 (.tmp (22 : Nat)) (.tmp (23 : Nat)) 3, none⟩,
  ⟨(some 25), .call ⟨(.builtin .min), #[(.tmp (21 : Nat)), (.tmp (24 : Nat))], #[3, 3]⟩, none⟩,
  ⟨(some 26), .binOp .leq 3 (.tmp (16 : Nat)) (.tmp (25 : Nat)) 3, none⟩]
def camera_window_r3 : List SO := [⟨(some 29), .move (.tmp (1 : Nat)), none⟩,
  ⟨(some 30), .move (.tmp (3 : Nat)), none⟩,
  ⟨(some 31), .binOp .sub 3 (.tmp (29 : Nat)) (.tmp (30 : Nat)) 3, none⟩,
  ⟨(some 32), .call ⟨(.builtin .max), #[(.const (.int .i64 0)), (.tmp (31 : Nat))], #[3, 3]⟩, none⟩,
  ⟨(some 11), .assign (.tmp (32 : Nat)), none⟩]
def camera_window_r4 : List SO := [⟨(some 33), .move (.tmp (11 : Nat)), none⟩,
  ⟨(some 34), .move (.tmp (0 : Nat)), none⟩,
  ⟨(some 35), .nilCheck (.tmp (34 : Nat)), none⟩,
  ⟨(some 36), .fieldAddr 30 (.tmp (35 : Nat)) 0, none⟩,
  ⟨(some 37), .load 3 (.tmp (36 : Nat)), none⟩,
  ⟨(some 38), .binOp .sub 3 (.tmp (37 : Nat)) (.const (.int .i64 1)) 3, none⟩,
  ⟨(some 39), .move (.tmp (1 : Nat)), none⟩,
  ⟨(some 40), .move (.tmp (3 : Nat)), none⟩,
  ⟨(some 41), .binOp .add 3 (.tmp (39 : Nat)) (.tmp (40 : Nat)) 3, none⟩,
  ⟨(some 42), .call ⟨(.builtin .min), #[(.tmp (38 : Nat)), (.tmp (41 : Nat))], #[3, 3]⟩, none⟩,
  ⟨(some 43), .binOp .leq 3 (.tmp (33 : Nat)) (.tmp (42 : Nat)) 3, none⟩]
def camera_window_r5 : List SO := [⟨(some 46), .move (.tmp (8 : Nat)), none⟩,
  ⟨(some 47), .move (.tmp (0 : Nat)), none⟩,
  ⟨(some 48), .nilCheck (.tmp (47 : Nat)), none⟩,
  ⟨(some 49), .fieldAddr 30 (.tmp (48 : Nat)) 2, none⟩,
  ⟨(some 50), .load 22 (.tmp (49 : Nat)), none⟩,
  ⟨(some 51), .move (.tmp (10 : Nat)), none⟩,
  ⟨(some 52), .move (.tmp (0 : Nat)), none⟩,
  ⟨(some 53), .nilCheck (.tmp (52 : Nat)), none⟩,
  ⟨(some 54), .fieldAddr 30 (.tmp (53 : Nat)) 0, none⟩,
  ⟨(some 55), .load 3 (.tmp (54 : Nat)), none⟩,
  ⟨(some 56), .binOp .mul 3 (.tmp (51 : Nat)) (.tmp (55 : Nat)) 3, none⟩,
  ⟨(some 57), .move (.tmp (11 : Nat)), none⟩,
  ⟨(some 58), .binOp .add 3 (.tmp (56 : Nat)) (.tmp (57 : Nat)) 3, none⟩,
  ⟨(some 59), .indexAddr 22 (.tmp (50 : Nat)) (.tmp (58 : Nat)), none⟩,
  ⟨(some 60), .load 5 (.tmp (59 : Nat)), none⟩,
  ⟨(some 61), .convert 5 3 (.tmp (60 : Nat)), none⟩,
  ⟨(some 62), .binOp .add 3 (.tmp (46 : Nat)) (.tmp (61 : Nat)) 3, none⟩,
  ⟨(some 8), .assign (.tmp (62 : Nat)), none⟩]
def camera_window_a5 : List (List Nat) := [[], [], [1], [2], [3], [], [], [6], [7], [8], [5, 9], [], [10, 11], [4, 12], [13], [14], [0, 15], [16, 0, 1, 2, 3, 4, 5, 6, 7, 8, 9, 10, 11, 12, 13, 14, 15, 16]]
def camera_window_r6 : List SO := [⟨(some 63), .move (.tmp (9 : Nat)), none⟩,
  ⟨(some 64), .binOp .add 3 (.tmp (63 : Nat)) (.const (.int .i64 1)) 3, none⟩,
  ⟨(some 9), .assign (.tmp (64 : Nat)), none⟩]
def camera_window_r7 : List SO := [⟨(some 44), .move (.tmp (11 : Nat)), none⟩,
  ⟨(some 45), .binOp .add 3 (.tmp (44 : Nat)) (.const (.int .i64 1)) 3, none⟩,
  ⟨(some 11), .assign (.tmp (45 : Nat)), none⟩]
def camera_window_r8 : List SO := [⟨(some 27), .move (.tmp (10 : Nat)), none⟩,
  ⟨(some 28), .binOp .add 3 (.tmp (27 : Nat)) (.const (.int .i64 1)) 3, none⟩,
  ⟨(some 10), .assign (.tmp (28 : Nat)), none⟩]
def camera_window_r9 : List SO := [⟨(some 65), .move (.tmp (8 : Nat)), none⟩,
  ⟨(some 66), .move (.tmp (9 : Nat)), none⟩,
  ⟨(some 8), .assign (.tmp (65 : Nat)), none⟩,
  ⟨(some 9), .assign (.tmp (66 : Nat)), none⟩]
def camera_window_c : SF := ⟨67, (.seq (.reg camera_window_r0)
  (.seq (.seq (.reg camera_window_r1)
  (.block 0 (.loop (.seq (.seq (.reg camera_window_r2)
  (.cond (.tmp (26 : Nat)) .skip (.exit 0)))
  (.seq (.block 1 (.seq (.reg camera_window_r3)
  (.block 2 (.loop (.seq (.seq (.reg camera_window_r4)
  (.cond (.tmp (43 : Nat)) .skip (.exit 2)))
  (.seq (.block 3 (.seq (.regd camera_window_r5 camera_window_a5)
  (.reg camera_window_r6)))
  (.reg camera_window_r7)))))))
  (.reg camera_window_r8))))))
  (.seq (.reg camera_window_r9)
  .ret))), [.tmp 8, .tmp 9]⟩
theorem camera_window_s : slimF Try.prog 47 = some camera_window_c := by kernel_rfl
abbrev camera_window_f : Nat := 47
/-- printworks/camera.Check -/
def camera_Check_r0 : List SO := [⟨(some 1), .box 30 (.tmp (0 : Nat)), none⟩,
  ⟨(some 2), .assign (.const (.int .i64 0)), none⟩]
def camera_Check_r1 : List SO := [⟨(some 3), .fieldAddr 30 (.tmp (1 : Nat)) 0, none⟩,
  ⟨(some 4), .load 3 (.tmp (3 : Nat)), none⟩,
  ⟨(some 5), .binOp .lss 3 (.tmp (4 : Nat)) (.const (.int .i64 1)) 3, none⟩,
  ⟨(some 6), .move (.tmp (5 : Nat)), none⟩,
  ⟨(some 7), .fieldAddr 30 (.tmp (1 : Nat)) 0, (some (6, false))⟩,
  ⟨(some 8), .load 3 (.tmp (7 : Nat)), (some (6, false))⟩,
  ⟨(some 9), .binOp .gtr 3 (.tmp (8 : Nat)) (.const (.int .i64 1024)) 3, (some (6, false))⟩,
  ⟨(some 10), .pick (.tmp (6 : Nat)) (.const (.bool true)) (.tmp (9 : Nat)), none⟩,
  ⟨(some 11), .move (.tmp (10 : Nat)), none⟩,
  ⟨(some 12), .fieldAddr 30 (.tmp (1 : Nat)) 1, (some (11, false))⟩,
  ⟨(some 13), .load 3 (.tmp (12 : Nat)), (some (11, false))⟩,
  ⟨(some 14), .binOp .lss 3 (.tmp (13 : Nat)) (.const (.int .i64 1)) 3, (some (11, false))⟩,
  ⟨(some 15), .pick (.tmp (11 : Nat)) (.const (.bool true)) (.tmp (14 : Nat)), none⟩,
  ⟨(some 16), .move (.tmp (15 : Nat)), none⟩,
  ⟨(some 17), .fieldAddr 30 (.tmp (1 : Nat)) 1, (some (16, false))⟩,
  ⟨(some 18), .load 3 (.tmp (17 : Nat)), (some (16, false))⟩,
  ⟨(some 19), .binOp .gtr 3 (.tmp (18 : Nat)) (.const (.int .i64 1024)) 3, (some (16, false))⟩,
  ⟨(some 20), .pick (.tmp (16 : Nat)) (.const (.bool true)) (.tmp (19 : Nat)), none⟩]
def camera_Check_r2 : List SO := [⟨(some 2), .assign (.const (.int .i64 3)), none⟩]
def camera_Check_r3 : List SO := [⟨(some 21), .fieldAddr 30 (.tmp (1 : Nat)) 2, none⟩,
  ⟨(some 22), .load 22 (.tmp (21 : Nat)), none⟩,
  ⟨(some 23), .call ⟨(.builtin .len), #[(.tmp (22 : Nat))], #[22]⟩, none⟩,
  ⟨(some 24), .fieldAddr 30 (.tmp (1 : Nat)) 0, none⟩,
  ⟨(some 25), .load 3 (.tmp (24 : Nat)), none⟩,
  ⟨(some 26), .fieldAddr 30 (.tmp (1 : Nat)) 1, none⟩,
  ⟨(some 27), .load 3 (.tmp (26 : Nat)), none⟩,
  ⟨(some 28), .binOp .mul 3 (.tmp (25 : Nat)) (.tmp (27 : Nat)) 3, none⟩,
  ⟨(some 29), .binOp .neq 3 (.tmp (23 : Nat)) (.tmp (28 : Nat)) 3, none⟩]
def camera_Check_r4 : List SO := [⟨(some 2), .assign (.const (.int .i64 4)), none⟩]
def camera_Check_r5 : List SO := [⟨(some 2), .assign (.const (.int .i64 0)), none⟩]
def camera_Check_c : SF := ⟨30, (.seq (.reg camera_Check_r0)
  (.seq (.seq (.reg camera_Check_r1)
  (.cond (.tmp (20 : Nat)) (.seq (.reg camera_Check_r2)
  .ret) .skip))
  (.seq (.seq (.reg camera_Check_r3)
  (.cond (.tmp (29 : Nat)) (.seq (.reg camera_Check_r4)
  .ret) .skip))
  (.seq (.reg camera_Check_r5)
  .ret)))), [.tmp 2]⟩
theorem camera_Check_s : slimF Try.prog 50 = some camera_Check_c := by kernel_rfl
abbrev camera_Check_f : Nat := 50
/-- printworks/camera.split -/
def camera_split_r0 : List SO := [⟨(some 2), .alloc 24, none⟩]
def camera_split_r1 : List SO := [⟨(some 10), .move (.tmp (0 : Nat)), none⟩,
  ⟨(some 11), .nilCheck (.tmp (10 : Nat)), none⟩,
  ⟨(some 12), .fieldAddr 30 (.tmp (11 : Nat)) 2, none⟩,
  ⟨(some 13), .load 22 (.tmp (12 : Nat)), none⟩,
  ⟨(some 14), .indexAddr 22 (.tmp (13 : Nat)) (.const (.int .i64 0)), none⟩,
  ⟨(some 15), .load 5 (.tmp (14 : Nat)), none⟩,
  ⟨(some 16), .move (.tmp (0 : Nat)), none⟩,
  ⟨(some 17), .nilCheck (.tmp (16 : Nat)), none⟩,
  ⟨(some 18), .fieldAddr 30 (.tmp (17 : Nat)) 2, none⟩,
  ⟨(some 19), .load 22 (.tmp (18 : Nat)), none⟩,
  ⟨(some 20), .indexAddr 22 (.tmp (19 : Nat)) (.const (.int .i64 0)), none⟩,
  ⟨(some 21), .load 5 (.tmp (20 : Nat)), none⟩,
  ⟨(some 3), .assign (.tmp (15 : Nat)), none⟩,
  ⟨(some 4), .assign (.tmp (21 : Nat)), none⟩]
def camera_split_a1 : List (List Nat) := [[], [0], [1], [2], [3], [4], [], [6], [7], [8], [9], [10], [5, 0, 1, 2, 3, 4, 5], [11, 12, 0, 1, 2, 3, 4, 5, 6, 7, 8, 9, 10, 11, 12]]
def camera_split_r2 : List SO := [⟨(some 22), .move (.tmp (0 : Nat)), none⟩,
  ⟨(some 23), .nilCheck (.tmp (22 : Nat)), none⟩,
  ⟨(some 24), .fieldAddr 30 (.tmp (23 : Nat)) 2, none⟩,
  ⟨(some 25), .load 22 (.tmp (24 : Nat)), none⟩,
  ⟨(some 26), .call ⟨(.builtin .len), #[(.tmp (25 : Nat))], #[22]⟩, none⟩,
  ⟨(some 27), .move (.const (.int .i64 0)), none⟩]
def camera_split_r3 : List SO := [⟨(some 28), .binOp .lss 3 (.tmp (27 : Nat)) (.tmp (26 : Nat)) 3, none⟩]
def camera_split_r4 : List SO := [⟨(some 29), .indexAddr 22 (.tmp (25 : Nat)) (.tmp (27 : Nat)), none⟩,
  ⟨(some 30), .load 5 (.tmp (29 : Nat)), none⟩,
  ⟨(some 6), .assign (.tmp (30 : Nat)), none⟩]
def camera_split_r5 : List SO := [⟨(some 31), .move (.tmp (3 : Nat)), none⟩,
  ⟨(some 32), .move (.tmp (6 : Nat)), none⟩,
  ⟨(some 33), .call ⟨(.builtin .min), #[(.tmp (31 : Nat)), (.tmp (32 : Nat))], #[5, 5]⟩, none⟩,
  ⟨(some 34), .move (.tmp (4 : Nat)), none⟩,
  ⟨(some 35), .move (.tmp (6 : Nat)), none⟩,
  ⟨(some 36), .call ⟨(.builtin .max), #[(.tmp (34 : Nat)), (.tmp (35 : Nat))], #[5, 5]⟩, none⟩,
  ⟨(some 3), .assign (.tmp (33 : Nat)), none⟩,
  ⟨(some 4), .assign (.tmp (36 : Nat)), none⟩]
def camera_split_r6 : List SO := [⟨(some 37), .binOp .add 3 (.tmp (27 : Nat)) (.const (.int .i64 1)) 3, none⟩,
  ⟨(some 27), .move (.tmp (37 : Nat)), none⟩]
def camera_split_r7 : List SO := [⟨(some 38), .move (.tmp (0 : Nat)), none⟩,
  ⟨(some 39), .nilCheck (.tmp (38 : Nat)), none⟩,
  ⟨(some 40), .fieldAddr 30 (.tmp (39 : Nat)) 0, none⟩,
  ⟨(some 41), .load 3 (.tmp (40 : Nat)), none⟩,
  ⟨(some 42), .move (.tmp (0 : Nat)), none⟩,
  ⟨(some 43), .nilCheck (.tmp (42 : Nat)), none⟩,
  ⟨(some 44), .fieldAddr 30 (.tmp (43 : Nat)) 1, none⟩,
  ⟨(some 45), .load 3 (.tmp (44 : Nat)), none⟩,
  ⟨(some 46), .call ⟨(.value (.func (56 : Nat))), #[(.tmp (41 : Nat)), (.tmp (45 : Nat))], #[3, 3]⟩, none⟩,
  ⟨(some 7), .alloc 24, none⟩,
  ⟨none, .store 24 (.tmp (7 : Nat)) (.tmp (46 : Nat)), none⟩]
def camera_split_a7 : List (List Nat) := [[], [0], [1], [2], [], [4], [5], [6], [3, 7], [], [9, 8, 8, 0, 1, 2, 3, 4, 5, 6, 7, 8, 9]]
def camera_split_r8 : List SO := [⟨(some 47), .move (.tmp (0 : Nat)), none⟩,
  ⟨(some 48), .nilCheck (.tmp (47 : Nat)), none⟩,
  ⟨(some 49), .fieldAddr 30 (.tmp (48 : Nat)) 2, none⟩,
  ⟨(some 50), .load 22 (.tmp (49 : Nat)), none⟩,
  ⟨(some 51), .call ⟨(.builtin .len), #[(.tmp (50 : Nat))], #[22]⟩, none⟩,
  ⟨(some 52), .move (.const (.int .i64 0)), none⟩]
def camera_split_r9 : List SO := [⟨(some 53), .binOp .lss 3 (.tmp (52 : Nat)) (.tmp (51 : Nat)) 3, none⟩]
def camera_split_r10 : List SO := [⟨(some 54), .move (.tmp (52 : Nat)), none⟩,
  ⟨(some 55), .indexAddr 22 (.tmp (50 : Nat)) (.tmp (52 : Nat)), none⟩,
  ⟨(some 56), .load 5 (.tmp (55 : Nat)), none⟩,
  ⟨(some 8), .assign (.tmp (54 : Nat)), none⟩,
  ⟨(some 9), .assign (.tmp (56 : Nat)), none⟩]
def camera_split_r11 : List SO := [⟨(some 57), .move (.tmp (9 : Nat)), none⟩,
  ⟨(some 58), .convert 5 3 (.tmp (57 : Nat)), none⟩,
  ⟨(some 59), .binOp .mul 3 (.const (.int .i64 2)) (.tmp (58 : Nat)) 3, none⟩,
  ⟨(some 60), .move (.tmp (3 : Nat)), none⟩,
  ⟨(some 61), .convert 5 3 (.tmp (60 : Nat)), none⟩,
  ⟨(some 62), .move (.tmp (4 : Nat)), none⟩,
  ⟨(some 63), .convert 5 3 (.tmp (62 : Nat)), none⟩,
  ⟨(some 64), .binOp .add 3 (.tmp (61 : Nat)) (.tmp (63 : Nat)) 3, none⟩,
  ⟨(some 65), .binOp .lss 3 (.tmp (59 : Nat)) (.tmp (64 : Nat)) 3, none⟩]
def camera_split_r12 : List SO := [⟨(some 66), .move (.tmp (8 : Nat)), none⟩,
  ⟨(some 67), .move (.tmp (0 : Nat)), none⟩,
  ⟨(some 68), .nilCheck (.tmp (67 : Nat)), none⟩,
  ⟨(some 69), .fieldAddr 30 (.tmp (68 : Nat)) 0, none⟩,
  ⟨(some 70), .load 3 (.tmp (69 : Nat)), none⟩,
  ⟨(some 71), .binOp .rem 3 (.tmp (66 : Nat)) (.tmp (70 : Nat)) 3, none⟩,
  ⟨(some 72), .move (.tmp (8 : Nat)), none⟩,
  ⟨(some 73), .move (.tmp (0 : Nat)), none⟩,
  ⟨(some 74), .nilCheck (.tmp (73 : Nat)), none⟩,
  ⟨(some 75), .fieldAddr 30 (.tmp (74 : Nat)) 0, none⟩,
  ⟨(some 76), .load 3 (.tmp (75 : Nat)), none⟩,
  ⟨(some 77), .binOp .quo 3 (.tmp (72 : Nat)) (.tmp (76 : Nat)) 3, none⟩,
  ⟨(some 78), .call ⟨(.value (.func (92 : Nat))), #[(.tmp (7 : Nat)), (.tmp (71 : Nat)), (.tmp (77 : Nat))], #[91, 3, 3]⟩, none⟩]
def camera_split_a12 : List (List Nat) := [[], [], [1], [2], [3], [0, 4], [], [], [7], [8], [9], [6, 10], [5, 11]]
def camera_split_r13 : List SO := [⟨(some 79), .binOp .add 3 (.tmp (52 : Nat)) (.const (.int .i64 1)) 3, none⟩,
  ⟨(some 52), .move (.tmp (79 : Nat)), none⟩]
def camera_split_r14 : List SO := [⟨(some 80), .load 24 (.tmp (7 : Nat)), none⟩,
  ⟨none, .store 24 (.tmp (2 : Nat)) (.tmp (80 : Nat)), none⟩]
def camera_split_c : SF := ⟨81, (.seq (.reg camera_split_r0)
  (.seq (.regd camera_split_r1 camera_split_a1)
  (.seq (.seq (.reg camera_split_r2)
  (.block 0 (.loop (.seq (.reg camera_split_r3)
  (.seq (.cond (.tmp (28 : Nat)) .skip (.exit 0))
  (.seq (.block 1 (.seq (.reg camera_split_r4)
  (.reg camera_split_r5)))
  (.reg camera_split_r6)))))))
  (.seq (.regd camera_split_r7 camera_split_a7)
  (.seq (.seq (.reg camera_split_r8)
  (.block 2 (.loop (.seq (.reg camera_split_r9)
  (.seq (.cond (.tmp (53 : Nat)) .skip (.exit 2))
  (.seq (.block 3 (.seq (.reg camera_split_r10)
  (.seq (.reg camera_split_r11)
  (.cond (.tmp (65 : Nat)) (.regd camera_split_r12 camera_split_a12) .skip))))
  (.reg camera_split_r13)))))))
  (.seq (.reg camera_split_r14)
  .ret)))))), [.cell 2 24]⟩
theorem camera_split_s : slimF Try.prog 51 = some camera_split_c := by kernel_rfl
abbrev camera_split_f : Nat := 51
/-- printworks/camera.rows -/
def camera_rows_r0 : List SO := [⟨(some 2), .assign (.const (.string ⟨([] : List UInt8).toArray⟩)), none⟩,
  ⟨(some 3), .assign (.const (.int .i64 0)), none⟩]
def camera_rows_r1 : List SO := [⟨(some 4), .assign (.const (.string ⟨([] : List UInt8).toArray⟩)), none⟩]
def camera_rows_r2 : List SO := [⟨(some 8), .move (.tmp (0 : Nat)), none⟩,
  ⟨(some 9), .nilCheck (.tmp (8 : Nat)), none⟩,
  ⟨(some 10), .fieldAddr 24 (.tmp (9 : Nat)) 1, none⟩,
  ⟨(some 11), .load 3 (.tmp (10 : Nat)), none⟩,
  ⟨(some 12), .move (.const (.int .i64 0)), none⟩]
def camera_rows_r3 : List SO := [⟨(some 13), .binOp .lss 3 (.tmp (12 : Nat)) (.tmp (11 : Nat)) 3, none⟩]
def camera_rows_r4 : List SO := [⟨(some 14), .move (.tmp (12 : Nat)), none⟩,
  ⟨(some 5), .assign (.tmp (14 : Nat)), none⟩]
def camera_rows_r5 : List SO := [⟨(some 16), .move (.tmp (0 : Nat)), none⟩,
  ⟨(some 17), .move (.tmp (5 : Nat)), none⟩,
  ⟨(some 18), .call ⟨(.value (.func (127 : Nat))), #[(.tmp (16 : Nat)), (.tmp (17 : Nat))], #[91, 3]⟩, none⟩,
  ⟨(some 19), .call ⟨(.value (.func (126 : Nat))), #[(.tmp (18 : Nat))], #[25]⟩, none⟩,
  ⟨(some 15), .move (.tmp (19 : Nat)), none⟩,
  ⟨(some 20), .extract (.tmp (15 : Nat)) 0, none⟩,
  ⟨(some 21), .extract (.tmp (15 : Nat)) 1, none⟩,
  ⟨(some 6), .assign (.tmp (20 : Nat)), none⟩,
  ⟨(some 7), .assign (.tmp (21 : Nat)), none⟩]
def camera_rows_r6 : List SO := [⟨(some 24), .move (.tmp (7 : Nat)), none⟩,
  ⟨(some 25), .binOp .neq 31 (.tmp (24 : Nat)) (.const (.int .i64 0)) 31, none⟩,
  ⟨(some 26), .move (.tmp (25 : Nat)), none⟩,
  ⟨(some 27), .move (.tmp (6 : Nat)), (some (26, false))⟩,
  ⟨(some 28), .move (.tmp (4 : Nat)), (some (26, false))⟩,
  ⟨(some 29), .binOp .eql 9 (.tmp (27 : Nat)) (.tmp (28 : Nat)) 9, (some (26, false))⟩,
  ⟨(some 30), .pick (.tmp (26 : Nat)) (.const (.bool true)) (.tmp (29 : Nat)), none⟩,
  ⟨(some 23), .assign (.tmp (30 : Nat)), none⟩]
def camera_rows_r7 : List SO := [⟨(some 32), .move (.tmp (4 : Nat)), none⟩,
  ⟨(some 33), .binOp .neq 9 (.tmp (32 : Nat)) (.const (.string ⟨([] : List UInt8).toArray⟩)) 9, none⟩,
  ⟨(some 31), .assign (.tmp (33 : Nat)), none⟩]
def camera_rows_r8 : List SO := [⟨(some 2), .assign (.const (.string ⟨([] : List UInt8).toArray⟩)), none⟩,
  ⟨(some 3), .assign (.const (.int .i64 20)), none⟩]
def camera_rows_r9 : List SO := [⟨(some 22), .move (.tmp (6 : Nat)), none⟩,
  ⟨(some 4), .assign (.tmp (22 : Nat)), none⟩]
def camera_rows_r10 : List SO := [⟨(some 34), .binOp .add 3 (.tmp (12 : Nat)) (.const (.int .i64 1)) 3, none⟩,
  ⟨(some 12), .move (.tmp (34 : Nat)), none⟩]
def camera_rows_r11 : List SO := [⟨(some 35), .move (.tmp (4 : Nat)), none⟩,
  ⟨(some 36), .binOp .eql 9 (.tmp (35 : Nat)) (.const (.string ⟨([] : List UInt8).toArray⟩)) 9, none⟩]
def camera_rows_r12 : List SO := [⟨(some 2), .assign (.const (.string ⟨([] : List UInt8).toArray⟩)), none⟩,
  ⟨(some 3), .assign (.const (.int .i64 8)), none⟩]
def camera_rows_r13 : List SO := [⟨(some 37), .move (.tmp (4 : Nat)), none⟩,
  ⟨(some 2), .assign (.tmp (37 : Nat)), none⟩,
  ⟨(some 3), .assign (.const (.int .i64 0)), none⟩]
def camera_rows_c : SF := ⟨38, (.seq (.reg camera_rows_r0)
  (.seq (.reg camera_rows_r1)
  (.seq (.seq (.reg camera_rows_r2)
  (.block 0 (.loop (.seq (.reg camera_rows_r3)
  (.seq (.cond (.tmp (13 : Nat)) .skip (.exit 0))
  (.seq (.block 1 (.seq (.reg camera_rows_r4)
  (.seq (.reg camera_rows_r5)
  (.block 2 (.seq (.reg camera_rows_r6)
  (.cond (.tmp (23 : Nat)) .skip (.seq (.reg camera_rows_r7)
  (.cond (.tmp (31 : Nat)) (.seq (.reg camera_rows_r8)
  .ret) (.reg camera_rows_r9)))))))))
  (.reg camera_rows_r10)))))))
  (.seq (.seq (.reg camera_rows_r11)
  (.cond (.tmp (36 : Nat)) (.seq (.reg camera_rows_r12)
  .ret) .skip))
  (.seq (.reg camera_rows_r13)
  .ret))))), [.tmp 2, .tmp 3]⟩
theorem camera_rows_s : slimF Try.prog 89 = some camera_rows_c := by kernel_rfl
abbrev camera_rows_f : Nat := 89

end Go.Proofs.Ytjedljdfkoagbaa
namespace Go.Proofs.Ytjedljdfkoagbaa
open Go Go.Lite
set_option linter.unusedVariables false

/-- printworks/linear.Row -/
def linear_Row_r0 : List SO := [⟨(some 4), .assign (.const (.slice none 0 0)), none⟩]
def linear_Row_r1 : List SO := [⟨(some 5), .alloc 25, none⟩]
def linear_Row_r2 : List SO := [⟨(some 6), .alloc 3, none⟩,
  ⟨none, .store 3 (.tmp (6 : Nat)) (.const (.int .i64 (-1))), none⟩]
def linear_Row_r3 : List SO := [⟨(some 8), .move (.tmp (0 : Nat)), none⟩,
  ⟨(some 9), .move (.tmp (1 : Nat)), none⟩,
  ⟨(some 10), .call ⟨(.value (.func (147 : Nat))), #[(.tmp (8 : Nat)), (.tmp (9 : Nat))], #[91, 3]⟩, none⟩]
def linear_Row_r4 : List SO := [⟨(some 7), .alloc 226, none⟩,
  ⟨none, .store 226 (.tmp (7 : Nat)) (.tmp (11 : Nat)), none⟩]
def linear_Row_r5 : List SO := [⟨(some 12), .load 3 (.tmp (6 : Nat)), none⟩,
  ⟨(some 13), .binOp .geq 3 (.tmp (12 : Nat)) (.const (.int .i64 0)) 3, none⟩]
def linear_Row_r6 : List SO := [⟨(some 14), .load 25 (.tmp (5 : Nat)), none⟩,
  ⟨(some 15), .fieldAddr 226 (.tmp (7 : Nat)) 1, none⟩,
  ⟨(some 16), .load 3 (.tmp (15 : Nat)), none⟩,
  ⟨(some 17), .load 3 (.tmp (6 : Nat)), none⟩,
  ⟨(some 18), .binOp .sub 3 (.tmp (16 : Nat)) (.tmp (17 : Nat)) 3, none⟩,
  ⟨(some 19), .buildSlice 25 1 #[(0, (.tmp (18 : Nat)))], none⟩,
  ⟨(some 20), .call ⟨(.builtin .append), #[(.tmp (14 : Nat)), (.tmp (19 : Nat))], #[25, 25]⟩, none⟩,
  ⟨none, .store 25 (.tmp (5 : Nat)) (.tmp (20 : Nat)), none⟩]
def linear_Row_r7 : List SO := [⟨(some 21), .load 25 (.tmp (5 : Nat)), none⟩,
  ⟨(some 22), .fieldAddr 226 (.tmp (7 : Nat)) 2, none⟩,
  ⟨(some 23), .load 3 (.tmp (22 : Nat)), none⟩,
  ⟨(some 24), .fieldAddr 226 (.tmp (7 : Nat)) 1, none⟩,
  ⟨(some 25), .load 3 (.tmp (24 : Nat)), none⟩,
  ⟨(some 26), .binOp .sub 3 (.tmp (23 : Nat)) (.tmp (25 : Nat)) 3, none⟩,
  ⟨(some 27), .buildSlice 25 1 #[(0, (.tmp (26 : Nat)))], none⟩,
  ⟨(some 28), .call ⟨(.builtin .append), #[(.tmp (21 : Nat)), (.tmp (27 : Nat))], #[25, 25]⟩, none⟩,
  ⟨none, .store 25 (.tmp (5 : Nat)) (.tmp (28 : Nat)), none⟩]
def linear_Row_r8 : List SO := [⟨(some 29), .fieldAddr 226 (.tmp (7 : Nat)) 2, none⟩,
  ⟨(some 30), .load 3 (.tmp (29 : Nat)), none⟩,
  ⟨none, .store 3 (.tmp (6 : Nat)) (.tmp (30 : Nat)), none⟩]
def linear_Row_r9 : List SO := [⟨(some 31), .load 25 (.tmp (5 : Nat)), none⟩,
  ⟨(some 4), .assign (.tmp (31 : Nat)), none⟩]
def linear_Row_c : SF := ⟨32, (.seq (.reg linear_Row_r0)
  (.seq (.reg linear_Row_r1)
  (.seq (.reg linear_Row_r2)
  (.seq (.seq (.reg linear_Row_r3)
  (.block 0 (.rf (.tmp (10 : Nat)) [11] (.reg linear_Row_r4) (.block 1 (.seq (.seq (.reg linear_Row_r5)
  (.cond (.tmp (13 : Nat)) (.reg linear_Row_r6) .skip))
  (.seq (.reg linear_Row_r7)
  (.reg linear_Row_r8)))))))
  (.seq (.reg linear_Row_r9)
  .ret))))), [.tmp 4]⟩
theorem linear_Row_s : slimF Try.prog 127 = some linear_Row_c := by kernel_rfl
abbrev linear_Row_f : Nat := 127
/-- printworks/linear.Decode -/
def linear_Decode_r0 : List SO := [⟨(some 2), .assign (.const (.string ⟨([] : List UInt8).toArray⟩)), none⟩,
  ⟨(some 3), .assign (.const (.int .i64 0)), none⟩]
def linear_Decode_r1 : List SO := [⟨(some 14), .move (.tmp (0 : Nat)), none⟩,
  ⟨(some 15), .call ⟨(.builtin .len), #[(.tmp (14 : Nat))], #[25]⟩, none⟩,
  ⟨(some 4), .assign (.tmp (15 : Nat)), none⟩]
def linear_Decode_r2 : List SO := [⟨(some 16), .move (.tmp (4 : Nat)), none⟩,
  ⟨(some 17), .binOp .gtr 3 (.tmp (16 : Nat)) (.const (.int .i64 85)) 3, none⟩]
def linear_Decode_r3 : List SO := [⟨(some 2), .assign (.const (.string ⟨([] : List UInt8).toArray⟩)), none⟩,
  ⟨(some 3), .assign (.const (.int .i64 2)), none⟩]
def linear_Decode_r4 : List SO := [⟨(some 18), .move (.tmp (4 : Nat)), none⟩,
  ⟨(some 19), .binOp .lss 3 (.tmp (18 : Nat)) (.const (.int .i64 25)) 3, none⟩]
def linear_Decode_r5 : List SO := [⟨(some 2), .assign (.const (.string ⟨([] : List UInt8).toArray⟩)), none⟩,
  ⟨(some 3), .assign (.const (.int .i64 12)), none⟩]
def linear_Decode_r6 : List SO := [⟨(some 20), .move (.tmp (4 : Nat)), none⟩,
  ⟨(some 21), .binOp .rem 3 (.tmp (20 : Nat)) (.const (.int .i64 6)) 3, none⟩,
  ⟨(some 22), .binOp .neq 3 (.tmp (21 : Nat)) (.const (.int .i64 1)) 3, none⟩]
def linear_Decode_r7 : List SO := [⟨(some 2), .assign (.const (.string ⟨([] : List UInt8).toArray⟩)), none⟩,
  ⟨(some 3), .assign (.const (.int .i64 4)), none⟩]
def linear_Decode_r8 : List SO := [⟨(some 23), .move (.tmp (0 : Nat)), none⟩,
  ⟨(some 24), .call ⟨(.builtin .len), #[(.tmp (23 : Nat))], #[25]⟩, none⟩,
  ⟨(some 25), .move (.const (.int .i64 0)), none⟩]
def linear_Decode_r9 : List SO := [⟨(some 26), .binOp .lss 3 (.tmp (25 : Nat)) (.tmp (24 : Nat)) 3, none⟩]
def linear_Decode_r10 : List SO := [⟨(some 27), .indexAddr 25 (.tmp (23 : Nat)) (.tmp (25 : Nat)), none⟩,
  ⟨(some 28), .load 3 (.tmp (27 : Nat)), none⟩,
  ⟨(some 6), .assign (.tmp (28 : Nat)), none⟩]
def linear_Decode_r11 : List SO := [⟨(some 29), .move (.tmp (6 : Nat)), none⟩,
  ⟨(some 30), .binOp .lss 3 (.tmp (29 : Nat)) (.const (.int .i64 1)) 3, none⟩,
  ⟨(some 31), .move (.tmp (30 : Nat)), none⟩,
  ⟨(some 32), .move (.tmp (6 : Nat)), (some (31, false))⟩,
  ⟨(some 33), .binOp .gtr 3 (.tmp (32 : Nat)) (.const (.int .i64 1024)) 3, (some (31, false))⟩,
  ⟨(some 34), .pick (.tmp (31 : Nat)) (.const (.bool true)) (.tmp (33 : Nat)), none⟩]
def linear_Decode_r12 : List SO := [⟨(some 2), .assign (.const (.string ⟨([] : List UInt8).toArray⟩)), none⟩,
  ⟨(some 3), .assign (.const (.int .i64 3)), none⟩]
def linear_Decode_r13 : List SO := [⟨(some 35), .binOp .add 3 (.tmp (25 : Nat)) (.const (.int .i64 1)) 3, none⟩,
  ⟨(some 25), .move (.tmp (35 : Nat)), none⟩]
def linear_Decode_r14 : List SO := [⟨(some 36), .call ⟨(.value (.func (143 : Nat))), #[], #[]⟩, none⟩,
  ⟨(some 7), .assign (.tmp (36 : Nat)), none⟩]
def linear_Decode_r15 : List SO := [⟨(some 37), .move (.tmp (7 : Nat)), none⟩,
  ⟨(some 38), .move (.tmp (0 : Nat)), none⟩,
  ⟨(some 39), .call ⟨(.value (.func (144 : Nat))), #[(.tmp (37 : Nat)), (.tmp (38 : Nat))], #[218, 25]⟩, none⟩,
  ⟨(some 40), .binOp .neq 3 (.tmp (39 : Nat)) (.const (.int .i64 101)) 3, none⟩]
def linear_Decode_r16 : List SO := [⟨(some 41), .move (.tmp (4 : Nat)), none⟩,
  ⟨(some 42), .makeSlice 25 (.tmp (41 : Nat)) (.tmp (41 : Nat)), none⟩,
  ⟨(some 8), .assign (.tmp (42 : Nat)), none⟩]
def linear_Decode_r17 : List SO := [⟨(some 43), .move (.tmp (0 : Nat)), none⟩,
  ⟨(some 44), .call ⟨(.builtin .len), #[(.tmp (43 : Nat))], #[25]⟩, none⟩,
  ⟨(some 45), .move (.const (.int .i64 0)), none⟩]
def linear_Decode_r18 : List SO := [⟨(some 46), .binOp .lss 3 (.tmp (45 : Nat)) (.tmp (44 : Nat)) 3, none⟩]
def linear_Decode_r19 : List SO := [⟨(some 47), .move (.tmp (45 : Nat)), none⟩,
  ⟨(some 48), .indexAddr 25 (.tmp (43 : Nat)) (.tmp (45 : Nat)), none⟩,
  ⟨(some 49), .load 3 (.tmp (48 : Nat)), none⟩,
  ⟨(some 9), .assign (.tmp (47 : Nat)), none⟩,
  ⟨(some 10), .assign (.tmp (49 : Nat)), none⟩]
def linear_Decode_r20 : List SO := [⟨(some 50), .move (.tmp (8 : Nat)), none⟩,
  ⟨(some 51), .move (.tmp (4 : Nat)), none⟩,
  ⟨(some 52), .binOp .sub 3 (.tmp (51 : Nat)) (.const (.int .i64 1)) 3, none⟩,
  ⟨(some 53), .move (.tmp (9 : Nat)), none⟩,
  ⟨(some 54), .binOp .sub 3 (.tmp (52 : Nat)) (.tmp (53 : Nat)) 3, none⟩,
  ⟨(some 55), .move (.tmp (10 : Nat)), none⟩,
  ⟨(some 56), .indexAddr 25 (.tmp (50 : Nat)) (.tmp (54 : Nat)), none⟩,
  ⟨none, .store 3 (.tmp (56 : Nat)) (.tmp (55 : Nat)), none⟩]
def linear_Decode_r21 : List SO := [⟨(some 57), .binOp .add 3 (.tmp (45 : Nat)) (.const (.int .i64 1)) 3, none⟩,
  ⟨(some 45), .move (.tmp (57 : Nat)), none⟩]
def linear_Decode_r22 : List SO := [⟨(some 58), .move (.tmp (8 : Nat)), none⟩,
  ⟨(some 0), .assign (.tmp (58 : Nat)), none⟩]
def linear_Decode_r23 : List SO := [⟨(some 11), .assign (.const (.slice none 0 0)), none⟩]
def linear_Decode_r24 : List SO := [⟨(some 59), .move (.tmp (0 : Nat)), none⟩,
  ⟨(some 60), .call ⟨(.builtin .len), #[(.tmp (59 : Nat))], #[25]⟩, none⟩,
  ⟨(some 61), .binOp .gtr 3 (.tmp (60 : Nat)) (.const (.int .i64 1)) 3, none⟩]
def linear_Decode_r25 : List SO := [⟨(some 64), .move (.tmp (7 : Nat)), none⟩,
  ⟨(some 65), .move (.tmp (0 : Nat)), none⟩,
  ⟨(some 66), .call ⟨(.value (.func (144 : Nat))), #[(.tmp (64 : Nat)), (.tmp (65 : Nat))], #[218, 25]⟩, none⟩,
  ⟨(some 12), .assign (.tmp (66 : Nat)), none⟩]
def linear_Decode_r26 : List SO := [⟨(some 67), .move (.tmp (12 : Nat)), none⟩,
  ⟨(some 68), .binOp .lss 3 (.tmp (67 : Nat)) (.const (.int .i64 0)) 3, none⟩]
def linear_Decode_r27 : List SO := [⟨(some 2), .assign (.const (.string ⟨([] : List UInt8).toArray⟩)), none⟩,
  ⟨(some 3), .assign (.const (.int .i64 4)), none⟩]
def linear_Decode_r28 : List SO := [⟨(some 69), .move (.tmp (11 : Nat)), none⟩,
  ⟨(some 70), .move (.tmp (12 : Nat)), none⟩,
  ⟨(some 71), .buildSlice 25 1 #[(0, (.tmp (70 : Nat)))], none⟩,
  ⟨(some 72), .call ⟨(.builtin .append), #[(.tmp (69 : Nat)), (.tmp (71 : Nat))], #[25, 25]⟩, none⟩,
  ⟨(some 11), .assign (.tmp (72 : Nat)), none⟩]
def linear_Decode_r29 : List SO := [⟨(some 62), .move (.tmp (0 : Nat)), none⟩,
  ⟨(some 63), .slice 25 (.tmp (62 : Nat)) (some (.const (.int .i64 6))) none none, none⟩,
  ⟨(some 0), .assign (.tmp (63 : Nat)), none⟩]
def linear_Decode_r30 : List SO := [⟨(some 73), .move (.tmp (11 : Nat)), none⟩,
  ⟨(some 74), .indexAddr 25 (.tmp (73 : Nat)) (.const (.int .i64 0)), none⟩,
  ⟨(some 75), .load 3 (.tmp (74 : Nat)), none⟩,
  ⟨(some 76), .binOp .neq 3 (.tmp (75 : Nat)) (.const (.int .i64 101)) 3, none⟩,
  ⟨(some 77), .move (.tmp (76 : Nat)), none⟩,
  ⟨(some 78), .move (.tmp (11 : Nat)), (some (77, false))⟩,
  ⟨(some 79), .move (.tmp (11 : Nat)), (some (77, false))⟩,
  ⟨(some 80), .call ⟨(.builtin .len), #[(.tmp (79 : Nat))], #[25]⟩, (some (77, false))⟩,
  ⟨(some 81), .binOp .sub 3 (.tmp (80 : Nat)) (.const (.int .i64 1)) 3, (some (77, false))⟩,
  ⟨(some 82), .indexAddr 25 (.tmp (78 : Nat)) (.tmp (81 : Nat)), (some (77, false))⟩,
  ⟨(some 83), .load 3 (.tmp (82 : Nat)), (some (77, false))⟩,
  ⟨(some 84), .binOp .neq 3 (.tmp (83 : Nat)) (.const (.int .i64 102)) 3, (some (77, false))⟩,
  ⟨(some 85), .pick (.tmp (77 : Nat)) (.const (.bool true)) (.tmp (84 : Nat)), none⟩]
def linear_Decode_r31 : List SO := [⟨(some 2), .assign (.const (.string ⟨([] : List UInt8).toArray⟩)), none⟩,
  ⟨(some 3), .assign (.const (.int .i64 4)), none⟩]
def linear_Decode_r32 : List SO := [⟨(some 86), .move (.tmp (11 : Nat)), none⟩,
  ⟨(some 87), .move (.tmp (11 : Nat)), none⟩,
  ⟨(some 88), .call ⟨(.builtin .len), #[(.tmp (87 : Nat))], #[25]⟩, none⟩,
  ⟨(some 89), .binOp .sub 3 (.tmp (88 : Nat)) (.const (.int .i64 2)) 3, none⟩,
  ⟨(some 90), .indexAddr 25 (.tmp (86 : Nat)) (.tmp (89 : Nat)), none⟩,
  ⟨(some 91), .load 3 (.tmp (90 : Nat)), none⟩,
  ⟨(some 13), .assign (.tmp (91 : Nat)), none⟩]
def linear_Decode_r33 : List SO := [⟨(some 92), .move (.tmp (11 : Nat)), none⟩,
  ⟨(some 93), .move (.tmp (11 : Nat)), none⟩,
  ⟨(some 94), .call ⟨(.builtin .len), #[(.tmp (93 : Nat))], #[25]⟩, none⟩,
  ⟨(some 95), .binOp .sub 3 (.tmp (94 : Nat)) (.const (.int .i64 2)) 3, none⟩,
  ⟨(some 96), .slice 25 (.tmp (92 : Nat)) (some (.const (.int .i64 1))) (some (.tmp (95 : Nat))) none, none⟩,
  ⟨(some 11), .assign (.tmp (96 : Nat)), none⟩]
def linear_Decode_r34 : List SO := [⟨(some 97), .move (.tmp (11 : Nat)), none⟩,
  ⟨(some 98), .call ⟨(.value (.func (145 : Nat))), #[(.tmp (97 : Nat))], #[25]⟩, none⟩,
  ⟨(some 99), .move (.tmp (13 : Nat)), none⟩,
  ⟨(some 100), .binOp .neq 3 (.tmp (98 : Nat)) (.tmp (99 : Nat)) 3, none⟩]
def linear_Decode_r35 : List SO := [⟨(some 2), .assign (.const (.string ⟨([] : List UInt8).toArray⟩)), none⟩,
  ⟨(some 3), .assign (.const (.int .i64 11)), none⟩]
def linear_Decode_r36 : List SO := [⟨(some 101), .move (.tmp (11 : Nat)), none⟩,
  ⟨(some 102), .call ⟨(.value (.func (146 : Nat))), #[(.tmp (101 : Nat))], #[25]⟩, none⟩,
  ⟨(some 103), .extract (.tmp (102 : Nat)) 0, none⟩,
  ⟨(some 104), .extract (.tmp (102 : Nat)) 1, none⟩,
  ⟨(some 2), .assign (.tmp (103 : Nat)), none⟩,
  ⟨(some 3), .assign (.tmp (104 : Nat)), none⟩]
def linear_Decode_c : SF := ⟨105, (.seq (.reg linear_Decode_r0)
  (.seq (.reg linear_Decode_r1)
  (.seq (.seq (.reg linear_Decode_r2)
  (.cond (.tmp (17 : Nat)) (.seq (.reg linear_Decode_r3)
  .ret) .skip))
  (.seq (.seq (.reg linear_Decode_r4)
  (.cond (.tmp (19 : Nat)) (.seq (.reg linear_Decode_r5)
  .ret) .skip))
  (.seq (.seq (.reg linear_Decode_r6)
  (.cond (.tmp (22 : Nat)) (.seq (.reg linear_Decode_r7)
  .ret) .skip))
  (.seq (.seq (.reg linear_Decode_r8)
  (.block 0 (.loop (.seq (.reg linear_Decode_r9)
  (.seq (.cond (.tmp (26 : Nat)) .skip (.exit 0))
  (.seq (.block 1 (.seq (.reg linear_Decode_r10)
  (.seq (.reg linear_Decode_r11)
  (.cond (.tmp (34 : Nat)) (.seq (.reg linear_Decode_r12)
  .ret) .skip))))
  (.reg linear_Decode_r13)))))))
  (.seq (.reg linear_Decode_r14)
  (.seq (.seq (.reg linear_Decode_r15)
  (.cond (.tmp (40 : Nat)) (.seq (.reg linear_Decode_r16)
  (.seq (.seq (.reg linear_Decode_r17)
  (.block 2 (.loop (.seq (.reg linear_Decode_r18)
  (.seq (.cond (.tmp (46 : Nat)) .skip (.exit 2))
  (.seq (.block 3 (.seq (.reg linear_Decode_r19)
  (.reg linear_Decode_r20)))
  (.reg linear_Decode_r21)))))))
  (.reg linear_Decode_r22))) .skip))
  (.seq (.reg linear_Decode_r23)
  (.seq (.block 4 (.loop (.seq (.seq (.reg linear_Decode_r24)
  (.cond (.tmp (61 : Nat)) .skip (.exit 4)))
  (.seq (.block 5 (.seq (.reg linear_Decode_r25)
  (.seq (.seq (.reg linear_Decode_r26)
  (.cond (.tmp (68 : Nat)) (.seq (.reg linear_Decode_r27)
  .ret) .skip))
  (.reg linear_Decode_r28))))
  (.reg linear_Decode_r29)))))
  (.seq (.seq (.reg linear_Decode_r30)
  (.cond (.tmp (85 : Nat)) (.seq (.reg linear_Decode_r31)
  .ret) .skip))
  (.seq (.reg linear_Decode_r32)
  (.seq (.seq (.reg linear_Decode_r33)
  (.seq (.reg linear_Decode_r34)
  (.cond (.tmp (100 : Nat)) (.seq (.reg linear_Decode_r35)
  .ret) .skip)))
  (.seq (.reg linear_Decode_r36)
  .ret)))))))))))))), [.tmp 2, .tmp 3]⟩
theorem linear_Decode_s : slimF Try.prog 126 = some linear_Decode_c := by kernel_rfl
abbrev linear_Decode_f : Nat := 126
end Go.Proofs.Ytjedljdfkoagbaa
namespace Go.Proofs.Ytjedljdfkoagbaa
open Go Go.Lite
set_option linter.unusedVariables false

/-- printworks/printworksref2.SameBytes -/
def R2_SameBytes_r0 : List SO := [⟨(some 4), .assign (.const (.bool false)), none⟩]
def R2_SameBytes_r1 : List SO := [⟨(some 5), .move (.tmp (0 : Nat)), none⟩,
  ⟨(some 6), .convert 22 9 (.tmp (5 : Nat)), none⟩,
  ⟨(some 7), .move (.tmp (1 : Nat)), none⟩,
  ⟨(some 8), .convert 22 9 (.tmp (7 : Nat)), none⟩,
  ⟨(some 9), .binOp .eql 9 (.tmp (6 : Nat)) (.tmp (8 : Nat)) 9, none⟩,
  ⟨(some 4), .assign (.tmp (9 : Nat)), none⟩]
def R2_SameBytes_c : SF := ⟨10, (.seq (.reg R2_SameBytes_r0)
  (.seq (.reg R2_SameBytes_r1)
  .ret)), [.tmp 4]⟩
theorem R2_SameBytes_s : slimF Try.prog 14 = some R2_SameBytes_c := by kernel_rfl
abbrev R2_SameBytes_f : Nat := 14
/-- printworks/printworksref2.Turned -/
def R2_Turned_r0 : List SO := [⟨(some 2), .box 24 (.tmp (0 : Nat)), none⟩,
  ⟨(some 4), .alloc 24, none⟩]
def R2_Turned_r1 : List SO := [⟨(some 12), .fieldAddr 24 (.tmp (2 : Nat)) 0, none⟩,
  ⟨(some 13), .load 3 (.tmp (12 : Nat)), none⟩,
  ⟨(some 14), .fieldAddr 24 (.tmp (2 : Nat)) 1, none⟩,
  ⟨(some 15), .load 3 (.tmp (14 : Nat)), none⟩,
  ⟨(some 5), .assign (.tmp (13 : Nat)), none⟩,
  ⟨(some 6), .assign (.tmp (15 : Nat)), none⟩]
def R2_Turned_a1 : List (List Nat) := [[], [0], [], [2], [1, 0, 1], [3, 4, 0, 1, 2, 3, 4]]
def R2_Turned_r2 : List SO := [⟨(some 16), .move (.tmp (1 : Nat)), none⟩,
  ⟨(some 17), .binOp .rem 3 (.tmp (16 : Nat)) (.const (.int .i64 2)) 3, none⟩,
  ⟨(some 18), .binOp .eql 3 (.tmp (17 : Nat)) (.const (.int .i64 1)) 3, none⟩]
def R2_Turned_r3 : List SO := [⟨(some 19), .move (.tmp (6 : Nat)), none⟩,
  ⟨(some 20), .move (.tmp (5 : Nat)), none⟩,
  ⟨(some 5), .assign (.tmp (19 : Nat)), none⟩,
  ⟨(some 6), .assign (.tmp (20 : Nat)), none⟩]
def R2_Turned_r4 : List SO := [⟨(some 21), .move (.tmp (5 : Nat)), none⟩,
  ⟨(some 22), .move (.tmp (6 : Nat)), none⟩,
  ⟨(some 23), .binOp .mul 3 (.tmp (21 : Nat)) (.tmp (22 : Nat)) 3, none⟩,
  ⟨(some 24), .makeSlice 63 (.tmp (23 : Nat)) (.tmp (23 : Nat)), none⟩,
  ⟨(some 7), .assign (.tmp (24 : Nat)), none⟩]
def R2_Turned_r5 : List SO := [⟨(some 25), .move (.tmp (6 : Nat)), none⟩,
  ⟨(some 26), .move (.const (.int .i64 0)), none⟩]
def R2_Turned_r6 : List SO := [⟨(some 27), .binOp .lss 3 (.tmp (26 : Nat)) (.tmp (25 : Nat)) 3, none⟩]
def R2_Turned_r7 : List SO := [⟨(some 28), .move (.tmp (26 : Nat)), none⟩,
  ⟨(some 8), .assign (.tmp (28 : Nat)), none⟩]
def R2_Turned_r8 : List SO := [⟨(some 29), .move (.tmp (5 : Nat)), none⟩,
  ⟨(some 30), .move (.const (.int .i64 0)), none⟩]
def R2_Turned_r9 : List SO := [⟨(some 31), .binOp .lss 3 (.tmp (30 : Nat)) (.tmp (29 : Nat)) 3, none⟩]
def R2_Turned_r10 : List SO := [⟨(some 32), .move (.tmp (30 : Nat)), none⟩,
  ⟨(some 9), .assign (.tmp (32 : Nat)), none⟩]
def R2_Turned_r11 : List SO := [⟨(some 10), .assign (.const (.int .i64 0)), none⟩,
  ⟨(some 11), .assign (.const (.int .i64 0)), none⟩]
def R2_Turned_r12 : List SO := [⟨(some 33), .move (.tmp (1 : Nat)), none⟩,
  ⟨(some 34), .binOp .rem 3 (.tmp (33 : Nat)) (.const (.int .i64 4)) 3, none⟩]
def R2_Turned_r13 : List SO := [⟨(some 36), .binOp .eql 3 (.tmp (34 : Nat)) (.const (.int .i64 0)) 3, none⟩,
  ⟨(some 35), .assign (.tmp (36 : Nat)), none⟩]
def R2_Turned_r14 : List SO := [⟨(some 37), .move (.tmp (9 : Nat)), none⟩,
  ⟨(some 38), .move (.tmp (8 : Nat)), none⟩,
  ⟨(some 10), .assign (.tmp (37 : Nat)), none⟩,
  ⟨(some 11), .assign (.tmp (38 : Nat)), none⟩]
def R2_Turned_r15 : List SO := [⟨(some 40), .binOp .eql 3 (.tmp (34 : Nat)) (.const (.int .i64 1)) 3, none⟩,
  ⟨(some 39), .assign (.tmp (40 : Nat)), none⟩]
def R2_Turned_r16 : List SO := [⟨(some 41), .move (.tmp (8 : Nat)), none⟩,
  ⟨(some 42), .fieldAddr 24 (.tmp (2 : Nat)) 1, none⟩,
  ⟨(some 43), .load 3 (.tmp (42 : Nat)), none⟩,
  ⟨(some 44), .binOp .sub 3 (.tmp (43 : Nat)) (.const (.int .i64 1)) 3, none⟩,
  ⟨(some 45), .move (.tmp (9 : Nat)), none⟩,
  ⟨(some 46), .binOp .sub 3 (.tmp (44 : Nat)) (.tmp (45 : Nat)) 3, none⟩,
  ⟨(some 10), .assign (.tmp (41 : Nat)), none⟩,
  ⟨(some 11), .assign (.tmp (46 : Nat)), none⟩]
def R2_Turned_a16 : List (List Nat) := [[], [], [1], [2], [], [3, 4], [0, 0], [5, 6, 0, 1, 2, 3, 4, 5, 6]]
def R2_Turned_r17 : List SO := [⟨(some 48), .binOp .eql 3 (.tmp (34 : Nat)) (.const (.int .i64 2)) 3, none⟩,
  ⟨(some 47), .assign (.tmp (48 : Nat)), none⟩]
def R2_Turned_r18 : List SO := [⟨(some 49), .fieldAddr 24 (.tmp (2 : Nat)) 0, none⟩,
  ⟨(some 50), .load 3 (.tmp (49 : Nat)), none⟩,
  ⟨(some 51), .binOp .sub 3 (.tmp (50 : Nat)) (.const (.int .i64 1)) 3, none⟩,
  ⟨(some 52), .move (.tmp (9 : Nat)), none⟩,
  ⟨(some 53), .binOp .sub 3 (.tmp (51 : Nat)) (.tmp (52 : Nat)) 3, none⟩,
  ⟨(some 54), .fieldAddr 24 (.tmp (2 : Nat)) 1, none⟩,
  ⟨(some 55), .load 3 (.tmp (54 : Nat)), none⟩,
  ⟨(some 56), .binOp .sub 3 (.tmp (55 : Nat)) (.const (.int .i64 1)) 3, none⟩,
  ⟨(some 57), .move (.tmp (8 : Nat)), none⟩,
  ⟨(some 58), .binOp .sub 3 (.tmp (56 : Nat)) (.tmp (57 : Nat)) 3, none⟩,
  ⟨(some 10), .assign (.tmp (53 : Nat)), none⟩,
  ⟨(some 11), .assign (.tmp (58 : Nat)), none⟩]
def R2_Turned_a18 : List (List Nat) := [[], [0], [1], [], [2, 3], [], [5], [6], [], [7, 8], [4, 0, 1, 2, 3, 4], [9, 10, 0, 1, 2, 3, 4, 5, 6, 7, 8, 9, 10]]
def R2_Turned_r19 : List SO := [⟨(some 60), .binOp .eql 3 (.tmp (34 : Nat)) (.const (.int .i64 3)) 3, none⟩,
  ⟨(some 59), .assign (.tmp (60 : Nat)), none⟩]
def R2_Turned_r20 : List SO := [⟨(some 61), .fieldAddr 24 (.tmp (2 : Nat)) 0, none⟩,
  ⟨(some 62), .load 3 (.tmp (61 : Nat)), none⟩,
  ⟨(some 63), .binOp .sub 3 (.tmp (62 : Nat)) (.const (.int .i64 1)) 3, none⟩,
  ⟨(some 64), .move (.tmp (8 : Nat)), none⟩,
  ⟨(some 65), .binOp .sub 3 (.tmp (63 : Nat)) (.tmp (64 : Nat)) 3, none⟩,
  ⟨(some 66), .move (.tmp (9 : Nat)), none⟩,
  ⟨(some 10), .assign (.tmp (65 : Nat)), none⟩,
  ⟨(some 11), .assign (.tmp (66 : Nat)), none⟩]
def R2_Turned_r21 : List SO := [⟨(some 67), .move (.tmp (1 : Nat)), none⟩,
  ⟨(some 68), .binOp .geq 3 (.tmp (67 : Nat)) (.const (.int .i64 4)) 3, none⟩]
def R2_Turned_r22 : List SO := [⟨(some 69), .fieldAddr 24 (.tmp (2 : Nat)) 0, none⟩,
  ⟨(some 70), .load 3 (.tmp (69 : Nat)), none⟩,
  ⟨(some 71), .binOp .sub 3 (.tmp (70 : Nat)) (.const (.int .i64 1)) 3, none⟩,
  ⟨(some 72), .move (.tmp (10 : Nat)), none⟩,
  ⟨(some 73), .binOp .sub 3 (.tmp (71 : Nat)) (.tmp (72 : Nat)) 3, none⟩,
  ⟨(some 10), .assign (.tmp (73 : Nat)), none⟩]
def R2_Turned_r23 : List SO := [⟨(some 74), .move (.tmp (7 : Nat)), none⟩,
  ⟨(some 75), .move (.tmp (8 : Nat)), none⟩,
  ⟨(some 76), .move (.tmp (5 : Nat)), none⟩,
  ⟨(some 77), .binOp .mul 3 (.tmp (75 : Nat)) (.tmp (76 : Nat)) 3, none⟩,
  ⟨(some 78), .move (.tmp (9 : Nat)), none⟩,
  ⟨(some 79), .binOp .add 3 (.tmp (77 : Nat)) (.tmp (78 : Nat)) 3, none⟩,
  ⟨(some 80), .load 24 (.tmp (2 : Nat)), none⟩,
  ⟨(some 81), .move (.tmp (10 : Nat)), none⟩,
  ⟨(some 82), .move (.tmp (11 : Nat)), none⟩,
  ⟨(some 83), .call ⟨(.value (.func (18 : Nat))), #[(.tmp (80 : Nat)), (.tmp (81 : Nat)), (.tmp (82 : Nat))], #[24, 3, 3]⟩, none⟩,
  ⟨(some 84), .indexAddr 63 (.tmp (74 : Nat)) (.tmp (79 : Nat)), none⟩,
  ⟨none, .store 4 (.tmp (84 : Nat)) (.tmp (83 : Nat)), none⟩]
def R2_Turned_r24 : List SO := [⟨(some 85), .binOp .add 3 (.tmp (30 : Nat)) (.const (.int .i64 1)) 3, none⟩,
  ⟨(some 30), .move (.tmp (85 : Nat)), none⟩]
def R2_Turned_r25 : List SO := [⟨(some 86), .binOp .add 3 (.tmp (26 : Nat)) (.const (.int .i64 1)) 3, none⟩,
  ⟨(some 26), .move (.tmp (86 : Nat)), none⟩]
def R2_Turned_r26 : List SO := [⟨(some 87), .move (.tmp (5 : Nat)), none⟩,
  ⟨(some 88), .move (.tmp (6 : Nat)), none⟩,
  ⟨(some 89), .move (.tmp (7 : Nat)), none⟩,
  ⟨(some 90), .call ⟨(.value (.func (52 : Nat))), #[(.tmp (87 : Nat)), (.tmp (88 : Nat)), (.tmp (89 : Nat))], #[3, 3, 63]⟩, none⟩,
  ⟨none, .store 24 (.tmp (4 : Nat)) (.tmp (90 : Nat)), none⟩]
def R2_Turned_c : SF := ⟨91, (.seq (.reg R2_Turned_r0)
  (.seq (.regd R2_Turned_r1 R2_Turned_a1)
  (.seq (.seq (.reg R2_Turned_r2)
  (.cond (.tmp (18 : Nat)) (.reg R2_Turned_r3) .skip))
  (.seq (.reg R2_Turned_r4)
  (.seq (.seq (.reg R2_Turned_r5)
  (.block 0 (.loop (.seq (.reg R2_Turned_r6)
  (.seq (.cond (.tmp (27 : Nat)) .skip (.exit 0))
  (.seq (.block 1 (.seq (.reg R2_Turned_r7)
  (.seq (.reg R2_Turned_r8)
  (.block 2 (.loop (.seq (.reg R2_Turned_r9)
  (.seq (.cond (.tmp (31 : Nat)) .skip (.exit 2))
  (.seq (.block 3 (.seq (.reg R2_Turned_r10)
  (.seq (.reg R2_Turned_r11)
  (.seq (.seq (.reg R2_Turned_r12)
  (.block 4 (.seq (.reg R2_Turned_r13)
  (.cond (.tmp (35 : Nat)) (.reg R2_Turned_r14) (.seq (.reg R2_Turned_r15)
  (.cond (.tmp (39 : Nat)) (.regd R2_Turned_r16 R2_Turned_a16) (.seq (.reg R2_Turned_r17)
  (.cond (.tmp (47 : Nat)) (.regd R2_Turned_r18 R2_Turned_a18) (.seq (.reg R2_Turned_r19)
  (.cond (.tmp (59 : Nat)) (.reg R2_Turned_r20) .skip))))))))))
  (.seq (.seq (.reg R2_Turned_r21)
  (.cond (.tmp (68 : Nat)) (.reg R2_Turned_r22) .skip))
  (.reg R2_Turned_r23))))))
  (.reg R2_Turned_r24)))))))))
  (.reg R2_Turned_r25)))))))
  (.seq (.reg R2_Turned_r26)
  .ret)))))), [.cell 4 24]⟩
theorem R2_Turned_s : slimF Try.prog 17 = some R2_Turned_c := by kernel_rfl
abbrev R2_Turned_f : Nat := 17
/-- printworks/printworksref2.Bit -/
def R2_Bit_r0 : List SO := [⟨(some 3), .box 24 (.tmp (0 : Nat)), none⟩,
  ⟨(some 6), .assign (.const (.bool false)), none⟩]
def R2_Bit_r1 : List SO := [⟨(some 7), .move (.tmp (1 : Nat)), none⟩,
  ⟨(some 8), .fieldAddr 24 (.tmp (3 : Nat)) 0, none⟩,
  ⟨(some 9), .load 3 (.tmp (8 : Nat)), none⟩,
  ⟨(some 10), .binOp .sub 3 (.tmp (9 : Nat)) (.const (.int .i64 1)) 3, none⟩,
  ⟨(some 11), .call ⟨(.value (.func (53 : Nat))), #[(.tmp (7 : Nat)), (.const (.int .i64 0)), (.tmp (10 : Nat))], #[3, 3, 3]⟩, none⟩,
  ⟨(some 12), .unOp .not 4 (.tmp (11 : Nat)), none⟩,
  ⟨(some 13), .move (.tmp (12 : Nat)), none⟩,
  ⟨(some 14), .move (.tmp (2 : Nat)), (some (13, false))⟩,
  ⟨(some 15), .fieldAddr 24 (.tmp (3 : Nat)) 1, (some (13, false))⟩,
  ⟨(some 16), .load 3 (.tmp (15 : Nat)), (some (13, false))⟩,
  ⟨(some 17), .binOp .sub 3 (.tmp (16 : Nat)) (.const (.int .i64 1)) 3, (some (13, false))⟩,
  ⟨(some 18), .call ⟨(.value (.func (53 : Nat))), #[(.tmp (14 : Nat)), (.const (.int .i64 0)), (.tmp (17 : Nat))], #[3, 3, 3]⟩, (some (13, false))⟩,
  ⟨(some 19), .unOp .not 4 (.tmp (18 : Nat)), (some (13, false))⟩,
  ⟨(some 20), .pick (.tmp (13 : Nat)) (.const (.bool true)) (.tmp (19 : Nat)), none⟩]
def R2_Bit_r2 : List SO := [⟨(some 6), .assign (.const (.bool false)), none⟩]
def R2_Bit_r3 : List SO := [⟨(some 21), .fieldAddr 24 (.tmp (3 : Nat)) 2, none⟩,
  ⟨(some 22), .load 22 (.tmp (21 : Nat)), none⟩,
  ⟨(some 23), .move (.tmp (2 : Nat)), none⟩,
  ⟨(some 24), .fieldAddr 24 (.tmp (3 : Nat)) 0, none⟩,
  ⟨(some 25), .load 3 (.tmp (24 : Nat)), none⟩,
  ⟨(some 26), .binOp .add 3 (.tmp (25 : Nat)) (.const (.int .i64 7)) 3, none⟩,
  ⟨(some 27), .binOp .quo 3 (.tmp (26 : Nat)) (.const (.int .i64 8)) 3, none⟩,
  ⟨(some 28), .binOp .mul 3 (.tmp (23 : Nat)) (.tmp (27 : Nat)) 3, none⟩,
  ⟨(some 29), .move (.tmp (1 : Nat)), none⟩,
  ⟨(some 30), .binOp .quo 3 (.tmp (29 : Nat)) (.const (.int .i64 8)) 3, none⟩,
  ⟨(some 31), .binOp .add 3 (.tmp (28 : Nat)) (.tmp (30 : Nat)) 3, none⟩,
  ⟨(some 32), .indexAddr 22 (.tmp (22 : Nat)) (.tmp (31 : Nat)), none⟩,
  ⟨(some 33), .load 5 (.tmp (32 : Nat)), none⟩,
  ⟨(some 34), .move (.tmp (1 : Nat)), none⟩,
  ⟨(some 35), .binOp .rem 3 (.tmp (34 : Nat)) (.const (.int .i64 8)) 3, none⟩,
  ⟨(some 36), .binOp .shl 5 (.tmp (33 : Nat)) (.tmp (35 : Nat)) 3, none⟩,
  ⟨(some 37), .binOp .and 5 (.tmp (36 : Nat)) (.const (.int .u8 128)) 5, none⟩,
  ⟨(some 38), .binOp .neq 5 (.tmp (37 : Nat)) (.const (.int .u8 0)) 5, none⟩,
  ⟨(some 6), .assign (.tmp (38 : Nat)), none⟩]
def R2_Bit_c : SF := ⟨39, (.seq (.reg R2_Bit_r0)
  (.seq (.seq (.reg R2_Bit_r1)
  (.cond (.tmp (20 : Nat)) (.seq (.reg R2_Bit_r2)
  .ret) .skip))
  (.seq (.reg R2_Bit_r3)
  .ret))), [.tmp 6]⟩
theorem R2_Bit_s : slimF Try.prog 18 = some R2_Bit_c := by kernel_rfl
abbrev R2_Bit_f : Nat := 18
/-- printworks/printworksref2.SameBits -/
def R2_SameBits_r0 : List SO := [⟨(some 2), .box 24 (.tmp (0 : Nat)), none⟩,
  ⟨(some 3), .box 24 (.tmp (1 : Nat)), none⟩,
  ⟨(some 4), .assign (.const (.bool false)), none⟩]
def R2_SameBits_r1 : List SO := [⟨(some 5), .fieldAddr 24 (.tmp (2 : Nat)) 0, none⟩,
  ⟨(some 6), .load 3 (.tmp (5 : Nat)), none⟩,
  ⟨(some 7), .fieldAddr 24 (.tmp (3 : Nat)) 0, none⟩,
  ⟨(some 8), .load 3 (.tmp (7 : Nat)), none⟩,
  ⟨(some 9), .binOp .eql 3 (.tmp (6 : Nat)) (.tmp (8 : Nat)) 3, none⟩,
  ⟨(some 10), .move (.tmp (9 : Nat)), none⟩,
  ⟨(some 11), .fieldAddr 24 (.tmp (2 : Nat)) 1, (some (10, true))⟩,
  ⟨(some 12), .load 3 (.tmp (11 : Nat)), (some (10, true))⟩,
  ⟨(some 13), .fieldAddr 24 (.tmp (3 : Nat)) 1, (some (10, true))⟩,
  ⟨(some 14), .load 3 (.tmp (13 : Nat)), (some (10, true))⟩,
  ⟨(some 15), .binOp .eql 3 (.tmp (12 : Nat)) (.tmp (14 : Nat)) 3, (some (10, true))⟩,
  ⟨(some 16), .pick (.tmp (10 : Nat)) (.tmp (15 : Nat)) (.const (.bool false)), none⟩,
  ⟨(some 17), .move (.tmp (16 : Nat)), none⟩,
  ⟨(some 18), .fieldAddr 24 (.tmp (2 : Nat)) 2, (some (17, true))⟩,
  ⟨(some 19), .load 22 (.tmp (18 : Nat)), (some (17, true))⟩,
  ⟨(some 20), .fieldAddr 24 (.tmp (3 : Nat)) 2, (some (17, true))⟩,
  ⟨(some 21), .load 22 (.tmp (20 : Nat)), (some (17, true))⟩,
  ⟨(some 22), .call ⟨(.value (.func (14 : Nat))), #[(.tmp (19 : Nat)), (.tmp (21 : Nat))], #[22, 22]⟩, (some (17, true))⟩,
  ⟨(some 23), .pick (.tmp (17 : Nat)) (.tmp (22 : Nat)) (.const (.bool false)), none⟩,
  ⟨(some 4), .assign (.tmp (23 : Nat)), none⟩]
def R2_SameBits_c : SF := ⟨24, (.seq (.reg R2_SameBits_r0)
  (.seq (.reg R2_SameBits_r1)
  .ret)), [.tmp 4]⟩
theorem R2_SameBits_s : slimF Try.prog 28 = some R2_SameBits_c := by kernel_rfl
abbrev R2_SameBits_f : Nat := 28
/-- printworks/printworksref2.Drawn -/
def R2_Drawn_r0 : List SO := [⟨(some 6), .alloc 24, none⟩]
def R2_Drawn_r1 : List SO := [⟨(some 11), .move (.tmp (0 : Nat)), none⟩,
  ⟨(some 12), .binOp .add 3 (.tmp (11 : Nat)) (.const (.int .i64 7)) 3, none⟩,
  ⟨(some 13), .binOp .quo 3 (.tmp (12 : Nat)) (.const (.int .i64 8)) 3, none⟩,
  ⟨(some 7), .assign (.tmp (13 : Nat)), none⟩]
def R2_Drawn_r2 : List SO := [⟨(some 14), .move (.tmp (0 : Nat)), none⟩,
  ⟨(some 15), .move (.tmp (1 : Nat)), none⟩,
  ⟨(some 16), .move (.tmp (7 : Nat)), none⟩,
  ⟨(some 17), .move (.tmp (1 : Nat)), none⟩,
  ⟨(some 18), .binOp .mul 3 (.tmp (16 : Nat)) (.tmp (17 : Nat)) 3, none⟩,
  ⟨(some 19), .makeSlice 22 (.tmp (18 : Nat)) (.tmp (18 : Nat)), none⟩,
  ⟨(some 20), .build 24 #[(0, (.tmp (14 : Nat))), (1, (.tmp (15 : Nat))), (2, (.tmp (19 : Nat)))], none⟩,
  ⟨(some 8), .alloc 24, none⟩,
  ⟨none, .store 24 (.tmp (8 : Nat)) (.tmp (20 : Nat)), none⟩]
def R2_Drawn_r3 : List SO := [⟨(some 21), .move (.tmp (2 : Nat)), none⟩,
  ⟨(some 22), .call ⟨(.builtin .len), #[(.tmp (21 : Nat))], #[63]⟩, none⟩,
  ⟨(some 23), .move (.const (.int .i64 0)), none⟩]
def R2_Drawn_r4 : List SO := [⟨(some 24), .binOp .lss 3 (.tmp (23 : Nat)) (.tmp (22 : Nat)) 3, none⟩]
def R2_Drawn_r5 : List SO := [⟨(some 25), .move (.tmp (23 : Nat)), none⟩,
  ⟨(some 26), .indexAddr 63 (.tmp (21 : Nat)) (.tmp (23 : Nat)), none⟩,
  ⟨(some 27), .load 4 (.tmp (26 : Nat)), none⟩,
  ⟨(some 9), .assign (.tmp (25 : Nat)), none⟩,
  ⟨(some 10), .assign (.tmp (27 : Nat)), none⟩]
def R2_Drawn_r6 : List SO := [⟨(some 28), .move (.tmp (10 : Nat)), none⟩]
def R2_Drawn_r7 : List SO := [⟨(some 29), .fieldAddr 24 (.tmp (8 : Nat)) 2, none⟩,
  ⟨(some 30), .load 22 (.tmp (29 : Nat)), none⟩,
  ⟨(some 31), .move (.tmp (9 : Nat)), none⟩,
  ⟨(some 32), .move (.tmp (0 : Nat)), none⟩,
  ⟨(some 33), .binOp .quo 3 (.tmp (31 : Nat)) (.tmp (32 : Nat)) 3, none⟩,
  ⟨(some 34), .move (.tmp (7 : Nat)), none⟩,
  ⟨(some 35), .binOp .mul 3 (.tmp (33 : Nat)) (.tmp (34 : Nat)) 3, none⟩,
  ⟨(some 36), .move (.tmp (9 : Nat)), none⟩,
  ⟨(some 37), .move (.tmp (0 : Nat)), none⟩,
  ⟨(some 38), .binOp .rem 3 (.tmp (36 : Nat)) (.tmp (37 : Nat)) 3, none⟩,
  ⟨(some 39), .binOp .quo 3 (.tmp (38 : Nat)) (.const (.int .i64 8)) 3, none⟩,
  ⟨(some 40), .binOp .add 3 (.tmp (35 : Nat)) (.tmp (39 : Nat)) 3, none⟩,
  ⟨(some 41), .indexAddr 22 (.tmp (30 : Nat)) (.tmp (40 : Nat)), none⟩,
  ⟨(some 42), .load 5 (.tmp (41 : Nat)), none⟩,
  ⟨(some 43), .move (.tmp (9 : Nat)), none⟩,
  ⟨(some 44), .move (.tmp (0 : Nat)), none⟩,
  ⟨(some 45), .binOp .rem 3 (.tmp (43 : Nat)) (.tmp (44 : Nat)) 3, none⟩,
  ⟨(some 46), .binOp .rem 3 (.tmp (45 : Nat)) (.const (.int .i64 8)) 3, none⟩,
  ⟨(some 47), .binOp .shr 5 (.const (.int .u8 128)) (.tmp (46 : Nat)) 3, none⟩,
  ⟨(some 48), .binOp .or 5 (.tmp (42 : Nat)) (.tmp (47 : Nat)) 5, none⟩,
  ⟨(some 49), .indexAddr 22 (.tmp (30 : Nat)) (.tmp (40 : Nat)), none⟩,
  ⟨none, .store 5 (.tmp (49 : Nat)) (.tmp (48 : Nat)), none⟩]
def R2_Drawn_a7 : List (List Nat) := [[], [0], [], [], [2, 3], [], [4, 5], [], [], [7, 8], [9], [6, 10], [1, 11], [12], [], [], [14, 15], [16], [17], [13, 18], [1, 11, 0, 1, 2, 3, 4, 5, 6, 7, 8, 9, 10, 11, 12, 13, 14, 15, 16, 17, 18, 19], [20, 19, 0, 1, 2, 3, 4, 5, 6, 7, 8, 9, 10, 11, 12, 13, 14, 15, 16, 17, 18, 19]]
def R2_Drawn_r8 : List SO := [⟨(some 50), .binOp .add 3 (.tmp (23 : Nat)) (.const (.int .i64 1)) 3, none⟩,
  ⟨(some 23), .move (.tmp (50 : Nat)), none⟩]
def R2_Drawn_r9 : List SO := [⟨(some 51), .load 24 (.tmp (8 : Nat)), none⟩,
  ⟨none, .store 24 (.tmp (6 : Nat)) (.tmp (51 : Nat)), none⟩]
def R2_Drawn_c : SF := ⟨52, (.seq (.reg R2_Drawn_r0)
  (.seq (.reg R2_Drawn_r1)
  (.seq (.reg R2_Drawn_r2)
  (.seq (.seq (.reg R2_Drawn_r3)
  (.block 0 (.loop (.seq (.reg R2_Drawn_r4)
  (.seq (.cond (.tmp (24 : Nat)) .skip (.exit 0))
  (.seq (.block 1 (.seq (.reg R2_Drawn_r5)
  (.seq (.reg R2_Drawn_r6)
  (.cond (.tmp (28 : Nat)) (.regd R2_Drawn_r7 R2_Drawn_a7) .skip))))
  (.reg R2_Drawn_r8)))))))
  (.seq (.reg R2_Drawn_r9)
  .ret))))), [.cell 6 24]⟩
theorem R2_Drawn_s : slimF Try.prog 52 = some R2_Drawn_c := by kernel_rfl
abbrev R2_Drawn_f : Nat := 52
/-- printworks/printworksref2.Within -/
def R2_Within_r0 : List SO := [⟨(some 6), .assign (.const (.bool false)), none⟩]
def R2_Within_r1 : List SO := [⟨(some 7), .move (.tmp (1 : Nat)), none⟩,
  ⟨(some 8), .move (.tmp (0 : Nat)), none⟩,
  ⟨(some 9), .binOp .leq 3 (.tmp (7 : Nat)) (.tmp (8 : Nat)) 3, none⟩,
  ⟨(some 10), .move (.tmp (9 : Nat)), none⟩,
  ⟨(some 11), .move (.tmp (0 : Nat)), (some (10, true))⟩,
  ⟨(some 12), .move (.tmp (2 : Nat)), (some (10, true))⟩,
  ⟨(some 13), .binOp .leq 3 (.tmp (11 : Nat)) (.tmp (12 : Nat)) 3, (some (10, true))⟩,
  ⟨(some 14), .pick (.tmp (10 : Nat)) (.tmp (13 : Nat)) (.const (.bool false)), none⟩,
  ⟨(some 6), .assign (.tmp (14 : Nat)), none⟩]
def R2_Within_c : SF := ⟨15, (.seq (.reg R2_Within_r0)
  (.seq (.reg R2_Within_r1)
  .ret)), [.tmp 6]⟩
theorem R2_Within_s : slimF Try.prog 53 = some R2_Within_c := by kernel_rfl
abbrev R2_Within_f : Nat := 53
end Go.Proofs.Ytjedljdfkoagbaa
namespace Go.Proofs.Ytjedljdfkoagbaa
open Go Go.Lite
set_option linter.unusedVariables false

/-- printworks/printworkskeep2.cameraWorks -/
def K2_cameraWorks_r0 : List SO := [⟨(some 0), .assign (.const (.bool false)), none⟩]
def K2_cameraWorks_r1 : List SO := [⟨(some 8), .buildSlice 22 1 #[(0, (.const (.int .u8 128)))], none⟩,
  ⟨(some 9), .build 24 #[(0, (.const (.int .i64 1))), (1, (.const (.int .i64 1))), (2, (.tmp (8 : Nat)))], none⟩,
  ⟨(some 10), .build 27 #[(0, (.const (.int .i64 1))), (1, (.const (.int .i64 16))), (2, (.const (.int .i64 16))), (5, (.const (.int .i64 200))), (6, (.const (.int .i64 50)))], none⟩,
  ⟨(some 11), .call ⟨(.value (.func (12 : Nat))), #[(.tmp (9 : Nat)), (.tmp (10 : Nat))], #[24, 27]⟩, none⟩,
  ⟨(some 7), .move (.tmp (11 : Nat)), none⟩,
  ⟨(some 12), .extract (.tmp (7 : Nat)) 0, none⟩,
  ⟨(some 13), .extract (.tmp (7 : Nat)) 1, none⟩,
  ⟨(some 1), .alloc 30, none⟩,
  ⟨none, .store 30 (.tmp (1 : Nat)) (.tmp (12 : Nat)), none⟩,
  ⟨(some 2), .assign (.tmp (13 : Nat)), none⟩]
def K2_cameraWorks_r2 : List SO := [⟨(some 15), .buildSlice 22 2 #[(0, (.const (.int .u8 90))), (1, (.const (.int .u8 10)))], none⟩,
  ⟨(some 16), .build 30 #[(0, (.const (.int .i64 2))), (1, (.const (.int .i64 1))), (2, (.tmp (15 : Nat)))], none⟩,
  ⟨(some 17), .call ⟨(.value (.func (16 : Nat))), #[(.tmp (16 : Nat))], #[30]⟩, none⟩,
  ⟨(some 14), .move (.tmp (17 : Nat)), none⟩,
  ⟨(some 18), .extract (.tmp (14 : Nat)) 0, none⟩,
  ⟨(some 19), .extract (.tmp (14 : Nat)) 1, none⟩,
  ⟨(some 3), .alloc 24, none⟩,
  ⟨none, .store 24 (.tmp (3 : Nat)) (.tmp (18 : Nat)), none⟩,
  ⟨(some 4), .assign (.tmp (19 : Nat)), none⟩]
def K2_cameraWorks_r3 : List SO := [⟨(some 21), .buildSlice 22 2 #[(0, (.const (.int .u8 90))), (1, (.const (.int .u8 10)))], none⟩,
  ⟨(some 22), .build 30 #[(0, (.const (.int .i64 2))), (1, (.const (.int .i64 1))), (2, (.tmp (21 : Nat)))], none⟩,
  ⟨(some 23), .call ⟨(.value (.func (43 : Nat))), #[(.tmp (22 : Nat))], #[30]⟩, none⟩,
  ⟨(some 20), .move (.tmp (23 : Nat)), none⟩,
  ⟨(some 24), .extract (.tmp (20 : Nat)) 0, none⟩,
  ⟨(some 25), .extract (.tmp (20 : Nat)) 1, none⟩,
  ⟨(some 5), .assign (.tmp (24 : Nat)), none⟩,
  ⟨(some 6), .assign (.tmp (25 : Nat)), none⟩]
def K2_cameraWorks_r4 : List SO := [⟨(some 26), .move (.tmp (2 : Nat)), none⟩,
  ⟨(some 27), .binOp .eql 31 (.tmp (26 : Nat)) (.const (.int .i64 0)) 31, none⟩,
  ⟨(some 28), .move (.tmp (27 : Nat)), none⟩,
  ⟨(some 29), .fieldAddr 30 (.tmp (1 : Nat)) 0, (some (28, true))⟩,
  ⟨(some 30), .load 3 (.tmp (29 : Nat)), (some (28, true))⟩,
  ⟨(some 31), .binOp .eql 3 (.tmp (30 : Nat)) (.const (.int .i64 33)) 3, (some (28, true))⟩,
  ⟨(some 32), .pick (.tmp (28 : Nat)) (.tmp (31 : Nat)) (.const (.bool false)), none⟩,
  ⟨(some 33), .move (.tmp (32 : Nat)), none⟩,
  ⟨(some 34), .fieldAddr 30 (.tmp (1 : Nat)) 1, (some (33, true))⟩,
  ⟨(some 35), .load 3 (.tmp (34 : Nat)), (some (33, true))⟩,
  ⟨(some 36), .binOp .eql 3 (.tmp (35 : Nat)) (.const (.int .i64 33)) 3, (some (33, true))⟩,
  ⟨(some 37), .pick (.tmp (33 : Nat)) (.tmp (36 : Nat)) (.const (.bool false)), none⟩,
  ⟨(some 38), .move (.tmp (37 : Nat)), none⟩,
  ⟨(some 39), .fieldAddr 30 (.tmp (1 : Nat)) 2, (some (38, true))⟩,
  ⟨(some 40), .load 22 (.tmp (39 : Nat)), (some (38, true))⟩,
  ⟨(some 41), .call ⟨(.builtin .len), #[(.tmp (40 : Nat))], #[22]⟩, (some (38, true))⟩,
  ⟨(some 42), .binOp .eql 3 (.tmp (41 : Nat)) (.const (.int .i64 1089)) 3, (some (38, true))⟩,
  ⟨(some 43), .pick (.tmp (38 : Nat)) (.tmp (42 : Nat)) (.const (.bool false)), none⟩,
  ⟨(some 44), .move (.tmp (43 : Nat)), none⟩,
  ⟨(some 45), .fieldAddr 30 (.tmp (1 : Nat)) 2, (some (44, true))⟩,
  ⟨(some 46), .load 22 (.tmp (45 : Nat)), (some (44, true))⟩,
  ⟨(some 47), .indexAddr 22 (.tmp (46 : Nat)) (.const (.int .i64 544)), (some (44, true))⟩,
  ⟨(some 48), .load 5 (.tmp (47 : Nat)), (some (44, true))⟩,
  ⟨(some 49), .binOp .eql 5 (.tmp (48 : Nat)) (.const (.int .u8 50)) 5, (some (44, true))⟩,
  ⟨(some 50), .pick (.tmp (44 : Nat)) (.tmp (49 : Nat)) (.const (.bool false)), none⟩,
  ⟨(some 51), .move (.tmp (50 : Nat)), none⟩,
  ⟨(some 52), .fieldAddr 30 (.tmp (1 : Nat)) 2, (some (51, true))⟩,
  ⟨(some 53), .load 22 (.tmp (52 : Nat)), (some (51, true))⟩,
  ⟨(some 54), .indexAddr 22 (.tmp (53 : Nat)) (.const (.int .i64 0)), (some (51, true))⟩,
  ⟨(some 55), .load 5 (.tmp (54 : Nat)), (some (51, true))⟩,
  ⟨(some 56), .binOp .eql 5 (.tmp (55 : Nat)) (.const (.int .u8 200)) 5, (some (51, true))⟩,
  ⟨(some 57), .pick (.tmp (51 : Nat)) (.tmp (56 : Nat)) (.const (.bool false)), none⟩,
  ⟨(some 58), .move (.tmp (57 : Nat)), none⟩,
  ⟨(some 59), .move (.tmp (4 : Nat)), (some (58, true))⟩,
  ⟨(some 60), .binOp .eql 31 (.tmp (59 : Nat)) (.const (.int .i64 0)) 31, (some (58, true))⟩,
  ⟨(some 61), .pick (.tmp (58 : Nat)) (.tmp (60 : Nat)) (.const (.bool false)), none⟩,
  ⟨(some 62), .move (.tmp (61 : Nat)), none⟩,
  ⟨(some 63), .load 24 (.tmp (3 : Nat)), (some (62, true))⟩,
  ⟨(some 64), .buildSlice 22 1 #[(0, (.const (.int .u8 64)))], (some (62, true))⟩,
  ⟨(some 65), .build 24 #[(0, (.const (.int .i64 2))), (1, (.const (.int .i64 1))), (2, (.tmp (64 : Nat)))], (some (62, true))⟩,
  ⟨(some 66), .call ⟨(.value (.func (28 : Nat))), #[(.tmp (63 : Nat)), (.tmp (65 : Nat))], #[24, 24]⟩, (some (62, true))⟩,
  ⟨(some 67), .pick (.tmp (62 : Nat)) (.tmp (66 : Nat)) (.const (.bool false)), none⟩,
  ⟨(some 68), .move (.tmp (67 : Nat)), none⟩,
  ⟨(some 69), .move (.tmp (6 : Nat)), (some (68, true))⟩,
  ⟨(some 70), .binOp .eql 31 (.tmp (69 : Nat)) (.const (.int .i64 8)) 31, (some (68, true))⟩,
  ⟨(some 71), .pick (.tmp (68 : Nat)) (.tmp (70 : Nat)) (.const (.bool false)), none⟩,
  ⟨(some 0), .assign (.tmp (71 : Nat)), none⟩]
def K2_cameraWorks_c : SF := ⟨72, (.seq (.reg K2_cameraWorks_r0)
  (.seq (.reg K2_cameraWorks_r1)
  (.seq (.reg K2_cameraWorks_r2)
  (.seq (.reg K2_cameraWorks_r3)
  (.seq (.reg K2_cameraWorks_r4)
  .ret))))), [.tmp 0]⟩
theorem K2_cameraWorks_s : slimF Try.prog 11 = some K2_cameraWorks_c := by kernel_rfl
abbrev K2_cameraWorks_f : Nat := 11
end Go.Proofs.Ytjedljdfkoagbaa
namespace Go.Proofs.Ytjedljdfkoagbaa
open Go Go.Lite
set_option linter.unusedVariables false

/-- math/bits.OnesCount8 -/
def math_bits_OnesCount8_r0 : List SO := [⟨(some 2), .assign (.const (.int .i64 0)), none⟩]
def math_bits_OnesCount8_r1 : List SO := [⟨(some 3), .move (.tmp (0 : Nat)), none⟩,
  ⟨(some 4), .index 9 (.const (.string ⟨([0, 1, 1, 2, 1, 2, 2, 3, 1, 2, 2, 3, 2, 3, 3, 4, 1, 2, 2, 3, 2, 3, 3, 4, 2, 3, 3, 4, 3, 4, 4, 5, 1, 2, 2, 3, 2, 3, 3, 4, 2, 3, 3, 4, 3, 4, 4, 5, 2, 3, 3, 4, 3, 4, 4, 5, 3, 4, 4, 5, 4, 5, 5, 6, 1, 2, 2, 3, 2, 3, 3, 4, 2, 3, 3, 4, 3, 4, 4, 5, 2, 3, 3, 4, 3, 4, 4, 5, 3, 4, 4, 5, 4, 5, 5, 6, 2, 3, 3, 4, 3, 4, 4, 5, 3, 4, 4, 5, 4, 5, 5, 6, 3, 4, 4, 5, 4, 5, 5, 6, 4, 5, 5, 6, 5, 6, 6, 7, 1, 2, 2, 3, 2, 3, 3, 4, 2, 3, 3, 4, 3, 4, 4, 5, 2, 3, 3, 4, 3, 4, 4, 5, 3, 4, 4, 5, 4, 5, 5, 6, 2, 3, 3, 4, 3, 4, 4, 5, 3, 4, 4, 5, 4, 5, 5, 6, 3, 4, 4, 5, 4, 5, 5, 6, 4, 5, 5, 6, 5, 6, 6, 7, 2, 3, 3, 4, 3, 4, 4, 5, 3, 4, 4, 5, 4, 5, 5, 6, 3, 4, 4, 5, 4, 5, 5, 6, 4, 5, 5, 6, 5, 6, 6, 7, 3, 4, 4, 5, 4, 5, 5, 6, 4, 5, 5, 6, 5, 6, 6, 7, 4, 5, 5, 6, 5, 6, 6, 7, 5, 6, 6, 7, 6, 7, 7, 8] : List UInt8).toArray⟩)) (.tmp (3 : Nat)), none⟩,
  ⟨(some 5), .convert 5 3 (.tmp (4 : Nat)), none⟩,
  ⟨(some 2), .assign (.tmp (5 : Nat)), none⟩]
def math_bits_OnesCount8_c : SF := ⟨6, (.seq (.reg math_bits_OnesCount8_r0)
  (.seq (.reg math_bits_OnesCount8_r1)
  .ret)), [.tmp 2]⟩
theorem math_bits_OnesCount8_s : slimF Try.prog 49 = some math_bits_OnesCount8_c := by kernel_rfl
abbrev math_bits_OnesCount8_f : Nat := 49

def tbl_bits : List (Nat × SF) := [(49, math_bits_OnesCount8_c)]
theorem tbl_bits_ok : okT Try.prog tbl_bits := ⟨math_bits_OnesCount8_s, trivial⟩

end Go.Proofs.Ytjedljdfkoagbaa
namespace Go.Proofs.Ytjedljdfkoagbaa
open Go Go.Lite
set_option linter.unusedVariables false

/-- printworks/printworkskeep2.CameraSees -/
def K2_CameraSees_r0 : List SO := [⟨(some 2), .box 24 (.tmp (0 : Nat)), none⟩,
  ⟨(some 3), .box 27 (.tmp (1 : Nat)), none⟩,
  ⟨(some 4), .assign (.const (.bool false)), none⟩]
def K2_CameraSees_r1 : List SO := [⟨(some 16), .call ⟨(.value (.func (11 : Nat))), #[], #[]⟩, none⟩,
  ⟨(some 17), .unOp .not 4 (.tmp (16 : Nat)), none⟩]
def K2_CameraSees_r2 : List SO := [⟨(some 4), .assign (.const (.bool false)), none⟩]
def K2_CameraSees_r3 : List SO := [⟨(some 18), .fieldAddr 27 (.tmp (3 : Nat)) 7, none⟩,
  ⟨none, .store 25 (.tmp (18 : Nat)) (.const (.slice none 0 0)), none⟩,
  ⟨(some 19), .fieldAddr 27 (.tmp (3 : Nat)) 4, none⟩,
  ⟨none, .store 3 (.tmp (19 : Nat)) (.const (.int .i64 0)), none⟩]
def K2_CameraSees_r4 : List SO := [⟨(some 21), .load 24 (.tmp (2 : Nat)), none⟩,
  ⟨(some 22), .load 27 (.tmp (3 : Nat)), none⟩,
  ⟨(some 23), .call ⟨(.value (.func (12 : Nat))), #[(.tmp (21 : Nat)), (.tmp (22 : Nat))], #[24, 27]⟩, none⟩,
  ⟨(some 20), .move (.tmp (23 : Nat)), none⟩,
  ⟨(some 24), .extract (.tmp (20 : Nat)) 0, none⟩,
  ⟨(some 25), .extract (.tmp (20 : Nat)) 1, none⟩,
  ⟨(some 5), .alloc 30, none⟩,
  ⟨none, .store 30 (.tmp (5 : Nat)) (.tmp (24 : Nat)), none⟩,
  ⟨(some 6), .assign (.tmp (25 : Nat)), none⟩]
def K2_CameraSees_r5 : List SO := [⟨(some 26), .move (.tmp (6 : Nat)), none⟩,
  ⟨(some 27), .binOp .neq 31 (.tmp (26 : Nat)) (.const (.int .i64 0)) 31, none⟩,
  ⟨(some 28), .move (.tmp (27 : Nat)), none⟩,
  ⟨(some 29), .fieldAddr 24 (.tmp (2 : Nat)) 0, (some (28, false))⟩,
  ⟨(some 30), .load 3 (.tmp (29 : Nat)), (some (28, false))⟩,
  ⟨(some 31), .binOp .gtr 3 (.tmp (30 : Nat)) (.const (.int .i64 40)) 3, (some (28, false))⟩,
  ⟨(some 32), .pick (.tmp (28 : Nat)) (.const (.bool true)) (.tmp (31 : Nat)), none⟩,
  ⟨(some 33), .move (.tmp (32 : Nat)), none⟩,
  ⟨(some 34), .fieldAddr 24 (.tmp (2 : Nat)) 1, (some (33, false))⟩,
  ⟨(some 35), .load 3 (.tmp (34 : Nat)), (some (33, false))⟩,
  ⟨(some 36), .binOp .gtr 3 (.tmp (35 : Nat)) (.const (.int .i64 30)) 3, (some (33, false))⟩,
  ⟨(some 37), .pick (.tmp (33 : Nat)) (.const (.bool true)) (.tmp (36 : Nat)), none⟩]
def K2_CameraSees_r6 : List SO := [⟨(some 38), .move (.tmp (6 : Nat)), none⟩,
  ⟨(some 39), .binOp .eql 31 (.tmp (38 : Nat)) (.const (.int .i64 0)) 31, none⟩,
  ⟨(some 40), .move (.tmp (39 : Nat)), none⟩,
  ⟨(some 41), .fieldAddr 30 (.tmp (5 : Nat)) 2, (some (40, false))⟩,
  ⟨(some 42), .load 22 (.tmp (41 : Nat)), (some (40, false))⟩,
  ⟨(some 43), .call ⟨(.builtin .len), #[(.tmp (42 : Nat))], #[22]⟩, (some (40, false))⟩,
  ⟨(some 44), .binOp .eql 3 (.tmp (43 : Nat)) (.const (.int .i64 0)) 3, (some (40, false))⟩,
  ⟨(some 45), .pick (.tmp (40 : Nat)) (.const (.bool true)) (.tmp (44 : Nat)), none⟩,
  ⟨(some 4), .assign (.tmp (45 : Nat)), none⟩]
def K2_CameraSees_r7 : List SO := [⟨(some 47), .load 24 (.tmp (2 : Nat)), none⟩,
  ⟨(some 48), .call ⟨(.value (.func (15 : Nat))), #[(.tmp (47 : Nat))], #[24]⟩, none⟩,
  ⟨(some 46), .move (.tmp (48 : Nat)), none⟩,
  ⟨(some 49), .extract (.tmp (46 : Nat)) 0, none⟩,
  ⟨(some 50), .extract (.tmp (46 : Nat)) 1, none⟩,
  ⟨(some 7), .assign (.tmp (49 : Nat)), none⟩,
  ⟨(some 8), .assign (.tmp (50 : Nat)), none⟩]
def K2_CameraSees_r8 : List SO := [⟨(some 52), .load 30 (.tmp (5 : Nat)), none⟩,
  ⟨(some 53), .call ⟨(.value (.func (16 : Nat))), #[(.tmp (52 : Nat))], #[30]⟩, none⟩,
  ⟨(some 51), .move (.tmp (53 : Nat)), none⟩,
  ⟨(some 54), .extract (.tmp (51 : Nat)) 0, none⟩,
  ⟨(some 55), .extract (.tmp (51 : Nat)) 1, none⟩,
  ⟨(some 9), .alloc 24, none⟩,
  ⟨none, .store 24 (.tmp (9 : Nat)) (.tmp (54 : Nat)), none⟩,
  ⟨(some 10), .assign (.tmp (55 : Nat)), none⟩]
def K2_CameraSees_r9 : List SO := [⟨(some 56), .move (.tmp (8 : Nat)), none⟩,
  ⟨(some 57), .binOp .neq 31 (.tmp (56 : Nat)) (.const (.int .i64 0)) 31, none⟩,
  ⟨(some 58), .move (.tmp (57 : Nat)), none⟩,
  ⟨(some 59), .move (.tmp (10 : Nat)), (some (58, false))⟩,
  ⟨(some 60), .binOp .neq 31 (.tmp (59 : Nat)) (.const (.int .i64 0)) 31, (some (58, false))⟩,
  ⟨(some 61), .pick (.tmp (58 : Nat)) (.const (.bool true)) (.tmp (60 : Nat)), none⟩]
def K2_CameraSees_r10 : List SO := [⟨(some 4), .assign (.const (.bool false)), none⟩]
def K2_CameraSees_r11 : List SO := [⟨(some 63), .load 24 (.tmp (9 : Nat)), none⟩,
  ⟨(some 64), .call ⟨(.value (.func (15 : Nat))), #[(.tmp (63 : Nat))], #[24]⟩, none⟩,
  ⟨(some 62), .move (.tmp (64 : Nat)), none⟩,
  ⟨(some 65), .extract (.tmp (62 : Nat)) 0, none⟩,
  ⟨(some 66), .extract (.tmp (62 : Nat)) 1, none⟩,
  ⟨(some 11), .assign (.tmp (65 : Nat)), none⟩,
  ⟨(some 12), .assign (.tmp (66 : Nat)), none⟩]
def K2_CameraSees_r12 : List SO := [⟨(some 67), .move (.tmp (12 : Nat)), none⟩,
  ⟨(some 68), .binOp .neq 31 (.tmp (67 : Nat)) (.const (.int .i64 0)) 31, none⟩,
  ⟨(some 69), .move (.tmp (68 : Nat)), none⟩,
  ⟨(some 70), .move (.tmp (11 : Nat)), (some (69, false))⟩,
  ⟨(some 71), .move (.tmp (7 : Nat)), (some (69, false))⟩,
  ⟨(some 72), .fieldAddr 27 (.tmp (3 : Nat)) 0, (some (69, false))⟩,
  ⟨(some 73), .load 3 (.tmp (72 : Nat)), (some (69, false))⟩,
  ⟨(some 74), .binOp .mul 3 (.tmp (71 : Nat)) (.tmp (73 : Nat)) 3, (some (69, false))⟩,
  ⟨(some 75), .fieldAddr 27 (.tmp (3 : Nat)) 0, (some (69, false))⟩,
  ⟨(some 76), .load 3 (.tmp (75 : Nat)), (some (69, false))⟩,
  ⟨(some 77), .binOp .mul 3 (.tmp (74 : Nat)) (.tmp (76 : Nat)) 3, (some (69, false))⟩,
  ⟨(some 78), .binOp .neq 3 (.tmp (70 : Nat)) (.tmp (77 : Nat)) 3, (some (69, false))⟩,
  ⟨(some 79), .pick (.tmp (69 : Nat)) (.const (.bool true)) (.tmp (78 : Nat)), none⟩]
def K2_CameraSees_r13 : List SO := [⟨(some 4), .assign (.const (.bool false)), none⟩]
def K2_CameraSees_r14 : List SO := [⟨(some 80), .load 24 (.tmp (2 : Nat)), none⟩,
  ⟨(some 81), .fieldAddr 27 (.tmp (3 : Nat)) 3, none⟩,
  ⟨(some 82), .load 3 (.tmp (81 : Nat)), none⟩,
  ⟨(some 83), .call ⟨(.value (.func (17 : Nat))), #[(.tmp (80 : Nat)), (.tmp (82 : Nat))], #[24, 3]⟩, none⟩,
  ⟨(some 13), .alloc 24, none⟩,
  ⟨none, .store 24 (.tmp (13 : Nat)) (.tmp (83 : Nat)), none⟩]
def K2_CameraSees_r15 : List SO := [⟨(some 84), .fieldAddr 24 (.tmp (13 : Nat)) 1, none⟩,
  ⟨(some 85), .load 3 (.tmp (84 : Nat)), none⟩,
  ⟨(some 86), .move (.const (.int .i64 0)), none⟩]
def K2_CameraSees_r16 : List SO := [⟨(some 87), .binOp .lss 3 (.tmp (86 : Nat)) (.tmp (85 : Nat)) 3, none⟩]
def K2_CameraSees_r17 : List SO := [⟨(some 88), .move (.tmp (86 : Nat)), none⟩,
  ⟨(some 14), .assign (.tmp (88 : Nat)), none⟩]
def K2_CameraSees_r18 : List SO := [⟨(some 89), .fieldAddr 24 (.tmp (13 : Nat)) 0, none⟩,
  ⟨(some 90), .load 3 (.tmp (89 : Nat)), none⟩,
  ⟨(some 91), .move (.const (.int .i64 0)), none⟩]
def K2_CameraSees_r19 : List SO := [⟨(some 92), .binOp .lss 3 (.tmp (91 : Nat)) (.tmp (90 : Nat)) 3, none⟩]
def K2_CameraSees_r20 : List SO := [⟨(some 93), .move (.tmp (91 : Nat)), none⟩,
  ⟨(some 15), .assign (.tmp (93 : Nat)), none⟩]
def K2_CameraSees_r21 : List SO := [⟨(some 94), .load 24 (.tmp (9 : Nat)), none⟩,
  ⟨(some 95), .fieldAddr 27 (.tmp (3 : Nat)) 1, none⟩,
  ⟨(some 96), .load 3 (.tmp (95 : Nat)), none⟩,
  ⟨(some 97), .move (.tmp (15 : Nat)), none⟩,
  ⟨(some 98), .fieldAddr 27 (.tmp (3 : Nat)) 0, none⟩,
  ⟨(some 99), .load 3 (.tmp (98 : Nat)), none⟩,
  ⟨(some 100), .binOp .mul 3 (.tmp (97 : Nat)) (.tmp (99 : Nat)) 3, none⟩,
  ⟨(some 101), .binOp .add 3 (.tmp (96 : Nat)) (.tmp (100 : Nat)) 3, none⟩,
  ⟨(some 102), .fieldAddr 27 (.tmp (3 : Nat)) 2, none⟩,
  ⟨(some 103), .load 3 (.tmp (102 : Nat)), none⟩,
  ⟨(some 104), .move (.tmp (14 : Nat)), none⟩,
  ⟨(some 105), .fieldAddr 27 (.tmp (3 : Nat)) 0, none⟩,
  ⟨(some 106), .load 3 (.tmp (105 : Nat)), none⟩,
  ⟨(some 107), .binOp .mul 3 (.tmp (104 : Nat)) (.tmp (106 : Nat)) 3, none⟩,
  ⟨(some 108), .binOp .add 3 (.tmp (103 : Nat)) (.tmp (107 : Nat)) 3, none⟩,
  ⟨(some 109), .call ⟨(.value (.func (18 : Nat))), #[(.tmp (94 : Nat)), (.tmp (101 : Nat)), (.tmp (108 : Nat))], #[24, 3, 3]⟩, none⟩,
  ⟨(some 110), .load 24 (.tmp (13 : Nat)), none⟩,
  ⟨(some 111), .move (.tmp (15 : Nat)), none⟩,
  ⟨(some 112), .move (.tmp (14 : Nat)), none⟩,
  ⟨(some 113), .call ⟨(.value (.func (18 : Nat))), #[(.tmp (110 : Nat)), (.tmp (111 : Nat)), (.tmp (112 : Nat))], #[24, 3, 3]⟩, none⟩,
  ⟨(some 114), .binOp .neq 4 (.tmp (109 : Nat)) (.tmp (113 : Nat)) 4, none⟩]
def K2_CameraSees_a21 : List (List Nat) := [[], [], [1], [], [], [4], [3, 5], [2, 6], [], [8], [], [], [11], [10, 12], [9, 13], [0, 7, 14], [], [], [], [16, 17, 18, 15], [15, 19]]
def K2_CameraSees_r22 : List SO := [⟨(some 4), .assign (.const (.bool false)), none⟩]
def K2_CameraSees_r23 : List SO := [⟨(some 115), .binOp .add 3 (.tmp (91 : Nat)) (.const (.int .i64 1)) 3, none⟩,
  ⟨(some 91), .move (.tmp (115 : Nat)), none⟩]
def K2_CameraSees_r24 : List SO := [⟨(some 116), .binOp .add 3 (.tmp (86 : Nat)) (.const (.int .i64 1)) 3, none⟩,
  ⟨(some 86), .move (.tmp (116 : Nat)), none⟩]
def K2_CameraSees_r25 : List SO := [⟨(some 4), .assign (.const (.bool true)), none⟩]
def K2_CameraSees_c : SF := ⟨117, (.seq (.reg K2_CameraSees_r0)
  (.seq (.seq (.reg K2_CameraSees_r1)
  (.cond (.tmp (17 : Nat)) (.seq (.reg K2_CameraSees_r2)
  .ret) .skip))
  (.seq (.reg K2_CameraSees_r3)
  (.seq (.reg K2_CameraSees_r4)
  (.seq (.seq (.reg K2_CameraSees_r5)
  (.cond (.tmp (37 : Nat)) (.seq (.reg K2_CameraSees_r6)
  .ret) .skip))
  (.seq (.reg K2_CameraSees_r7)
  (.seq (.reg K2_CameraSees_r8)
  (.seq (.seq (.reg K2_CameraSees_r9)
  (.cond (.tmp (61 : Nat)) (.seq (.reg K2_CameraSees_r10)
  .ret) .skip))
  (.seq (.reg K2_CameraSees_r11)
  (.seq (.seq (.reg K2_CameraSees_r12)
  (.cond (.tmp (79 : Nat)) (.seq (.reg K2_CameraSees_r13)
  .ret) .skip))
  (.seq (.reg K2_CameraSees_r14)
  (.seq (.seq (.reg K2_CameraSees_r15)
  (.block 0 (.loop (.seq (.reg K2_CameraSees_r16)
  (.seq (.cond (.tmp (87 : Nat)) .skip (.exit 0))
  (.seq (.block 1 (.seq (.reg K2_CameraSees_r17)
  (.seq (.reg K2_CameraSees_r18)
  (.block 2 (.loop (.seq (.reg K2_CameraSees_r19)
  (.seq (.cond (.tmp (92 : Nat)) .skip (.exit 2))
  (.seq (.block 3 (.seq (.reg K2_CameraSees_r20)
  (.seq (.regd K2_CameraSees_r21 K2_CameraSees_a21)
  (.cond (.tmp (114 : Nat)) (.seq (.reg K2_CameraSees_r22)
  .ret) .skip))))
  (.reg K2_CameraSees_r23)))))))))
  (.reg K2_CameraSees_r24)))))))
  (.seq (.reg K2_CameraSees_r25)
  .ret))))))))))))), [.tmp 4]⟩
theorem K2_CameraSees_s : slimF Try.prog 4 = some K2_CameraSees_c := by kernel_rfl
abbrev K2_CameraSees_f : Nat := 4

end Go.Proofs.Ytjedljdfkoagbaa
