/- Printed by program: the functions' code in few words; the kernel checks it against the translation. -/
import Derived.Test.YtfgaefpdccdfiaaRows
import Derived.Test.YtfgaefpdccdfiaaLiteTN
namespace Go.Proofs.Ytfgaefpdccdfiaa
open Go Go.Lite
set_option linter.unusedVariables false

/-- Int -/
abbrev Ei : Nat := 0
/-- Int × Int -/
abbrev E2i : Nat := 1
/-- Int × Int × Int -/
abbrev E3i : Nat := 2
/-- Int -/
abbrev Ey : Nat := 3
/-- ByteArray × Int × Int × Int × Int × Int × Int × List (Int × Int) × List (Int) -/
abbrev Es6iL2iJLiJ : Nat := 4
/-- ByteArray -/
abbrev Es : Nat := 5
@[reducible] def A (e : Nat) : Type := match e with
  | 0 => Int
  | 1 => Int × Int
  | 2 => Int × Int × Int
  | 3 => Int
  | 4 => ByteArray × Int × Int × Int × Int × Int × Int × List (Int × Int) × List (Int)
  | 5 => ByteArray
  | _ => Unit
def eSz (e : Nat) : Nat := match e with
  | 0 => 1
  | 1 => 2
  | 2 => 3
  | 3 => 1
  | 4 => 9
  | 5 => 1
  | _ => 1
def eD (e : Nat) : A e := match e with
  | 0 => (0 : Int)
  | 1 => ((0 : Int), (0 : Int))
  | 2 => ((0 : Int), (0 : Int), (0 : Int))
  | 3 => (0 : Int)
  | 4 => ((⟨#[]⟩ : ByteArray), (0 : Int), (0 : Int), (0 : Int), (0 : Int), (0 : Int), (0 : Int), ([] : List (Int × Int)), ([] : List (Int)))
  | 5 => (⟨#[]⟩ : ByteArray)
  | _ + 6 => ()
def encL0 (x : Int) : List LV := [.int .i64 (x)]
def enc0 (x : Int) : List (TV A) := [.int .i64 (x)]
def dec0 (cs : List (TV A)) : Option (Int) := match cs with
  | [.int .i64 x0] => some x0
  | _ => none
def encL1 (x : Int × Int) : List LV := [.int .i64 (x.1), .int .i64 (x.2)]
def enc1 (x : Int × Int) : List (TV A) := [.int .i64 (x.1), .int .i64 (x.2)]
def dec1 (cs : List (TV A)) : Option (Int × Int) := match cs with
  | [.int .i64 x0, .int .i64 x1] => some (x0, x1)
  | _ => none
def encL2 (x : Int × Int × Int) : List LV := [.int .i64 (x.1), .int .i64 (x.2.1), .int .i64 (x.2.2)]
def enc2 (x : Int × Int × Int) : List (TV A) := [.int .i64 (x.1), .int .i64 (x.2.1), .int .i64 (x.2.2)]
def dec2 (cs : List (TV A)) : Option (Int × Int × Int) := match cs with
  | [.int .i64 x0, .int .i64 x1, .int .i64 x2] => some (x0, x1, x2)
  | _ => none
def encL3 (x : Int) : List LV := [.int .u8 (x)]
def enc3 (x : Int) : List (TV A) := [.int .u8 (x)]
def dec3 (cs : List (TV A)) : Option (Int) := match cs with
  | [.int .u8 x0] => some x0
  | _ => none
def encL4 (x : ByteArray × Int × Int × Int × Int × Int × Int × List (Int × Int) × List (Int)) : List LV := [.str (x.1), .int .i64 (x.2.1), .int .i64 (x.2.2.1), .int .i64 (x.2.2.2.1), .int .i64 (x.2.2.2.2.1), .int .i64 (x.2.2.2.2.2.1), .int .i64 (x.2.2.2.2.2.2.1), .ps 2 (List.length (x.2.2.2.2.2.2.2.1)) (List.flatMap encL1 (x.2.2.2.2.2.2.2.1)), .ps 1 (List.length (x.2.2.2.2.2.2.2.2)) (List.flatMap encL0 (x.2.2.2.2.2.2.2.2))]
def enc4 (x : ByteArray × Int × Int × Int × Int × Int × Int × List (Int × Int) × List (Int)) : List (TV A) := [.str (x.1), .int .i64 (x.2.1), .int .i64 (x.2.2.1), .int .i64 (x.2.2.2.1), .int .i64 (x.2.2.2.2.1), .int .i64 (x.2.2.2.2.2.1), .int .i64 (x.2.2.2.2.2.2.1), .lst 1 (x.2.2.2.2.2.2.2.1), .lst 0 (x.2.2.2.2.2.2.2.2)]
def dec4 (cs : List (TV A)) : Option (ByteArray × Int × Int × Int × Int × Int × Int × List (Int × Int) × List (Int)) := match cs with
  | [.str x0, .int .i64 x1, .int .i64 x2, .int .i64 x3, .int .i64 x4, .int .i64 x5, .int .i64 x6, .lst 1 x7, .lst 0 x8] => some (x0, x1, x2, x3, x4, x5, x6, x7, x8)
  | _ => none
def encL5 (x : ByteArray) : List LV := [.str (x)]
def enc5 (x : ByteArray) : List (TV A) := [.str (x)]
def dec5 (cs : List (TV A)) : Option (ByteArray) := match cs with
  | [.str x0] => some x0
  | _ => none
def eEncL (e : Nat) (a : A e) : List LV := match e, a with
  | 0, a => encL0 a
  | 1, a => encL1 a
  | 2, a => encL2 a
  | 3, a => encL3 a
  | 4, a => encL4 a
  | 5, a => encL5 a
  | _ + 6, _ => [.nilp]
def eEnc (e : Nat) (a : A e) : List (TV A) := match e, a with
  | 0, a => enc0 a
  | 1, a => enc1 a
  | 2, a => enc2 a
  | 3, a => enc3 a
  | 4, a => enc4 a
  | 5, a => enc5 a
  | _ + 6, _ => [.nilp]
def eDec (e : Nat) (cs : List (TV A)) : Option (A e) := match e with
  | 0 => dec0 cs
  | 1 => dec1 cs
  | 2 => dec2 cs
  | 3 => dec3 cs
  | 4 => dec4 cs
  | 5 => dec5 cs
  | _ + 6 => none
def eEl (t : Nat) : Option Nat := match t with
  | 22 => some 0
  | 50 => some 1
  | 65 => some 2
  | 66 => some 3
  | 72 => some 4
  | 73 => some 5
  | 115 => some 1
  | _ => none
def fl (e : Nat) : Bool := match e with
  | 0 => true
  | 1 => true
  | 2 => true
  | 3 => true
  | 4 => false
  | 5 => true
  | _ => false
def R : Reg A := ⟨eSz, eD, eEncL, eEnc, eDec, eEl⟩
theorem R_ok : R.Ok where
  pos e := by show 0 < eSz e; unfold eSz; split <;> decide
  len e a := match e, a with
    | 0, a => rfl
    | 1, a => rfl
    | 2, a => rfl
    | 3, a => rfl
    | 4, a => rfl
    | 5, a => rfl
    | e + 6, a => rfl
  ok e a := match e, a with
    | 0, a => rfl
    | 1, a => rfl
    | 2, a => rfl
    | 3, a => rfl
    | 4, a => rfl
    | 5, a => rfl
    | e + 6, a => rfl
  dec e cs a h := match e, a, h with
    | 0, a, h => by
      replace h : dec0 cs = some a := h
      unfold dec0 at h
      split at h
      · cases h; rfl
      · cases h
    | 1, a, h => by
      replace h : dec1 cs = some a := h
      unfold dec1 at h
      split at h
      · cases h; rfl
      · cases h
    | 2, a, h => by
      replace h : dec2 cs = some a := h
      unfold dec2 at h
      split at h
      · cases h; rfl
      · cases h
    | 3, a, h => by
      replace h : dec3 cs = some a := h
      unfold dec3 at h
      split at h
      · cases h; rfl
      · cases h
    | 4, a, h => by
      replace h : dec4 cs = some a := h
      unfold dec4 at h
      split at h
      · cases h; rfl
      · cases h
    | 5, a, h => by
      replace h : dec5 cs = some a := h
      unfold dec5 at h
      split at h
      · cases h; rfl
      · cases h
    | e + 6, a, h => by cases h
  free e a := match e, a with
    | 0, a => rfl
    | 1, a => rfl
    | 2, a => rfl
    | 3, a => rfl
    | 4, a => rfl
    | 5, a => rfl
    | e + 6, a => rfl
  sol e a := match e, a with
    | 0, a => rfl
    | 1, a => rfl
    | 2, a => rfl
    | 3, a => rfl
    | 4, a => rfl
    | 5, a => rfl
    | e + 6, a => rfl
theorem fl_ok : ∀ e, fl e = true → ∀ a, psfreeL (R.encL e a) = true := fun e h a => match e, h, a with
  | 0, h, a => rfl
  | 1, h, a => rfl
  | 2, h, a => rfl
  | 3, h, a => rfl
  | 4, h, a => by cases h
  | 5, h, a => rfl
  | e + 6, h, a => rfl

def tyL : List (Nat × TI) := [(0, ⟨.other, 1, false, [.dead]⟩),
  (22, ⟨.slice 1 8 [.int .i64 0], 1, false, [.nils]⟩),
  (24, ⟨.int .i64, 1, false, [.int .i64 0]⟩),
  (3, ⟨.int .i64, 1, false, [.int .i64 0]⟩),
  (33, ⟨.struct [(0, 1, false), (1, 1, false), (2, 1, false)], 3, true, [.int .i64 0, .int .i64 0, .int .i64 0]⟩),
  (35, ⟨.struct [(0, 1, false), (1, 1, false), (2, 1, false)], 3, true, [.int .i64 0, .int .i64 0, .int .i64 0]⟩),
  (52, ⟨.struct [(0, 1, false)], 1, true, [.nils]⟩),
  (50, ⟨.slice 2 16 [.int .i64 0, .int .i64 0], 1, false, [.nils]⟩),
  (64, ⟨.struct [(0, 1, false), (1, 1, false)], 2, true, [.int .i64 0, .int .i64 0]⟩),
  (65, ⟨.slice 3 24 [.int .i64 0, .int .i64 0, .int .i64 0], 1, false, [.nils]⟩),
  (66, ⟨.slice 1 1 [.int .u8 0], 1, false, [.nils]⟩),
  (68, ⟨.struct [(0, 1, false), (1, 1, false), (2, 1, false)], 3, true, [.int .i64 0, .int .i64 0, .nils]⟩),
  (5, ⟨.int .u8, 1, false, [.int .u8 0]⟩),
  (72, ⟨.slice 9 112 [.str ⟨([] : List UInt8).toArray⟩, .int .i64 0, .int .i64 0, .int .i64 0, .int .i64 0, .int .i64 0, .int .i64 0, .nils, .nils], 1, false, [.nils]⟩),
  (73, ⟨.slice 1 16 [.str ⟨([] : List UInt8).toArray⟩], 1, false, [.nils]⟩),
  (9, ⟨.str, 1, false, [.str ⟨([] : List UInt8).toArray⟩]⟩),
  (77, ⟨.struct [(0, 1, false), (1, 3, true), (4, 3, true), (7, 1, true), (8, 1, false)], 9, true, [.str ⟨([] : List UInt8).toArray⟩, .int .i64 0, .int .i64 0, .int .i64 0, .int .i64 0, .int .i64 0, .int .i64 0, .nils, .nils]⟩),
  (27, ⟨.other, 1, false, [.nilf]⟩),
  (110, ⟨.other, 1, false, [.nilp]⟩),
  (113, ⟨.arr 3 1 false, 3, true, [.int .i64 0, .int .i64 0, .int .i64 0]⟩),
  (117, ⟨.struct [(0, 1, false), (1, 1, false)], 2, true, [.int .i64 0, .int .i64 0]⟩),
  (115, ⟨.slice 2 16 [.int .i64 0, .int .i64 0], 1, false, [.nils]⟩)]
theorem tyL_ok : okL (tiOf Try.prog) tyL := ⟨by kernel_rfl, by kernel_rfl, by kernel_rfl, by kernel_rfl, by kernel_rfl, by kernel_rfl, by kernel_rfl, by kernel_rfl, by kernel_rfl, by kernel_rfl, by kernel_rfl, by kernel_rfl, by kernel_rfl, by kernel_rfl, by kernel_rfl, by kernel_rfl, by kernel_rfl, by kernel_rfl, by kernel_rfl, by kernel_rfl, by kernel_rfl, by kernel_rfl, trivial⟩
def eqL : List (Nat × List Nat) := [(35, [0, 0, 0]), (33, [0, 0, 0]), (64, [0, 0])]
theorem eqL_ok : okL (eqOf Try.prog) eqL := ⟨by kernel_rfl, by kernel_rfl, by kernel_rfl, trivial⟩
def nlL : List (Nat × Nat) := [(24, 0), (3, 0), (35, 0), (27, 1), (33, 0), (64, 0), (9, 0), (5, 0)]
theorem nlL_ok : okN (nilOf Try.prog) nlL := ⟨by kernel_rfl, by kernel_rfl, by kernel_rfl, by kernel_rfl, by kernel_rfl, by kernel_rfl, by kernel_rfl, by kernel_rfl, trivial⟩
noncomputable def ty : TT := ⟨lookT tyL (tiOf Try.prog), lookT eqL (eqOf Try.prog), lookN nlL (nilOf Try.prog)⟩
theorem ty_ok : ty = ttOf Try.prog := by
  unfold ty ttOf
  rw [lookT_eq tyL_ok, lookT_eq eqL_ok, lookN_eq nlL_ok]
def Wi (x : Int) : Prop := rng .i64 x
def W2i (x : Int × Int) : Prop := rng .i64 x.1 ∧ rng .i64 x.2
def W3i (x : Int × Int × Int) : Prop := rng .i64 x.1 ∧ rng .i64 x.2.1 ∧ rng .i64 x.2.2
def Wy (x : Int) : Prop := rng .u8 x
def Ws6iL2iJLiJ (x : ByteArray × Int × Int × Int × Int × Int × Int × List (Int × Int) × List (Int)) : Prop := ByteArray.size x.1 ≤ 9223372036854775807 ∧ rng .i64 x.2.1 ∧ rng .i64 x.2.2.1 ∧ rng .i64 x.2.2.2.1 ∧ rng .i64 x.2.2.2.2.1 ∧ rng .i64 x.2.2.2.2.2.1 ∧ rng .i64 x.2.2.2.2.2.2.1 ∧ (List.length x.2.2.2.2.2.2.2.1 ≤ 9223372036854775807 ∧ ∀ y ∈ x.2.2.2.2.2.2.2.1, W2i y) ∧ (List.length x.2.2.2.2.2.2.2.2 ≤ 9223372036854775807 ∧ ∀ y ∈ x.2.2.2.2.2.2.2.2, Wi y)
def Ws (x : ByteArray) : Prop := ByteArray.size x ≤ 9223372036854775807
theorem rdi : R.d Ei = (0 : Int) := rfl
theorem rd2i : R.d E2i = ((0 : Int), (0 : Int)) := rfl
theorem rd3i : R.d E3i = ((0 : Int), (0 : Int), (0 : Int)) := rfl
theorem rdy : R.d Ey = (0 : Int) := rfl
theorem rds6iL2iJLiJ : R.d Es6iL2iJLiJ = ((⟨#[]⟩ : ByteArray), (0 : Int), (0 : Int), (0 : Int), (0 : Int), (0 : Int), (0 : Int), ([] : List (Int × Int)), ([] : List (Int))) := rfl
theorem rds : R.d Es = (⟨#[]⟩ : ByteArray) := rfl
theorem env : Env A R Try.prog ty fl := ⟨R_ok, ty_ok, fl_ok, by kernel_rfl⟩

end Go.Proofs.Ytfgaefpdccdfiaa
namespace Go.Proofs.Ytfgaefpdccdfiaa
open Go Go.Lite
set_option linter.unusedVariables false

/-- printworks/curve.Flip -/
def curve_Flip_r0 : List SO := [⟨(some 1), .box 52 (.tmp (0 : Nat)), none⟩,
  ⟨(some 2), .alloc 52, none⟩,
  ⟨(some 3), .assign (.const (.int .i64 0)), none⟩]
def curve_Flip_r1 : List SO := [⟨(some 9), .load 52 (.tmp (1 : Nat)), none⟩,
  ⟨(some 10), .call ⟨(.value (.func (33 : Nat))), #[(.tmp (9 : Nat))], #[52]⟩, none⟩,
  ⟨(some 4), .assign (.tmp (10 : Nat)), none⟩]
def curve_Flip_r2 : List SO := [⟨(some 11), .move (.tmp (4 : Nat)), none⟩,
  ⟨(some 12), .binOp .neq 24 (.tmp (11 : Nat)) (.const (.int .i64 0)) 24, none⟩]
def curve_Flip_r3 : List SO := [⟨(some 13), .build 52 #[], none⟩,
  ⟨(some 14), .move (.tmp (4 : Nat)), none⟩,
  ⟨none, .store 52 (.tmp (2 : Nat)) (.tmp (13 : Nat)), none⟩,
  ⟨(some 3), .assign (.tmp (14 : Nat)), none⟩]
def curve_Flip_r4 : List SO := [⟨(some 15), .fieldAddr 52 (.tmp (1 : Nat)) 0, none⟩,
  ⟨(some 16), .load 50 (.tmp (15 : Nat)), none⟩,
  ⟨(some 17), .call ⟨(.builtin .len), #[(.tmp (16 : Nat))], #[50]⟩, none⟩,
  ⟨(some 5), .assign (.tmp (17 : Nat)), none⟩]
def curve_Flip_r5 : List SO := [⟨(some 18), .move (.tmp (5 : Nat)), none⟩,
  ⟨(some 19), .makeSlice 50 (.tmp (18 : Nat)) (.tmp (18 : Nat)), none⟩,
  ⟨(some 6), .assign (.tmp (19 : Nat)), none⟩]
def curve_Flip_r6 : List SO := [⟨(some 20), .fieldAddr 52 (.tmp (1 : Nat)) 0, none⟩,
  ⟨(some 21), .load 50 (.tmp (20 : Nat)), none⟩,
  ⟨(some 22), .call ⟨(.builtin .len), #[(.tmp (21 : Nat))], #[50]⟩, none⟩,
  ⟨(some 23), .move (.const (.int .i64 0)), none⟩]
def curve_Flip_r7 : List SO := [⟨(some 24), .binOp .lss 3 (.tmp (23 : Nat)) (.tmp (22 : Nat)) 3, none⟩]
def curve_Flip_r8 : List SO := [⟨(some 25), .move (.tmp (23 : Nat)), none⟩,
  ⟨(some 26), .indexAddr 50 (.tmp (21 : Nat)) (.tmp (23 : Nat)), none⟩,
  ⟨(some 27), .load 64 (.tmp (26 : Nat)), none⟩,
  ⟨(some 8), .alloc 64, none⟩,
  ⟨(some 7), .assign (.tmp (25 : Nat)), none⟩,
  ⟨none, .store 64 (.tmp (8 : Nat)) (.tmp (27 : Nat)), none⟩]
def curve_Flip_r9 : List SO := [⟨(some 28), .move (.tmp (6 : Nat)), none⟩,
  ⟨(some 29), .move (.tmp (5 : Nat)), none⟩,
  ⟨(some 30), .binOp .sub 3 (.tmp (29 : Nat)) (.const (.int .i64 1)) 3, none⟩,
  ⟨(some 31), .move (.tmp (7 : Nat)), none⟩,
  ⟨(some 32), .binOp .sub 3 (.tmp (30 : Nat)) (.tmp (31 : Nat)) 3, none⟩,
  ⟨(some 33), .fieldAddr 64 (.tmp (8 : Nat)) 0, none⟩,
  ⟨(some 34), .load 3 (.tmp (33 : Nat)), none⟩,
  ⟨(some 35), .binOp .sub 3 (.const (.int .i64 65280)) (.tmp (34 : Nat)) 3, none⟩,
  ⟨(some 36), .fieldAddr 64 (.tmp (8 : Nat)) 1, none⟩,
  ⟨(some 37), .load 3 (.tmp (36 : Nat)), none⟩,
  ⟨(some 38), .binOp .sub 3 (.const (.int .i64 65280)) (.tmp (37 : Nat)) 3, none⟩,
  ⟨(some 39), .build 64 #[(0, (.tmp (35 : Nat))), (1, (.tmp (38 : Nat)))], none⟩,
  ⟨(some 40), .indexAddr 50 (.tmp (28 : Nat)) (.tmp (32 : Nat)), none⟩,
  ⟨none, .store 64 (.tmp (40 : Nat)) (.tmp (39 : Nat)), none⟩]
def curve_Flip_r10 : List SO := [⟨(some 41), .binOp .add 3 (.tmp (23 : Nat)) (.const (.int .i64 1)) 3, none⟩,
  ⟨(some 23), .move (.tmp (41 : Nat)), none⟩]
def curve_Flip_r11 : List SO := [⟨(some 42), .move (.tmp (6 : Nat)), none⟩,
  ⟨(some 43), .build 52 #[(0, (.tmp (42 : Nat)))], none⟩,
  ⟨none, .store 52 (.tmp (2 : Nat)) (.tmp (43 : Nat)), none⟩,
  ⟨(some 3), .assign (.const (.int .i64 0)), none⟩]
def curve_Flip_c : SF := ⟨44, (.seq (.reg curve_Flip_r0)
  (.seq (.seq (.reg curve_Flip_r1)
  (.seq (.reg curve_Flip_r2)
  (.cond (.tmp (12 : Nat)) (.seq (.reg curve_Flip_r3)
  .ret) .skip)))
  (.seq (.reg curve_Flip_r4)
  (.seq (.reg curve_Flip_r5)
  (.seq (.seq (.reg curve_Flip_r6)
  (.block 0 (.loop (.seq (.reg curve_Flip_r7)
  (.seq (.cond (.tmp (24 : Nat)) .skip (.exit 0))
  (.seq (.block 1 (.seq (.reg curve_Flip_r8)
  (.reg curve_Flip_r9)))
  (.reg curve_Flip_r10)))))))
  (.seq (.reg curve_Flip_r11)
  .ret)))))), [.cell 2 52, .tmp 3]⟩
theorem curve_Flip_s : slimF Try.prog 32 = some curve_Flip_c := by kernel_rfl
abbrev curve_Flip_f : Nat := 32
/-- printworks/curve.Check -/
def curve_Check_r0 : List SO := [⟨(some 1), .box 52 (.tmp (0 : Nat)), none⟩,
  ⟨(some 2), .assign (.const (.int .i64 0)), none⟩]
def curve_Check_r1 : List SO := [⟨(some 6), .fieldAddr 52 (.tmp (1 : Nat)) 0, none⟩,
  ⟨(some 7), .load 50 (.tmp (6 : Nat)), none⟩,
  ⟨(some 8), .call ⟨(.builtin .len), #[(.tmp (7 : Nat))], #[50]⟩, none⟩,
  ⟨(some 3), .assign (.tmp (8 : Nat)), none⟩]
def curve_Check_r2 : List SO := [⟨(some 10), .move (.tmp (3 : Nat)), none⟩,
  ⟨(some 11), .binOp .gtr 3 (.tmp (10 : Nat)) (.const (.int .i64 33)) 3, none⟩,
  ⟨(some 9), .assign (.tmp (11 : Nat)), none⟩]
def curve_Check_r3 : List SO := [⟨(some 2), .assign (.const (.int .i64 2)), none⟩]
def curve_Check_r4 : List SO := [⟨(some 13), .move (.tmp (3 : Nat)), none⟩,
  ⟨(some 14), .binOp .lss 3 (.tmp (13 : Nat)) (.const (.int .i64 2)) 3, none⟩,
  ⟨(some 12), .assign (.tmp (14 : Nat)), none⟩]
def curve_Check_r5 : List SO := [⟨(some 2), .assign (.const (.int .i64 1)), none⟩]
def curve_Check_r6 : List SO := [⟨(some 15), .fieldAddr 52 (.tmp (1 : Nat)) 0, none⟩,
  ⟨(some 16), .load 50 (.tmp (15 : Nat)), none⟩,
  ⟨(some 17), .call ⟨(.builtin .len), #[(.tmp (16 : Nat))], #[50]⟩, none⟩,
  ⟨(some 18), .move (.const (.int .i64 0)), none⟩]
def curve_Check_r7 : List SO := [⟨(some 19), .binOp .lss 3 (.tmp (18 : Nat)) (.tmp (17 : Nat)) 3, none⟩]
def curve_Check_r8 : List SO := [⟨(some 20), .move (.tmp (18 : Nat)), none⟩,
  ⟨(some 21), .indexAddr 50 (.tmp (16 : Nat)) (.tmp (18 : Nat)), none⟩,
  ⟨(some 22), .load 64 (.tmp (21 : Nat)), none⟩,
  ⟨(some 5), .alloc 64, none⟩,
  ⟨(some 4), .assign (.tmp (20 : Nat)), none⟩,
  ⟨none, .store 64 (.tmp (5 : Nat)) (.tmp (22 : Nat)), none⟩]
def curve_Check_r9 : List SO := [⟨(some 23), .fieldAddr 64 (.tmp (5 : Nat)) 0, none⟩,
  ⟨(some 24), .load 3 (.tmp (23 : Nat)), none⟩,
  ⟨(some 25), .binOp .lss 3 (.tmp (24 : Nat)) (.const (.int .i64 0)) 3, none⟩,
  ⟨(some 26), .move (.tmp (25 : Nat)), none⟩,
  ⟨(some 27), .fieldAddr 64 (.tmp (5 : Nat)) 0, (some (26, false))⟩,
  ⟨(some 28), .load 3 (.tmp (27 : Nat)), (some (26, false))⟩,
  ⟨(some 29), .binOp .gtr 3 (.tmp (28 : Nat)) (.const (.int .i64 65280)) 3, (some (26, false))⟩,
  ⟨(some 30), .pick (.tmp (26 : Nat)) (.const (.bool true)) (.tmp (29 : Nat)), none⟩,
  ⟨(some 31), .move (.tmp (30 : Nat)), none⟩,
  ⟨(some 32), .fieldAddr 64 (.tmp (5 : Nat)) 1, (some (31, false))⟩,
  ⟨(some 33), .load 3 (.tmp (32 : Nat)), (some (31, false))⟩,
  ⟨(some 34), .binOp .lss 3 (.tmp (33 : Nat)) (.const (.int .i64 0)) 3, (some (31, false))⟩,
  ⟨(some 35), .pick (.tmp (31 : Nat)) (.const (.bool true)) (.tmp (34 : Nat)), none⟩,
  ⟨(some 36), .move (.tmp (35 : Nat)), none⟩,
  ⟨(some 37), .fieldAddr 64 (.tmp (5 : Nat)) 1, (some (36, false))⟩,
  ⟨(some 38), .load 3 (.tmp (37 : Nat)), (some (36, false))⟩,
  ⟨(some 39), .binOp .gtr 3 (.tmp (38 : Nat)) (.const (.int .i64 65280)) 3, (some (36, false))⟩,
  ⟨(some 40), .pick (.tmp (36 : Nat)) (.const (.bool true)) (.tmp (39 : Nat)), none⟩]
def curve_Check_r10 : List SO := [⟨(some 2), .assign (.const (.int .i64 3)), none⟩]
def curve_Check_r11 : List SO := [⟨(some 41), .move (.tmp (4 : Nat)), none⟩,
  ⟨(some 42), .binOp .gtr 3 (.tmp (41 : Nat)) (.const (.int .i64 0)) 3, none⟩,
  ⟨(some 43), .move (.tmp (42 : Nat)), none⟩,
  ⟨(some 44), .fieldAddr 64 (.tmp (5 : Nat)) 0, (some (43, true))⟩,
  ⟨(some 45), .load 3 (.tmp (44 : Nat)), (some (43, true))⟩,
  ⟨(some 46), .fieldAddr 52 (.tmp (1 : Nat)) 0, (some (43, true))⟩,
  ⟨(some 47), .load 50 (.tmp (46 : Nat)), (some (43, true))⟩,
  ⟨(some 48), .move (.tmp (4 : Nat)), (some (43, true))⟩,
  ⟨(some 49), .binOp .sub 3 (.tmp (48 : Nat)) (.const (.int .i64 1)) 3, (some (43, true))⟩,
  ⟨(some 50), .indexAddr 50 (.tmp (47 : Nat)) (.tmp (49 : Nat)), (some (43, true))⟩,
  ⟨(some 51), .fieldAddr 64 (.tmp (50 : Nat)) 0, (some (43, true))⟩,
  ⟨(some 52), .load 3 (.tmp (51 : Nat)), (some (43, true))⟩,
  ⟨(some 53), .binOp .leq 3 (.tmp (45 : Nat)) (.tmp (52 : Nat)) 3, (some (43, true))⟩,
  ⟨(some 54), .move (.tmp (53 : Nat)), (some (43, true))⟩,
  ⟨(some 55), .fieldAddr 64 (.tmp (5 : Nat)) 1, (some (54, false))⟩,
  ⟨(some 56), .load 3 (.tmp (55 : Nat)), (some (54, false))⟩,
  ⟨(some 57), .fieldAddr 52 (.tmp (1 : Nat)) 0, (some (54, false))⟩,
  ⟨(some 58), .load 50 (.tmp (57 : Nat)), (some (54, false))⟩,
  ⟨(some 59), .move (.tmp (4 : Nat)), (some (54, false))⟩,
  ⟨(some 60), .binOp .sub 3 (.tmp (59 : Nat)) (.const (.int .i64 1)) 3, (some (54, false))⟩,
  ⟨(some 61), .indexAddr 50 (.tmp (58 : Nat)) (.tmp (60 : Nat)), (some (54, false))⟩,
  ⟨(some 62), .fieldAddr 64 (.tmp (61 : Nat)) 1, (some (54, false))⟩,
  ⟨(some 63), .load 3 (.tmp (62 : Nat)), (some (54, false))⟩,
  ⟨(some 64), .binOp .lss 3 (.tmp (56 : Nat)) (.tmp (63 : Nat)) 3, (some (54, false))⟩,
  ⟨(some 65), .pick (.tmp (54 : Nat)) (.const (.bool true)) (.tmp (64 : Nat)), (some (43, true))⟩,
  ⟨(some 66), .pick (.tmp (43 : Nat)) (.tmp (65 : Nat)) (.const (.bool false)), none⟩]
def curve_Check_a11 : List (List Nat) := [[], [0], [1], [2], [3, 2], [2], [5, 2], [2], [7, 2], [6, 8, 2], [9, 2], [10, 2], [4, 11, 2], [12, 2, 2], [13], [14, 13], [13], [16, 13], [13], [18, 13], [17, 19, 13], [20, 13], [21, 13], [15, 22, 13], [13, 23, 2], [2, 24]]
def curve_Check_r12 : List SO := [⟨(some 2), .assign (.const (.int .i64 18)), none⟩]
def curve_Check_r13 : List SO := [⟨(some 67), .binOp .add 3 (.tmp (18 : Nat)) (.const (.int .i64 1)) 3, none⟩,
  ⟨(some 18), .move (.tmp (67 : Nat)), none⟩]
def curve_Check_r14 : List SO := [⟨(some 68), .fieldAddr 52 (.tmp (1 : Nat)) 0, none⟩,
  ⟨(some 69), .load 50 (.tmp (68 : Nat)), none⟩,
  ⟨(some 70), .indexAddr 50 (.tmp (69 : Nat)) (.const (.int .i64 0)), none⟩,
  ⟨(some 71), .fieldAddr 64 (.tmp (70 : Nat)) 0, none⟩,
  ⟨(some 72), .load 3 (.tmp (71 : Nat)), none⟩,
  ⟨(some 73), .binOp .neq 3 (.tmp (72 : Nat)) (.const (.int .i64 0)) 3, none⟩,
  ⟨(some 74), .move (.tmp (73 : Nat)), none⟩,
  ⟨(some 75), .fieldAddr 52 (.tmp (1 : Nat)) 0, (some (74, false))⟩,
  ⟨(some 76), .load 50 (.tmp (75 : Nat)), (some (74, false))⟩,
  ⟨(some 77), .fieldAddr 52 (.tmp (1 : Nat)) 0, (some (74, false))⟩,
  ⟨(some 78), .load 50 (.tmp (77 : Nat)), (some (74, false))⟩,
  ⟨(some 79), .call ⟨(.builtin .len), #[(.tmp (78 : Nat))], #[50]⟩, (some (74, false))⟩,
  ⟨(some 80), .binOp .sub 3 (.tmp (79 : Nat)) (.const (.int .i64 1)) 3, (some (74, false))⟩,
  ⟨(some 81), .indexAddr 50 (.tmp (76 : Nat)) (.tmp (80 : Nat)), (some (74, false))⟩,
  ⟨(some 82), .fieldAddr 64 (.tmp (81 : Nat)) 0, (some (74, false))⟩,
  ⟨(some 83), .load 3 (.tmp (82 : Nat)), (some (74, false))⟩,
  ⟨(some 84), .binOp .neq 3 (.tmp (83 : Nat)) (.const (.int .i64 65280)) 3, (some (74, false))⟩,
  ⟨(some 85), .pick (.tmp (74 : Nat)) (.const (.bool true)) (.tmp (84 : Nat)), none⟩]
def curve_Check_r15 : List SO := [⟨(some 2), .assign (.const (.int .i64 4)), none⟩]
def curve_Check_r16 : List SO := [⟨(some 2), .assign (.const (.int .i64 0)), none⟩]
def curve_Check_c : SF := ⟨86, (.seq (.reg curve_Check_r0)
  (.seq (.seq (.reg curve_Check_r1)
  (.block 0 (.seq (.reg curve_Check_r2)
  (.cond (.tmp (9 : Nat)) (.seq (.reg curve_Check_r3)
  .ret) (.seq (.reg curve_Check_r4)
  (.cond (.tmp (12 : Nat)) (.seq (.reg curve_Check_r5)
  .ret) .skip))))))
  (.seq (.seq (.reg curve_Check_r6)
  (.block 1 (.loop (.seq (.reg curve_Check_r7)
  (.seq (.cond (.tmp (19 : Nat)) .skip (.exit 1))
  (.seq (.block 2 (.seq (.reg curve_Check_r8)
  (.seq (.seq (.reg curve_Check_r9)
  (.cond (.tmp (40 : Nat)) (.seq (.reg curve_Check_r10)
  .ret) .skip))
  (.seq (.regd curve_Check_r11 curve_Check_a11)
  (.cond (.tmp (66 : Nat)) (.seq (.reg curve_Check_r12)
  .ret) .skip)))))
  (.reg curve_Check_r13)))))))
  (.seq (.seq (.reg curve_Check_r14)
  (.cond (.tmp (85 : Nat)) (.seq (.reg curve_Check_r15)
  .ret) .skip))
  (.seq (.reg curve_Check_r16)
  .ret))))), [.tmp 2]⟩
theorem curve_Check_s : slimF Try.prog 33 = some curve_Check_c := by kernel_rfl
abbrev curve_Check_f : Nat := 33
/-- printworks/curve.At -/
def curve_At_r0 : List SO := [⟨(some 2), .box 52 (.tmp (0 : Nat)), none⟩,
  ⟨(some 4), .assign (.const (.int .i64 0)), none⟩,
  ⟨(some 5), .assign (.const (.int .i64 0)), none⟩]
def curve_At_r1 : List SO := [⟨(some 7), .load 52 (.tmp (2 : Nat)), none⟩,
  ⟨(some 8), .call ⟨(.value (.func (33 : Nat))), #[(.tmp (7 : Nat))], #[52]⟩, none⟩,
  ⟨(some 6), .assign (.tmp (8 : Nat)), none⟩]
def curve_At_r2 : List SO := [⟨(some 9), .move (.tmp (6 : Nat)), none⟩,
  ⟨(some 10), .binOp .neq 24 (.tmp (9 : Nat)) (.const (.int .i64 0)) 24, none⟩]
def curve_At_r3 : List SO := [⟨(some 11), .move (.tmp (6 : Nat)), none⟩,
  ⟨(some 4), .assign (.const (.int .i64 0)), none⟩,
  ⟨(some 5), .assign (.tmp (11 : Nat)), none⟩]
def curve_At_r4 : List SO := [⟨(some 12), .move (.tmp (1 : Nat)), none⟩,
  ⟨(some 13), .binOp .lss 3 (.tmp (12 : Nat)) (.const (.int .i64 0)) 3, none⟩,
  ⟨(some 14), .move (.tmp (13 : Nat)), none⟩,
  ⟨(some 15), .move (.tmp (1 : Nat)), (some (14, false))⟩,
  ⟨(some 16), .binOp .gtr 3 (.tmp (15 : Nat)) (.const (.int .i64 65280)) 3, (some (14, false))⟩,
  ⟨(some 17), .pick (.tmp (14 : Nat)) (.const (.bool true)) (.tmp (16 : Nat)), none⟩]
def curve_At_r5 : List SO := [⟨(some 4), .assign (.const (.int .i64 0)), none⟩,
  ⟨(some 5), .assign (.const (.int .i64 3)), none⟩]
def curve_At_r6 : List SO := [⟨(some 18), .load 52 (.tmp (2 : Nat)), none⟩,
  ⟨(some 19), .move (.tmp (1 : Nat)), none⟩,
  ⟨(some 20), .call ⟨(.value (.func (71 : Nat))), #[(.tmp (18 : Nat)), (.tmp (19 : Nat))], #[52, 3]⟩, none⟩,
  ⟨(some 4), .assign (.tmp (20 : Nat)), none⟩,
  ⟨(some 5), .assign (.const (.int .i64 0)), none⟩]
def curve_At_c : SF := ⟨21, (.seq (.reg curve_At_r0)
  (.seq (.seq (.reg curve_At_r1)
  (.seq (.reg curve_At_r2)
  (.cond (.tmp (10 : Nat)) (.seq (.reg curve_At_r3)
  .ret) .skip)))
  (.seq (.seq (.reg curve_At_r4)
  (.cond (.tmp (17 : Nat)) (.seq (.reg curve_At_r5)
  .ret) .skip))
  (.seq (.reg curve_At_r6)
  .ret)))), [.tmp 4, .tmp 5]⟩
theorem curve_At_s : slimF Try.prog 35 = some curve_At_c := by kernel_rfl
abbrev curve_At_f : Nat := 35
/-- printworks/curve.Calibrate -/
def curve_Calibrate_r0 : List SO := [⟨(some 2), .box 52 (.tmp (0 : Nat)), none⟩,
  ⟨(some 3), .box 52 (.tmp (1 : Nat)), none⟩,
  ⟨(some 4), .alloc 52, none⟩,
  ⟨(some 5), .assign (.const (.int .i64 0)), none⟩]
def curve_Calibrate_r1 : List SO := [⟨(some 11), .load 52 (.tmp (2 : Nat)), none⟩,
  ⟨(some 12), .call ⟨(.value (.func (33 : Nat))), #[(.tmp (11 : Nat))], #[52]⟩, none⟩,
  ⟨(some 6), .assign (.tmp (12 : Nat)), none⟩]
def curve_Calibrate_r2 : List SO := [⟨(some 13), .move (.tmp (6 : Nat)), none⟩,
  ⟨(some 14), .binOp .neq 24 (.tmp (13 : Nat)) (.const (.int .i64 0)) 24, none⟩]
def curve_Calibrate_r3 : List SO := [⟨(some 15), .build 52 #[], none⟩,
  ⟨(some 16), .move (.tmp (6 : Nat)), none⟩,
  ⟨none, .store 52 (.tmp (4 : Nat)) (.tmp (15 : Nat)), none⟩,
  ⟨(some 5), .assign (.tmp (16 : Nat)), none⟩]
def curve_Calibrate_r4 : List SO := [⟨(some 17), .load 52 (.tmp (3 : Nat)), none⟩,
  ⟨(some 18), .call ⟨(.value (.func (33 : Nat))), #[(.tmp (17 : Nat))], #[52]⟩, none⟩,
  ⟨(some 7), .assign (.tmp (18 : Nat)), none⟩]
def curve_Calibrate_r5 : List SO := [⟨(some 19), .move (.tmp (7 : Nat)), none⟩,
  ⟨(some 20), .binOp .neq 24 (.tmp (19 : Nat)) (.const (.int .i64 0)) 24, none⟩]
def curve_Calibrate_r6 : List SO := [⟨(some 21), .build 52 #[], none⟩,
  ⟨(some 22), .move (.tmp (7 : Nat)), none⟩,
  ⟨none, .store 52 (.tmp (4 : Nat)) (.tmp (21 : Nat)), none⟩,
  ⟨(some 5), .assign (.tmp (22 : Nat)), none⟩]
def curve_Calibrate_r7 : List SO := [⟨(some 23), .fieldAddr 52 (.tmp (2 : Nat)) 0, none⟩,
  ⟨(some 24), .load 50 (.tmp (23 : Nat)), none⟩,
  ⟨(some 25), .fieldAddr 52 (.tmp (2 : Nat)) 0, none⟩,
  ⟨(some 26), .load 50 (.tmp (25 : Nat)), none⟩,
  ⟨(some 27), .call ⟨(.builtin .len), #[(.tmp (26 : Nat))], #[50]⟩, none⟩,
  ⟨(some 28), .binOp .sub 3 (.tmp (27 : Nat)) (.const (.int .i64 1)) 3, none⟩,
  ⟨(some 29), .indexAddr 50 (.tmp (24 : Nat)) (.tmp (28 : Nat)), none⟩,
  ⟨(some 30), .fieldAddr 64 (.tmp (29 : Nat)) 1, none⟩,
  ⟨(some 31), .load 3 (.tmp (30 : Nat)), none⟩,
  ⟨(some 32), .fieldAddr 52 (.tmp (3 : Nat)) 0, none⟩,
  ⟨(some 33), .load 50 (.tmp (32 : Nat)), none⟩,
  ⟨(some 34), .fieldAddr 52 (.tmp (3 : Nat)) 0, none⟩,
  ⟨(some 35), .load 50 (.tmp (34 : Nat)), none⟩,
  ⟨(some 36), .call ⟨(.builtin .len), #[(.tmp (35 : Nat))], #[50]⟩, none⟩,
  ⟨(some 37), .binOp .sub 3 (.tmp (36 : Nat)) (.const (.int .i64 1)) 3, none⟩,
  ⟨(some 38), .indexAddr 50 (.tmp (33 : Nat)) (.tmp (37 : Nat)), none⟩,
  ⟨(some 39), .fieldAddr 64 (.tmp (38 : Nat)) 1, none⟩,
  ⟨(some 40), .load 3 (.tmp (39 : Nat)), none⟩,
  ⟨(some 41), .binOp .lss 3 (.tmp (31 : Nat)) (.tmp (40 : Nat)) 3, none⟩]
def curve_Calibrate_a7 : List (List Nat) := [[], [0], [], [2], [3], [4], [1, 5], [6], [7], [], [9], [], [11], [12], [13], [10, 14], [15], [16], [8, 17]]
def curve_Calibrate_r8 : List SO := [⟨(some 42), .build 52 #[], none⟩,
  ⟨none, .store 52 (.tmp (4 : Nat)) (.tmp (42 : Nat)), none⟩,
  ⟨(some 5), .assign (.const (.int .i64 8)), none⟩]
def curve_Calibrate_r9 : List SO := [⟨(some 43), .makeSlice 50 (.const (.int .i64 0)) (.const (.int .i64 17)), none⟩,
  ⟨(some 8), .assign (.tmp (43 : Nat)), none⟩]
def curve_Calibrate_r10 : List SO := [⟨(some 44), .move (.const (.int .i64 0)), none⟩]
def curve_Calibrate_r11 : List SO := [⟨(some 45), .binOp .lss 3 (.tmp (44 : Nat)) (.const (.int .i64 17)) 3, none⟩]
def curve_Calibrate_r12 : List SO := [⟨(some 46), .move (.tmp (44 : Nat)), none⟩,
  ⟨(some 9), .assign (.tmp (46 : Nat)), none⟩]
def curve_Calibrate_r13 : List SO := [⟨(some 47), .move (.tmp (9 : Nat)), none⟩,
  ⟨(some 48), .binOp .mul 3 (.tmp (47 : Nat)) (.const (.int .i64 4080)) 3, none⟩,
  ⟨(some 10), .assign (.tmp (48 : Nat)), none⟩]
def curve_Calibrate_r14 : List SO := [⟨(some 49), .move (.tmp (8 : Nat)), none⟩,
  ⟨(some 50), .move (.tmp (10 : Nat)), none⟩,
  ⟨(some 51), .load 52 (.tmp (2 : Nat)), none⟩,
  ⟨(some 52), .load 52 (.tmp (3 : Nat)), none⟩,
  ⟨(some 53), .move (.tmp (10 : Nat)), none⟩,
  ⟨(some 54), .call ⟨(.value (.func (71 : Nat))), #[(.tmp (52 : Nat)), (.tmp (53 : Nat))], #[52, 3]⟩, none⟩,
  ⟨(some 55), .call ⟨(.value (.func (72 : Nat))), #[(.tmp (51 : Nat)), (.tmp (54 : Nat))], #[52, 3]⟩, none⟩,
  ⟨(some 56), .build 64 #[(0, (.tmp (50 : Nat))), (1, (.tmp (55 : Nat)))], none⟩,
  ⟨(some 57), .buildSlice 50 1 #[(0, (.tmp (56 : Nat)))], none⟩,
  ⟨(some 58), .call ⟨(.builtin .append), #[(.tmp (49 : Nat)), (.tmp (57 : Nat))], #[50, 50]⟩, none⟩,
  ⟨(some 8), .assign (.tmp (58 : Nat)), none⟩]
def curve_Calibrate_a14 : List (List Nat) := [[], [], [], [], [], [3, 4], [2, 5, 5], [1, 6], [7], [0, 8, 6], [9, 9, 0, 1, 2, 3, 4, 5, 6, 7, 8, 9]]
def curve_Calibrate_r15 : List SO := [⟨(some 59), .binOp .add 3 (.tmp (44 : Nat)) (.const (.int .i64 1)) 3, none⟩,
  ⟨(some 44), .move (.tmp (59 : Nat)), none⟩]
def curve_Calibrate_r16 : List SO := [⟨(some 60), .move (.tmp (8 : Nat)), none⟩,
  ⟨(some 61), .build 52 #[(0, (.tmp (60 : Nat)))], none⟩,
  ⟨none, .store 52 (.tmp (4 : Nat)) (.tmp (61 : Nat)), none⟩,
  ⟨(some 5), .assign (.const (.int .i64 0)), none⟩]
def curve_Calibrate_c : SF := ⟨62, (.seq (.reg curve_Calibrate_r0)
  (.seq (.seq (.reg curve_Calibrate_r1)
  (.seq (.reg curve_Calibrate_r2)
  (.cond (.tmp (14 : Nat)) (.seq (.reg curve_Calibrate_r3)
  .ret) .skip)))
  (.seq (.seq (.reg curve_Calibrate_r4)
  (.seq (.reg curve_Calibrate_r5)
  (.cond (.tmp (20 : Nat)) (.seq (.reg curve_Calibrate_r6)
  .ret) .skip)))
  (.seq (.seq (.regd curve_Calibrate_r7 curve_Calibrate_a7)
  (.cond (.tmp (41 : Nat)) (.seq (.reg curve_Calibrate_r8)
  .ret) .skip))
  (.seq (.reg curve_Calibrate_r9)
  (.seq (.seq (.reg curve_Calibrate_r10)
  (.block 0 (.loop (.seq (.reg curve_Calibrate_r11)
  (.seq (.cond (.tmp (45 : Nat)) .skip (.exit 0))
  (.seq (.block 1 (.seq (.reg curve_Calibrate_r12)
  (.seq (.reg curve_Calibrate_r13)
  (.regd curve_Calibrate_r14 curve_Calibrate_a14))))
  (.reg curve_Calibrate_r15)))))))
  (.seq (.reg curve_Calibrate_r16)
  .ret))))))), [.cell 4 52, .tmp 5]⟩
theorem curve_Calibrate_s : slimF Try.prog 36 = some curve_Calibrate_c := by kernel_rfl
abbrev curve_Calibrate_f : Nat := 36
/-- printworks/curve.Nearest -/
def curve_Nearest_r0 : List SO := [⟨(some 4), .assign (.const (.int .i64 0)), none⟩]
def curve_Nearest_r1 : List SO := [⟨(some 6), .move (.tmp (0 : Nat)), none⟩,
  ⟨(some 7), .binOp .mul 3 (.const (.int .i64 2)) (.tmp (6 : Nat)) 3, none⟩,
  ⟨(some 8), .move (.tmp (1 : Nat)), none⟩,
  ⟨(some 9), .binOp .add 3 (.tmp (7 : Nat)) (.tmp (8 : Nat)) 3, none⟩,
  ⟨(some 10), .move (.tmp (1 : Nat)), none⟩,
  ⟨(some 11), .binOp .mul 3 (.const (.int .i64 2)) (.tmp (10 : Nat)) 3, none⟩,
  ⟨(some 0), .assign (.tmp (9 : Nat)), none⟩,
  ⟨(some 1), .assign (.tmp (11 : Nat)), none⟩]
def curve_Nearest_r2 : List SO := [⟨(some 12), .move (.tmp (0 : Nat)), none⟩,
  ⟨(some 13), .move (.tmp (1 : Nat)), none⟩,
  ⟨(some 14), .binOp .quo 3 (.tmp (12 : Nat)) (.tmp (13 : Nat)) 3, none⟩,
  ⟨(some 5), .assign (.tmp (14 : Nat)), none⟩]
def curve_Nearest_r3 : List SO := [⟨(some 15), .move (.tmp (0 : Nat)), none⟩,
  ⟨(some 16), .move (.tmp (1 : Nat)), none⟩,
  ⟨(some 17), .binOp .rem 3 (.tmp (15 : Nat)) (.tmp (16 : Nat)) 3, none⟩,
  ⟨(some 18), .binOp .lss 3 (.tmp (17 : Nat)) (.const (.int .i64 0)) 3, none⟩]
def curve_Nearest_r4 : List SO := [⟨(some 19), .move (.tmp (5 : Nat)), none⟩,
  ⟨(some 20), .binOp .sub 3 (.tmp (19 : Nat)) (.const (.int .i64 1)) 3, none⟩,
  ⟨(some 5), .assign (.tmp (20 : Nat)), none⟩]
def curve_Nearest_r5 : List SO := [⟨(some 21), .move (.tmp (5 : Nat)), none⟩,
  ⟨(some 4), .assign (.tmp (21 : Nat)), none⟩]
def curve_Nearest_c : SF := ⟨22, (.seq (.reg curve_Nearest_r0)
  (.seq (.reg curve_Nearest_r1)
  (.seq (.reg curve_Nearest_r2)
  (.seq (.seq (.reg curve_Nearest_r3)
  (.cond (.tmp (18 : Nat)) (.reg curve_Nearest_r4) .skip))
  (.seq (.reg curve_Nearest_r5)
  .ret))))), [.tmp 4]⟩
theorem curve_Nearest_s : slimF Try.prog 58 = some curve_Nearest_c := by kernel_rfl
abbrev curve_Nearest_f : Nat := 58
/-- printworks/curve.Inverse -/
def curve_Inverse_r0 : List SO := [⟨(some 2), .box 52 (.tmp (0 : Nat)), none⟩,
  ⟨(some 4), .assign (.const (.int .i64 0)), none⟩,
  ⟨(some 5), .assign (.const (.int .i64 0)), none⟩]
def curve_Inverse_r1 : List SO := [⟨(some 7), .load 52 (.tmp (2 : Nat)), none⟩,
  ⟨(some 8), .call ⟨(.value (.func (33 : Nat))), #[(.tmp (7 : Nat))], #[52]⟩, none⟩,
  ⟨(some 6), .assign (.tmp (8 : Nat)), none⟩]
def curve_Inverse_r2 : List SO := [⟨(some 9), .move (.tmp (6 : Nat)), none⟩,
  ⟨(some 10), .binOp .neq 24 (.tmp (9 : Nat)) (.const (.int .i64 0)) 24, none⟩]
def curve_Inverse_r3 : List SO := [⟨(some 11), .move (.tmp (6 : Nat)), none⟩,
  ⟨(some 4), .assign (.const (.int .i64 0)), none⟩,
  ⟨(some 5), .assign (.tmp (11 : Nat)), none⟩]
def curve_Inverse_r4 : List SO := [⟨(some 12), .move (.tmp (1 : Nat)), none⟩,
  ⟨(some 13), .binOp .lss 3 (.tmp (12 : Nat)) (.const (.int .i64 0)) 3, none⟩,
  ⟨(some 14), .move (.tmp (13 : Nat)), none⟩,
  ⟨(some 15), .move (.tmp (1 : Nat)), (some (14, false))⟩,
  ⟨(some 16), .binOp .gtr 3 (.tmp (15 : Nat)) (.const (.int .i64 65280)) 3, (some (14, false))⟩,
  ⟨(some 17), .pick (.tmp (14 : Nat)) (.const (.bool true)) (.tmp (16 : Nat)), none⟩]
def curve_Inverse_r5 : List SO := [⟨(some 4), .assign (.const (.int .i64 0)), none⟩,
  ⟨(some 5), .assign (.const (.int .i64 3)), none⟩]
def curve_Inverse_r6 : List SO := [⟨(some 18), .fieldAddr 52 (.tmp (2 : Nat)) 0, none⟩,
  ⟨(some 19), .load 50 (.tmp (18 : Nat)), none⟩,
  ⟨(some 20), .fieldAddr 52 (.tmp (2 : Nat)) 0, none⟩,
  ⟨(some 21), .load 50 (.tmp (20 : Nat)), none⟩,
  ⟨(some 22), .call ⟨(.builtin .len), #[(.tmp (21 : Nat))], #[50]⟩, none⟩,
  ⟨(some 23), .binOp .sub 3 (.tmp (22 : Nat)) (.const (.int .i64 1)) 3, none⟩,
  ⟨(some 24), .indexAddr 50 (.tmp (19 : Nat)) (.tmp (23 : Nat)), none⟩,
  ⟨(some 25), .fieldAddr 64 (.tmp (24 : Nat)) 1, none⟩,
  ⟨(some 26), .load 3 (.tmp (25 : Nat)), none⟩,
  ⟨(some 27), .move (.tmp (1 : Nat)), none⟩,
  ⟨(some 28), .binOp .lss 3 (.tmp (26 : Nat)) (.tmp (27 : Nat)) 3, none⟩]
def curve_Inverse_r7 : List SO := [⟨(some 4), .assign (.const (.int .i64 0)), none⟩,
  ⟨(some 5), .assign (.const (.int .i64 8)), none⟩]
def curve_Inverse_r8 : List SO := [⟨(some 29), .load 52 (.tmp (2 : Nat)), none⟩,
  ⟨(some 30), .move (.tmp (1 : Nat)), none⟩,
  ⟨(some 31), .call ⟨(.value (.func (72 : Nat))), #[(.tmp (29 : Nat)), (.tmp (30 : Nat))], #[52, 3]⟩, none⟩,
  ⟨(some 4), .assign (.tmp (31 : Nat)), none⟩,
  ⟨(some 5), .assign (.const (.int .i64 0)), none⟩]
def curve_Inverse_c : SF := ⟨32, (.seq (.reg curve_Inverse_r0)
  (.seq (.seq (.reg curve_Inverse_r1)
  (.seq (.reg curve_Inverse_r2)
  (.cond (.tmp (10 : Nat)) (.seq (.reg curve_Inverse_r3)
  .ret) .skip)))
  (.seq (.seq (.reg curve_Inverse_r4)
  (.cond (.tmp (17 : Nat)) (.seq (.reg curve_Inverse_r5)
  .ret) .skip))
  (.seq (.seq (.reg curve_Inverse_r6)
  (.cond (.tmp (28 : Nat)) (.seq (.reg curve_Inverse_r7)
  .ret) .skip))
  (.seq (.reg curve_Inverse_r8)
  .ret))))), [.tmp 4, .tmp 5]⟩
theorem curve_Inverse_s : slimF Try.prog 68 = some curve_Inverse_c := by kernel_rfl
abbrev curve_Inverse_f : Nat := 68
/-- printworks/curve.Table -/
def curve_Table_r0 : List SO := [⟨(some 1), .box 52 (.tmp (0 : Nat)), none⟩,
  ⟨(some 2), .assign (.const (.slice none 0 0)), none⟩,
  ⟨(some 3), .assign (.const (.int .i64 0)), none⟩]
def curve_Table_r1 : List SO := [⟨(some 7), .load 52 (.tmp (1 : Nat)), none⟩,
  ⟨(some 8), .call ⟨(.value (.func (33 : Nat))), #[(.tmp (7 : Nat))], #[52]⟩, none⟩,
  ⟨(some 4), .assign (.tmp (8 : Nat)), none⟩]
def curve_Table_r2 : List SO := [⟨(some 9), .move (.tmp (4 : Nat)), none⟩,
  ⟨(some 10), .binOp .neq 24 (.tmp (9 : Nat)) (.const (.int .i64 0)) 24, none⟩]
def curve_Table_r3 : List SO := [⟨(some 11), .move (.tmp (4 : Nat)), none⟩,
  ⟨(some 2), .assign (.const (.slice none 0 0)), none⟩,
  ⟨(some 3), .assign (.tmp (11 : Nat)), none⟩]
def curve_Table_r4 : List SO := [⟨(some 12), .makeSlice 22 (.const (.int .i64 256)) (.const (.int .i64 256)), none⟩,
  ⟨(some 5), .assign (.tmp (12 : Nat)), none⟩]
def curve_Table_r5 : List SO := [⟨(some 13), .move (.tmp (5 : Nat)), none⟩,
  ⟨(some 14), .call ⟨(.builtin .len), #[(.tmp (13 : Nat))], #[22]⟩, none⟩,
  ⟨(some 15), .move (.const (.int .i64 0)), none⟩]
def curve_Table_r6 : List SO := [⟨(some 16), .binOp .lss 3 (.tmp (15 : Nat)) (.tmp (14 : Nat)) 3, none⟩]
def curve_Table_r7 : List SO := [⟨(some 17), .move (.tmp (15 : Nat)), none⟩,
  ⟨(some 6), .assign (.tmp (17 : Nat)), none⟩]
def curve_Table_r8 : List SO := [⟨(some 18), .move (.tmp (5 : Nat)), none⟩,
  ⟨(some 19), .move (.tmp (6 : Nat)), none⟩,
  ⟨(some 20), .load 52 (.tmp (1 : Nat)), none⟩,
  ⟨(some 21), .move (.tmp (6 : Nat)), none⟩,
  ⟨(some 22), .binOp .mul 3 (.const (.int .i64 256)) (.tmp (21 : Nat)) 3, none⟩,
  ⟨(some 23), .call ⟨(.value (.func (71 : Nat))), #[(.tmp (20 : Nat)), (.tmp (22 : Nat))], #[52, 3]⟩, none⟩,
  ⟨(some 24), .call ⟨(.value (.func (58 : Nat))), #[(.tmp (23 : Nat)), (.const (.int .i64 256))], #[3, 3]⟩, none⟩,
  ⟨(some 25), .indexAddr 22 (.tmp (18 : Nat)) (.tmp (19 : Nat)), none⟩,
  ⟨none, .store 3 (.tmp (25 : Nat)) (.tmp (24 : Nat)), none⟩]
def curve_Table_r9 : List SO := [⟨(some 26), .binOp .add 3 (.tmp (15 : Nat)) (.const (.int .i64 1)) 3, none⟩,
  ⟨(some 15), .move (.tmp (26 : Nat)), none⟩]
def curve_Table_r10 : List SO := [⟨(some 27), .move (.tmp (5 : Nat)), none⟩,
  ⟨(some 2), .assign (.tmp (27 : Nat)), none⟩,
  ⟨(some 3), .assign (.const (.int .i64 0)), none⟩]
def curve_Table_c : SF := ⟨28, (.seq (.reg curve_Table_r0)
  (.seq (.seq (.reg curve_Table_r1)
  (.seq (.reg curve_Table_r2)
  (.cond (.tmp (10 : Nat)) (.seq (.reg curve_Table_r3)
  .ret) .skip)))
  (.seq (.reg curve_Table_r4)
  (.seq (.seq (.reg curve_Table_r5)
  (.block 0 (.loop (.seq (.reg curve_Table_r6)
  (.seq (.cond (.tmp (16 : Nat)) .skip (.exit 0))
  (.seq (.block 1 (.seq (.reg curve_Table_r7)
  (.reg curve_Table_r8)))
  (.reg curve_Table_r9)))))))
  (.seq (.reg curve_Table_r10)
  .ret))))), [.tmp 2, .tmp 3]⟩
theorem curve_Table_s : slimF Try.prog 69 = some curve_Table_c := by kernel_rfl
abbrev curve_Table_f : Nat := 69
/-- printworks/curve.Fit -/
def curve_Fit_r0 : List SO := [⟨(some 2), .alloc 52, none⟩,
  ⟨(some 3), .assign (.const (.int .i64 0)), none⟩]
def curve_Fit_r1 : List SO := [⟨(some 18), .move (.tmp (0 : Nat)), none⟩,
  ⟨(some 19), .call ⟨(.builtin .len), #[(.tmp (18 : Nat))], #[50]⟩, none⟩,
  ⟨(some 20), .binOp .gtr 3 (.tmp (19 : Nat)) (.const (.int .i64 31)) 3, none⟩]
def curve_Fit_r2 : List SO := [⟨(some 21), .build 52 #[], none⟩,
  ⟨none, .store 52 (.tmp (2 : Nat)) (.tmp (21 : Nat)), none⟩,
  ⟨(some 3), .assign (.const (.int .i64 2)), none⟩]
def curve_Fit_r3 : List SO := [⟨(some 22), .move (.tmp (0 : Nat)), none⟩,
  ⟨(some 23), .call ⟨(.builtin .len), #[(.tmp (22 : Nat))], #[50]⟩, none⟩,
  ⟨(some 24), .binOp .eql 3 (.tmp (23 : Nat)) (.const (.int .i64 0)) 3, none⟩]
def curve_Fit_r4 : List SO := [⟨(some 25), .build 52 #[], none⟩,
  ⟨none, .store 52 (.tmp (2 : Nat)) (.tmp (25 : Nat)), none⟩,
  ⟨(some 3), .assign (.const (.int .i64 1)), none⟩]
def curve_Fit_r5 : List SO := [⟨(some 26), .move (.tmp (0 : Nat)), none⟩,
  ⟨(some 27), .call ⟨(.builtin .len), #[(.tmp (26 : Nat))], #[50]⟩, none⟩,
  ⟨(some 28), .move (.const (.int .i64 0)), none⟩]
def curve_Fit_r6 : List SO := [⟨(some 29), .binOp .lss 3 (.tmp (28 : Nat)) (.tmp (27 : Nat)) 3, none⟩]
def curve_Fit_r7 : List SO := [⟨(some 30), .move (.tmp (28 : Nat)), none⟩,
  ⟨(some 31), .indexAddr 50 (.tmp (26 : Nat)) (.tmp (28 : Nat)), none⟩,
  ⟨(some 32), .load 64 (.tmp (31 : Nat)), none⟩,
  ⟨(some 5), .alloc 64, none⟩,
  ⟨(some 4), .assign (.tmp (30 : Nat)), none⟩,
  ⟨none, .store 64 (.tmp (5 : Nat)) (.tmp (32 : Nat)), none⟩]
def curve_Fit_r8 : List SO := [⟨(some 33), .fieldAddr 64 (.tmp (5 : Nat)) 0, none⟩,
  ⟨(some 34), .load 3 (.tmp (33 : Nat)), none⟩,
  ⟨(some 35), .binOp .lss 3 (.tmp (34 : Nat)) (.const (.int .i64 0)) 3, none⟩,
  ⟨(some 36), .move (.tmp (35 : Nat)), none⟩,
  ⟨(some 37), .fieldAddr 64 (.tmp (5 : Nat)) 0, (some (36, false))⟩,
  ⟨(some 38), .load 3 (.tmp (37 : Nat)), (some (36, false))⟩,
  ⟨(some 39), .binOp .gtr 3 (.tmp (38 : Nat)) (.const (.int .i64 65280)) 3, (some (36, false))⟩,
  ⟨(some 40), .pick (.tmp (36 : Nat)) (.const (.bool true)) (.tmp (39 : Nat)), none⟩,
  ⟨(some 41), .move (.tmp (40 : Nat)), none⟩,
  ⟨(some 42), .fieldAddr 64 (.tmp (5 : Nat)) 1, (some (41, false))⟩,
  ⟨(some 43), .load 3 (.tmp (42 : Nat)), (some (41, false))⟩,
  ⟨(some 44), .binOp .lss 3 (.tmp (43 : Nat)) (.const (.int .i64 0)) 3, (some (41, false))⟩,
  ⟨(some 45), .pick (.tmp (41 : Nat)) (.const (.bool true)) (.tmp (44 : Nat)), none⟩,
  ⟨(some 46), .move (.tmp (45 : Nat)), none⟩,
  ⟨(some 47), .fieldAddr 64 (.tmp (5 : Nat)) 1, (some (46, false))⟩,
  ⟨(some 48), .load 3 (.tmp (47 : Nat)), (some (46, false))⟩,
  ⟨(some 49), .binOp .gtr 3 (.tmp (48 : Nat)) (.const (.int .i64 65280)) 3, (some (46, false))⟩,
  ⟨(some 50), .pick (.tmp (46 : Nat)) (.const (.bool true)) (.tmp (49 : Nat)), none⟩]
def curve_Fit_r9 : List SO := [⟨(some 51), .build 52 #[], none⟩,
  ⟨none, .store 52 (.tmp (2 : Nat)) (.tmp (51 : Nat)), none⟩,
  ⟨(some 3), .assign (.const (.int .i64 3)), none⟩]
def curve_Fit_r10 : List SO := [⟨(some 52), .move (.tmp (4 : Nat)), none⟩,
  ⟨(some 53), .binOp .gtr 3 (.tmp (52 : Nat)) (.const (.int .i64 0)) 3, none⟩,
  ⟨(some 54), .move (.tmp (53 : Nat)), none⟩,
  ⟨(some 55), .fieldAddr 64 (.tmp (5 : Nat)) 0, (some (54, true))⟩,
  ⟨(some 56), .load 3 (.tmp (55 : Nat)), (some (54, true))⟩,
  ⟨(some 57), .move (.tmp (0 : Nat)), (some (54, true))⟩,
  ⟨(some 58), .move (.tmp (4 : Nat)), (some (54, true))⟩,
  ⟨(some 59), .binOp .sub 3 (.tmp (58 : Nat)) (.const (.int .i64 1)) 3, (some (54, true))⟩,
  ⟨(some 60), .indexAddr 50 (.tmp (57 : Nat)) (.tmp (59 : Nat)), (some (54, true))⟩,
  ⟨(some 61), .fieldAddr 64 (.tmp (60 : Nat)) 0, (some (54, true))⟩,
  ⟨(some 62), .load 3 (.tmp (61 : Nat)), (some (54, true))⟩,
  ⟨(some 63), .binOp .leq 3 (.tmp (56 : Nat)) (.tmp (62 : Nat)) 3, (some (54, true))⟩,
  ⟨(some 64), .pick (.tmp (54 : Nat)) (.tmp (63 : Nat)) (.const (.bool false)), none⟩]
def curve_Fit_a10 : List (List Nat) := [[], [0], [1], [2], [3, 2], [2], [2], [6, 2], [5, 7, 2], [8, 2], [9, 2], [4, 10, 2], [2, 11]]
def curve_Fit_r11 : List SO := [⟨(some 65), .build 52 #[], none⟩,
  ⟨none, .store 52 (.tmp (2 : Nat)) (.tmp (65 : Nat)), none⟩,
  ⟨(some 3), .assign (.const (.int .i64 18)), none⟩]
def curve_Fit_r12 : List SO := [⟨(some 66), .binOp .add 3 (.tmp (28 : Nat)) (.const (.int .i64 1)) 3, none⟩,
  ⟨(some 28), .move (.tmp (66 : Nat)), none⟩]
def curve_Fit_r13 : List SO := [⟨(some 6), .assign (.const (.slice none 0 0)), none⟩]
def curve_Fit_r14 : List SO := [⟨(some 67), .move (.tmp (0 : Nat)), none⟩,
  ⟨(some 68), .call ⟨(.builtin .len), #[(.tmp (67 : Nat))], #[50]⟩, none⟩,
  ⟨(some 69), .move (.const (.int .i64 0)), none⟩]
def curve_Fit_r15 : List SO := [⟨(some 70), .binOp .lss 3 (.tmp (69 : Nat)) (.tmp (68 : Nat)) 3, none⟩]
def curve_Fit_r16 : List SO := [⟨(some 71), .indexAddr 50 (.tmp (67 : Nat)) (.tmp (69 : Nat)), none⟩,
  ⟨(some 72), .load 64 (.tmp (71 : Nat)), none⟩,
  ⟨(some 8), .alloc 64, none⟩,
  ⟨none, .store 64 (.tmp (8 : Nat)) (.tmp (72 : Nat)), none⟩]
def curve_Fit_r17 : List SO := [⟨(some 73), .fieldAddr 64 (.tmp (8 : Nat)) 1, none⟩,
  ⟨(some 74), .load 3 (.tmp (73 : Nat)), none⟩,
  ⟨(some 75), .build 117 #[(0, (.tmp (74 : Nat))), (1, (.const (.int .i64 1)))], none⟩,
  ⟨(some 9), .alloc 117, none⟩,
  ⟨none, .store 117 (.tmp (9 : Nat)) (.tmp (75 : Nat)), none⟩]
def curve_Fit_r18 : List SO := [⟨(some 76), .move (.tmp (6 : Nat)), none⟩,
  ⟨(some 77), .call ⟨(.builtin .len), #[(.tmp (76 : Nat))], #[115]⟩, none⟩,
  ⟨(some 78), .binOp .gtr 3 (.tmp (77 : Nat)) (.const (.int .i64 0)) 3, none⟩]
def curve_Fit_r19 : List SO := [⟨(some 79), .move (.tmp (6 : Nat)), none⟩,
  ⟨(some 80), .move (.tmp (6 : Nat)), none⟩,
  ⟨(some 81), .call ⟨(.builtin .len), #[(.tmp (80 : Nat))], #[115]⟩, none⟩,
  ⟨(some 82), .binOp .sub 3 (.tmp (81 : Nat)) (.const (.int .i64 1)) 3, none⟩,
  ⟨(some 83), .indexAddr 115 (.tmp (79 : Nat)) (.tmp (82 : Nat)), none⟩,
  ⟨(some 84), .load 117 (.tmp (83 : Nat)), none⟩,
  ⟨(some 10), .alloc 117, none⟩,
  ⟨none, .store 117 (.tmp (10 : Nat)) (.tmp (84 : Nat)), none⟩]
def curve_Fit_r20 : List SO := [⟨(some 85), .fieldAddr 117 (.tmp (10 : Nat)) 0, none⟩,
  ⟨(some 86), .load 3 (.tmp (85 : Nat)), none⟩,
  ⟨(some 87), .fieldAddr 117 (.tmp (9 : Nat)) 1, none⟩,
  ⟨(some 88), .load 3 (.tmp (87 : Nat)), none⟩,
  ⟨(some 89), .binOp .mul 3 (.tmp (86 : Nat)) (.tmp (88 : Nat)) 3, none⟩,
  ⟨(some 90), .fieldAddr 117 (.tmp (9 : Nat)) 0, none⟩,
  ⟨(some 91), .load 3 (.tmp (90 : Nat)), none⟩,
  ⟨(some 92), .fieldAddr 117 (.tmp (10 : Nat)) 1, none⟩,
  ⟨(some 93), .load 3 (.tmp (92 : Nat)), none⟩,
  ⟨(some 94), .binOp .mul 3 (.tmp (91 : Nat)) (.tmp (93 : Nat)) 3, none⟩,
  ⟨(some 95), .binOp .leq 3 (.tmp (89 : Nat)) (.tmp (94 : Nat)) 3, none⟩]
def curve_Fit_r21 : List SO := [⟨(some 96), .fieldAddr 117 (.tmp (10 : Nat)) 0, none⟩,
  ⟨(some 97), .load 3 (.tmp (96 : Nat)), none⟩,
  ⟨(some 98), .fieldAddr 117 (.tmp (9 : Nat)) 0, none⟩,
  ⟨(some 99), .load 3 (.tmp (98 : Nat)), none⟩,
  ⟨(some 100), .binOp .add 3 (.tmp (97 : Nat)) (.tmp (99 : Nat)) 3, none⟩,
  ⟨(some 101), .fieldAddr 117 (.tmp (10 : Nat)) 1, none⟩,
  ⟨(some 102), .load 3 (.tmp (101 : Nat)), none⟩,
  ⟨(some 103), .fieldAddr 117 (.tmp (9 : Nat)) 1, none⟩,
  ⟨(some 104), .load 3 (.tmp (103 : Nat)), none⟩,
  ⟨(some 105), .binOp .add 3 (.tmp (102 : Nat)) (.tmp (104 : Nat)) 3, none⟩,
  ⟨(some 106), .build 117 #[(0, (.tmp (100 : Nat))), (1, (.tmp (105 : Nat)))], none⟩,
  ⟨none, .store 117 (.tmp (9 : Nat)) (.tmp (106 : Nat)), none⟩]
def curve_Fit_r22 : List SO := [⟨(some 107), .move (.tmp (6 : Nat)), none⟩,
  ⟨(some 108), .move (.tmp (6 : Nat)), none⟩,
  ⟨(some 109), .call ⟨(.builtin .len), #[(.tmp (108 : Nat))], #[115]⟩, none⟩,
  ⟨(some 110), .binOp .sub 3 (.tmp (109 : Nat)) (.const (.int .i64 1)) 3, none⟩,
  ⟨(some 111), .slice 115 (.tmp (107 : Nat)) none (some (.tmp (110 : Nat))) none, none⟩,
  ⟨(some 6), .assign (.tmp (111 : Nat)), none⟩]
def curve_Fit_r23 : List SO := [⟨(some 112), .move (.tmp (6 : Nat)), none⟩,
  ⟨(some 113), .load 117 (.tmp (9 : Nat)), none⟩,
  ⟨(some 114), .buildSlice 115 1 #[(0, (.tmp (113 : Nat)))], none⟩,
  ⟨(some 115), .call ⟨(.builtin .append), #[(.tmp (112 : Nat)), (.tmp (114 : Nat))], #[115, 115]⟩, none⟩,
  ⟨(some 6), .assign (.tmp (115 : Nat)), none⟩]
def curve_Fit_r24 : List SO := [⟨(some 116), .binOp .add 3 (.tmp (69 : Nat)) (.const (.int .i64 1)) 3, none⟩,
  ⟨(some 69), .move (.tmp (116 : Nat)), none⟩]
def curve_Fit_r25 : List SO := [⟨(some 11), .assign (.const (.slice none 0 0)), none⟩]
def curve_Fit_r26 : List SO := [⟨(some 12), .assign (.const (.int .i64 0)), none⟩]
def curve_Fit_r27 : List SO := [⟨(some 117), .move (.tmp (6 : Nat)), none⟩,
  ⟨(some 118), .call ⟨(.builtin .len), #[(.tmp (117 : Nat))], #[115]⟩, none⟩,
  ⟨(some 119), .move (.const (.int .i64 0)), none⟩]
def curve_Fit_r28 : List SO := [⟨(some 120), .binOp .lss 3 (.tmp (119 : Nat)) (.tmp (118 : Nat)) 3, none⟩]
def curve_Fit_r29 : List SO := [⟨(some 121), .indexAddr 115 (.tmp (117 : Nat)) (.tmp (119 : Nat)), none⟩,
  ⟨(some 122), .load 117 (.tmp (121 : Nat)), none⟩,
  ⟨(some 14), .alloc 117, none⟩,
  ⟨none, .store 117 (.tmp (14 : Nat)) (.tmp (122 : Nat)), none⟩]
def curve_Fit_r30 : List SO := [⟨(some 123), .fieldAddr 117 (.tmp (14 : Nat)) 0, none⟩,
  ⟨(some 124), .load 3 (.tmp (123 : Nat)), none⟩,
  ⟨(some 125), .fieldAddr 117 (.tmp (14 : Nat)) 1, none⟩,
  ⟨(some 126), .load 3 (.tmp (125 : Nat)), none⟩,
  ⟨(some 127), .call ⟨(.value (.func (58 : Nat))), #[(.tmp (124 : Nat)), (.tmp (126 : Nat))], #[3, 3]⟩, none⟩,
  ⟨(some 15), .assign (.tmp (127 : Nat)), none⟩]
def curve_Fit_r31 : List SO := [⟨(some 128), .fieldAddr 117 (.tmp (14 : Nat)) 1, none⟩,
  ⟨(some 129), .load 3 (.tmp (128 : Nat)), none⟩,
  ⟨(some 130), .move (.const (.int .i64 0)), none⟩]
def curve_Fit_r32 : List SO := [⟨(some 131), .binOp .lss 3 (.tmp (130 : Nat)) (.tmp (129 : Nat)) 3, none⟩]
def curve_Fit_r33 : List SO := [⟨(some 132), .move (.tmp (11 : Nat)), none⟩,
  ⟨(some 133), .move (.tmp (0 : Nat)), none⟩,
  ⟨(some 134), .move (.tmp (12 : Nat)), none⟩,
  ⟨(some 135), .indexAddr 50 (.tmp (133 : Nat)) (.tmp (134 : Nat)), none⟩,
  ⟨(some 136), .fieldAddr 64 (.tmp (135 : Nat)) 0, none⟩,
  ⟨(some 137), .load 3 (.tmp (136 : Nat)), none⟩,
  ⟨(some 138), .move (.tmp (15 : Nat)), none⟩,
  ⟨(some 139), .build 64 #[(0, (.tmp (137 : Nat))), (1, (.tmp (138 : Nat)))], none⟩,
  ⟨(some 140), .buildSlice 50 1 #[(0, (.tmp (139 : Nat)))], none⟩,
  ⟨(some 141), .call ⟨(.builtin .append), #[(.tmp (132 : Nat)), (.tmp (140 : Nat))], #[50, 50]⟩, none⟩,
  ⟨(some 11), .assign (.tmp (141 : Nat)), none⟩]
def curve_Fit_r34 : List SO := [⟨(some 142), .move (.tmp (12 : Nat)), none⟩,
  ⟨(some 143), .binOp .add 3 (.tmp (142 : Nat)) (.const (.int .i64 1)) 3, none⟩,
  ⟨(some 12), .assign (.tmp (143 : Nat)), none⟩]
def curve_Fit_r35 : List SO := [⟨(some 144), .binOp .add 3 (.tmp (130 : Nat)) (.const (.int .i64 1)) 3, none⟩,
  ⟨(some 130), .move (.tmp (144 : Nat)), none⟩]
def curve_Fit_r36 : List SO := [⟨(some 145), .binOp .add 3 (.tmp (119 : Nat)) (.const (.int .i64 1)) 3, none⟩,
  ⟨(some 119), .move (.tmp (145 : Nat)), none⟩]
def curve_Fit_r37 : List SO := [⟨(some 146), .move (.tmp (11 : Nat)), none⟩,
  ⟨(some 147), .indexAddr 50 (.tmp (146 : Nat)) (.const (.int .i64 0)), none⟩,
  ⟨(some 148), .load 64 (.tmp (147 : Nat)), none⟩,
  ⟨(some 16), .alloc 64, none⟩,
  ⟨none, .store 64 (.tmp (16 : Nat)) (.tmp (148 : Nat)), none⟩]
def curve_Fit_r38 : List SO := [⟨(some 149), .fieldAddr 64 (.tmp (16 : Nat)) 0, none⟩,
  ⟨(some 150), .load 3 (.tmp (149 : Nat)), none⟩,
  ⟨(some 151), .binOp .gtr 3 (.tmp (150 : Nat)) (.const (.int .i64 0)) 3, none⟩]
def curve_Fit_r39 : List SO := [⟨(some 152), .fieldAddr 64 (.tmp (16 : Nat)) 1, none⟩,
  ⟨(some 153), .load 3 (.tmp (152 : Nat)), none⟩,
  ⟨(some 154), .build 64 #[(0, (.const (.int .i64 0))), (1, (.tmp (153 : Nat)))], none⟩,
  ⟨(some 155), .buildSlice 50 1 #[(0, (.tmp (154 : Nat)))], none⟩,
  ⟨(some 156), .move (.tmp (11 : Nat)), none⟩,
  ⟨(some 157), .call ⟨(.builtin .append), #[(.tmp (155 : Nat)), (.tmp (156 : Nat))], #[50, 50]⟩, none⟩,
  ⟨(some 11), .assign (.tmp (157 : Nat)), none⟩]
def curve_Fit_r40 : List SO := [⟨(some 158), .move (.tmp (11 : Nat)), none⟩,
  ⟨(some 159), .move (.tmp (11 : Nat)), none⟩,
  ⟨(some 160), .call ⟨(.builtin .len), #[(.tmp (159 : Nat))], #[50]⟩, none⟩,
  ⟨(some 161), .binOp .sub 3 (.tmp (160 : Nat)) (.const (.int .i64 1)) 3, none⟩,
  ⟨(some 162), .indexAddr 50 (.tmp (158 : Nat)) (.tmp (161 : Nat)), none⟩,
  ⟨(some 163), .load 64 (.tmp (162 : Nat)), none⟩,
  ⟨(some 17), .alloc 64, none⟩,
  ⟨none, .store 64 (.tmp (17 : Nat)) (.tmp (163 : Nat)), none⟩]
def curve_Fit_r41 : List SO := [⟨(some 164), .fieldAddr 64 (.tmp (17 : Nat)) 0, none⟩,
  ⟨(some 165), .load 3 (.tmp (164 : Nat)), none⟩,
  ⟨(some 166), .binOp .lss 3 (.tmp (165 : Nat)) (.const (.int .i64 65280)) 3, none⟩]
def curve_Fit_r42 : List SO := [⟨(some 167), .move (.tmp (11 : Nat)), none⟩,
  ⟨(some 168), .fieldAddr 64 (.tmp (17 : Nat)) 1, none⟩,
  ⟨(some 169), .load 3 (.tmp (168 : Nat)), none⟩,
  ⟨(some 170), .build 64 #[(0, (.const (.int .i64 65280))), (1, (.tmp (169 : Nat)))], none⟩,
  ⟨(some 171), .buildSlice 50 1 #[(0, (.tmp (170 : Nat)))], none⟩,
  ⟨(some 172), .call ⟨(.builtin .append), #[(.tmp (167 : Nat)), (.tmp (171 : Nat))], #[50, 50]⟩, none⟩,
  ⟨(some 11), .assign (.tmp (172 : Nat)), none⟩]
def curve_Fit_r43 : List SO := [⟨(some 173), .move (.tmp (11 : Nat)), none⟩,
  ⟨(some 174), .build 52 #[(0, (.tmp (173 : Nat)))], none⟩,
  ⟨none, .store 52 (.tmp (2 : Nat)) (.tmp (174 : Nat)), none⟩,
  ⟨(some 3), .assign (.const (.int .i64 0)), none⟩]
def curve_Fit_c : SF := ⟨175, (.seq (.reg curve_Fit_r0)
  (.seq (.seq (.reg curve_Fit_r1)
  (.cond (.tmp (20 : Nat)) (.seq (.reg curve_Fit_r2)
  .ret) .skip))
  (.seq (.seq (.reg curve_Fit_r3)
  (.cond (.tmp (24 : Nat)) (.seq (.reg curve_Fit_r4)
  .ret) .skip))
  (.seq (.seq (.reg curve_Fit_r5)
  (.block 0 (.loop (.seq (.reg curve_Fit_r6)
  (.seq (.cond (.tmp (29 : Nat)) .skip (.exit 0))
  (.seq (.block 1 (.seq (.reg curve_Fit_r7)
  (.seq (.seq (.reg curve_Fit_r8)
  (.cond (.tmp (50 : Nat)) (.seq (.reg curve_Fit_r9)
  .ret) .skip))
  (.seq (.regd curve_Fit_r10 curve_Fit_a10)
  (.cond (.tmp (64 : Nat)) (.seq (.reg curve_Fit_r11)
  .ret) .skip)))))
  (.reg curve_Fit_r12)))))))
  (.seq (.reg curve_Fit_r13)
  (.seq (.seq (.reg curve_Fit_r14)
  (.block 2 (.loop (.seq (.reg curve_Fit_r15)
  (.seq (.cond (.tmp (70 : Nat)) .skip (.exit 2))
  (.seq (.block 3 (.seq (.reg curve_Fit_r16)
  (.seq (.reg curve_Fit_r17)
  (.seq (.block 4 (.loop (.seq (.seq (.reg curve_Fit_r18)
  (.cond (.tmp (78 : Nat)) .skip (.exit 4)))
  (.block 5 (.seq (.reg curve_Fit_r19)
  (.seq (.seq (.reg curve_Fit_r20)
  (.cond (.tmp (95 : Nat)) (.exit 4) .skip))
  (.seq (.reg curve_Fit_r21)
  (.reg curve_Fit_r22))))))))
  (.reg curve_Fit_r23)))))
  (.reg curve_Fit_r24)))))))
  (.seq (.reg curve_Fit_r25)
  (.seq (.reg curve_Fit_r26)
  (.seq (.seq (.reg curve_Fit_r27)
  (.block 6 (.loop (.seq (.reg curve_Fit_r28)
  (.seq (.cond (.tmp (120 : Nat)) .skip (.exit 6))
  (.seq (.block 7 (.seq (.reg curve_Fit_r29)
  (.seq (.reg curve_Fit_r30)
  (.seq (.reg curve_Fit_r31)
  (.block 8 (.loop (.seq (.reg curve_Fit_r32)
  (.seq (.cond (.tmp (131 : Nat)) .skip (.exit 8))
  (.seq (.block 9 (.seq (.reg curve_Fit_r33)
  (.reg curve_Fit_r34)))
  (.reg curve_Fit_r35))))))))))
  (.reg curve_Fit_r36)))))))
  (.seq (.seq (.reg curve_Fit_r37)
  (.seq (.reg curve_Fit_r38)
  (.cond (.tmp (151 : Nat)) (.reg curve_Fit_r39) .skip)))
  (.seq (.seq (.reg curve_Fit_r40)
  (.seq (.reg curve_Fit_r41)
  (.cond (.tmp (166 : Nat)) (.reg curve_Fit_r42) .skip)))
  (.seq (.reg curve_Fit_r43)
  .ret)))))))))))), [.cell 2 52, .tmp 3]⟩
theorem curve_Fit_s : slimF Try.prog 70 = some curve_Fit_c := by kernel_rfl
abbrev curve_Fit_f : Nat := 70
/-- printworks/curve.Raw -/
def curve_Raw_r0 : List SO := [⟨(some 2), .box 52 (.tmp (0 : Nat)), none⟩,
  ⟨(some 4), .assign (.const (.int .i64 0)), none⟩]
def curve_Raw_r1 : List SO := [⟨(some 10), .fieldAddr 52 (.tmp (2 : Nat)) 0, none⟩,
  ⟨(some 11), .load 50 (.tmp (10 : Nat)), none⟩,
  ⟨(some 12), .call ⟨(.builtin .len), #[(.tmp (11 : Nat))], #[50]⟩, none⟩,
  ⟨(some 13), .binOp .sub 3 (.tmp (12 : Nat)) (.const (.int .i64 1)) 3, none⟩,
  ⟨(some 5), .assign (.const (.int .i64 0)), none⟩,
  ⟨(some 6), .assign (.tmp (13 : Nat)), none⟩]
def curve_Raw_a1 : List (List Nat) := [[], [0], [1], [2], [], [3, 4, 0, 1, 2, 3, 4]]
def curve_Raw_r2 : List SO := [⟨(some 14), .move (.tmp (6 : Nat)), none⟩,
  ⟨(some 15), .move (.tmp (5 : Nat)), none⟩,
  ⟨(some 16), .binOp .sub 3 (.tmp (14 : Nat)) (.tmp (15 : Nat)) 3, none⟩,
  ⟨(some 17), .binOp .gtr 3 (.tmp (16 : Nat)) (.const (.int .i64 1)) 3, none⟩]
def curve_Raw_r3 : List SO := [⟨(some 18), .move (.tmp (5 : Nat)), none⟩,
  ⟨(some 19), .move (.tmp (6 : Nat)), none⟩,
  ⟨(some 20), .binOp .add 3 (.tmp (18 : Nat)) (.tmp (19 : Nat)) 3, none⟩,
  ⟨(some 21), .binOp .quo 3 (.tmp (20 : Nat)) (.const (.int .i64 2)) 3, none⟩,
  ⟨(some 7), .assign (.tmp (21 : Nat)), none⟩]
def curve_Raw_r4 : List SO := [⟨(some 22), .fieldAddr 52 (.tmp (2 : Nat)) 0, none⟩,
  ⟨(some 23), .load 50 (.tmp (22 : Nat)), none⟩,
  ⟨(some 24), .move (.tmp (7 : Nat)), none⟩,
  ⟨(some 25), .indexAddr 50 (.tmp (23 : Nat)) (.tmp (24 : Nat)), none⟩,
  ⟨(some 26), .fieldAddr 64 (.tmp (25 : Nat)) 0, none⟩,
  ⟨(some 27), .load 3 (.tmp (26 : Nat)), none⟩,
  ⟨(some 28), .move (.tmp (1 : Nat)), none⟩,
  ⟨(some 29), .binOp .leq 3 (.tmp (27 : Nat)) (.tmp (28 : Nat)) 3, none⟩]
def curve_Raw_r5 : List SO := [⟨(some 30), .move (.tmp (7 : Nat)), none⟩,
  ⟨(some 5), .assign (.tmp (30 : Nat)), none⟩]
def curve_Raw_r6 : List SO := [⟨(some 31), .move (.tmp (7 : Nat)), none⟩,
  ⟨(some 6), .assign (.tmp (31 : Nat)), none⟩]
def curve_Raw_r7 : List SO := [⟨(some 32), .fieldAddr 52 (.tmp (2 : Nat)) 0, none⟩,
  ⟨(some 33), .load 50 (.tmp (32 : Nat)), none⟩,
  ⟨(some 34), .move (.tmp (5 : Nat)), none⟩,
  ⟨(some 35), .indexAddr 50 (.tmp (33 : Nat)) (.tmp (34 : Nat)), none⟩,
  ⟨(some 36), .load 64 (.tmp (35 : Nat)), none⟩,
  ⟨(some 37), .fieldAddr 52 (.tmp (2 : Nat)) 0, none⟩,
  ⟨(some 38), .load 50 (.tmp (37 : Nat)), none⟩,
  ⟨(some 39), .move (.tmp (6 : Nat)), none⟩,
  ⟨(some 40), .indexAddr 50 (.tmp (38 : Nat)) (.tmp (39 : Nat)), none⟩,
  ⟨(some 41), .load 64 (.tmp (40 : Nat)), none⟩,
  ⟨(some 8), .alloc 64, none⟩,
  ⟨(some 9), .alloc 64, none⟩,
  ⟨none, .store 64 (.tmp (8 : Nat)) (.tmp (36 : Nat)), none⟩,
  ⟨none, .store 64 (.tmp (9 : Nat)) (.tmp (41 : Nat)), none⟩]
def curve_Raw_a7 : List (List Nat) := [[], [0], [], [1, 2], [3], [], [5], [], [6, 7], [8], [], [], [10, 4, 0, 1, 2, 3, 4, 10, 11], [11, 9, 12, 0, 1, 2, 3, 4, 5, 6, 7, 8, 9, 10, 11, 12]]
def curve_Raw_r8 : List SO := [⟨(some 42), .fieldAddr 64 (.tmp (8 : Nat)) 1, none⟩,
  ⟨(some 43), .load 3 (.tmp (42 : Nat)), none⟩,
  ⟨(some 44), .fieldAddr 64 (.tmp (9 : Nat)) 1, none⟩,
  ⟨(some 45), .load 3 (.tmp (44 : Nat)), none⟩,
  ⟨(some 46), .fieldAddr 64 (.tmp (8 : Nat)) 1, none⟩,
  ⟨(some 47), .load 3 (.tmp (46 : Nat)), none⟩,
  ⟨(some 48), .binOp .sub 3 (.tmp (45 : Nat)) (.tmp (47 : Nat)) 3, none⟩,
  ⟨(some 49), .move (.tmp (1 : Nat)), none⟩,
  ⟨(some 50), .fieldAddr 64 (.tmp (8 : Nat)) 0, none⟩,
  ⟨(some 51), .load 3 (.tmp (50 : Nat)), none⟩,
  ⟨(some 52), .binOp .sub 3 (.tmp (49 : Nat)) (.tmp (51 : Nat)) 3, none⟩,
  ⟨(some 53), .binOp .mul 3 (.tmp (48 : Nat)) (.tmp (52 : Nat)) 3, none⟩,
  ⟨(some 54), .fieldAddr 64 (.tmp (9 : Nat)) 0, none⟩,
  ⟨(some 55), .load 3 (.tmp (54 : Nat)), none⟩,
  ⟨(some 56), .fieldAddr 64 (.tmp (8 : Nat)) 0, none⟩,
  ⟨(some 57), .load 3 (.tmp (56 : Nat)), none⟩,
  ⟨(some 58), .binOp .sub 3 (.tmp (55 : Nat)) (.tmp (57 : Nat)) 3, none⟩,
  ⟨(some 59), .call ⟨(.value (.func (58 : Nat))), #[(.tmp (53 : Nat)), (.tmp (58 : Nat))], #[3, 3]⟩, none⟩,
  ⟨(some 60), .binOp .add 3 (.tmp (43 : Nat)) (.tmp (59 : Nat)) 3, none⟩,
  ⟨(some 4), .assign (.tmp (60 : Nat)), none⟩]
def curve_Raw_a8 : List (List Nat) := [[], [0], [], [2], [], [4], [3, 5], [], [], [8], [7, 9], [6, 10], [], [12], [], [14], [13, 15], [11, 16], [1, 17], [18, 17, 0, 1, 2, 3, 4, 5, 6, 7, 8, 9, 10, 11, 12, 13, 14, 15, 16, 17, 18]]
def curve_Raw_c : SF := ⟨61, (.seq (.reg curve_Raw_r0)
  (.seq (.regd curve_Raw_r1 curve_Raw_a1)
  (.seq (.block 0 (.loop (.seq (.seq (.reg curve_Raw_r2)
  (.cond (.tmp (17 : Nat)) .skip (.exit 0)))
  (.block 1 (.seq (.reg curve_Raw_r3)
  (.seq (.reg curve_Raw_r4)
  (.cond (.tmp (29 : Nat)) (.reg curve_Raw_r5) (.reg curve_Raw_r6))))))))
  (.seq (.regd curve_Raw_r7 curve_Raw_a7)
  (.seq (.regd curve_Raw_r8 curve_Raw_a8)
  .ret))))), [.tmp 4]⟩
theorem curve_Raw_s : slimF Try.prog 71 = some curve_Raw_c := by kernel_rfl
abbrev curve_Raw_f : Nat := 71
/-- printworks/curve.least -/
def curve_least_r0 : List SO := [⟨(some 2), .box 52 (.tmp (0 : Nat)), none⟩,
  ⟨(some 4), .assign (.const (.int .i64 0)), none⟩]
def curve_least_r1 : List SO := [⟨(some 5), .assign (.const (.int .i64 (-1))), none⟩,
  ⟨(some 6), .assign (.const (.int .i64 65280)), none⟩]
def curve_least_r2 : List SO := [⟨(some 8), .move (.tmp (6 : Nat)), none⟩,
  ⟨(some 9), .move (.tmp (5 : Nat)), none⟩,
  ⟨(some 10), .binOp .sub 3 (.tmp (8 : Nat)) (.tmp (9 : Nat)) 3, none⟩,
  ⟨(some 11), .binOp .gtr 3 (.tmp (10 : Nat)) (.const (.int .i64 1)) 3, none⟩]
def curve_least_r3 : List SO := [⟨(some 12), .move (.tmp (5 : Nat)), none⟩,
  ⟨(some 13), .move (.tmp (6 : Nat)), none⟩,
  ⟨(some 14), .binOp .add 3 (.tmp (12 : Nat)) (.tmp (13 : Nat)) 3, none⟩,
  ⟨(some 15), .binOp .quo 3 (.tmp (14 : Nat)) (.const (.int .i64 2)) 3, none⟩,
  ⟨(some 7), .assign (.tmp (15 : Nat)), none⟩]
def curve_least_r4 : List SO := [⟨(some 16), .load 52 (.tmp (2 : Nat)), none⟩,
  ⟨(some 17), .move (.tmp (7 : Nat)), none⟩,
  ⟨(some 18), .call ⟨(.value (.func (71 : Nat))), #[(.tmp (16 : Nat)), (.tmp (17 : Nat))], #[52, 3]⟩, none⟩,
  ⟨(some 19), .move (.tmp (1 : Nat)), none⟩,
  ⟨(some 20), .binOp .geq 3 (.tmp (18 : Nat)) (.tmp (19 : Nat)) 3, none⟩]
def curve_least_r5 : List SO := [⟨(some 21), .move (.tmp (7 : Nat)), none⟩,
  ⟨(some 6), .assign (.tmp (21 : Nat)), none⟩]
def curve_least_r6 : List SO := [⟨(some 22), .move (.tmp (7 : Nat)), none⟩,
  ⟨(some 5), .assign (.tmp (22 : Nat)), none⟩]
def curve_least_r7 : List SO := [⟨(some 23), .move (.tmp (6 : Nat)), none⟩,
  ⟨(some 4), .assign (.tmp (23 : Nat)), none⟩]
def curve_least_c : SF := ⟨24, (.seq (.reg curve_least_r0)
  (.seq (.reg curve_least_r1)
  (.seq (.block 0 (.loop (.seq (.seq (.reg curve_least_r2)
  (.cond (.tmp (11 : Nat)) .skip (.exit 0)))
  (.block 1 (.seq (.reg curve_least_r3)
  (.seq (.reg curve_least_r4)
  (.cond (.tmp (20 : Nat)) (.reg curve_least_r5) (.reg curve_least_r6))))))))
  (.seq (.reg curve_least_r7)
  .ret)))), [.tmp 4]⟩
theorem curve_least_s : slimF Try.prog 72 = some curve_least_c := by kernel_rfl
abbrev curve_least_f : Nat := 72

def tbl_curve : List (Nat × SF) := [(32, curve_Flip_c), (33, curve_Check_c), (35, curve_At_c), (36, curve_Calibrate_c), (58, curve_Nearest_c), (68, curve_Inverse_c), (69, curve_Table_c), (70, curve_Fit_c), (71, curve_Raw_c), (72, curve_least_c)]
theorem tbl_curve_ok : okT Try.prog tbl_curve := ⟨curve_Flip_s, curve_Check_s, curve_At_s, curve_Calibrate_s, curve_Nearest_s, curve_Inverse_s, curve_Table_s, curve_Fit_s, curve_Raw_s, curve_least_s, trivial⟩

end Go.Proofs.Ytfgaefpdccdfiaa
namespace Go.Proofs.Ytfgaefpdccdfiaa
open Go Go.Lite
set_option linter.unusedVariables false

/-- printworks/profile.Tones -/
def profile_Tones_r0 : List SO := [⟨(some 4), .assign (.const (.int .i64 0)), none⟩]
def profile_Tones_r1 : List SO := [⟨(some 7), .move (.tmp (0 : Nat)), none⟩,
  ⟨(some 8), .call ⟨(.builtin .len), #[(.tmp (7 : Nat))], #[22]⟩, none⟩,
  ⟨(some 9), .move (.tmp (1 : Nat)), none⟩,
  ⟨(some 10), .binOp .neq 3 (.tmp (8 : Nat)) (.tmp (9 : Nat)) 3, none⟩]
def profile_Tones_r2 : List SO := [⟨(some 4), .assign (.const (.int .i64 4)), none⟩]
def profile_Tones_r3 : List SO := [⟨(some 11), .move (.tmp (0 : Nat)), none⟩,
  ⟨(some 12), .call ⟨(.builtin .len), #[(.tmp (11 : Nat))], #[22]⟩, none⟩,
  ⟨(some 13), .move (.const (.int .i64 0)), none⟩]
def profile_Tones_r4 : List SO := [⟨(some 14), .binOp .lss 3 (.tmp (13 : Nat)) (.tmp (12 : Nat)) 3, none⟩]
def profile_Tones_r5 : List SO := [⟨(some 15), .indexAddr 22 (.tmp (11 : Nat)) (.tmp (13 : Nat)), none⟩,
  ⟨(some 16), .load 3 (.tmp (15 : Nat)), none⟩,
  ⟨(some 6), .assign (.tmp (16 : Nat)), none⟩]
def profile_Tones_r6 : List SO := [⟨(some 17), .move (.tmp (6 : Nat)), none⟩,
  ⟨(some 18), .binOp .lss 3 (.tmp (17 : Nat)) (.const (.int .i64 0)) 3, none⟩,
  ⟨(some 19), .move (.tmp (18 : Nat)), none⟩,
  ⟨(some 20), .move (.tmp (6 : Nat)), (some (19, false))⟩,
  ⟨(some 21), .binOp .gtr 3 (.tmp (20 : Nat)) (.const (.int .i64 255)) 3, (some (19, false))⟩,
  ⟨(some 22), .pick (.tmp (19 : Nat)) (.const (.bool true)) (.tmp (21 : Nat)), none⟩]
def profile_Tones_r7 : List SO := [⟨(some 4), .assign (.const (.int .i64 3)), none⟩]
def profile_Tones_r8 : List SO := [⟨(some 23), .binOp .add 3 (.tmp (13 : Nat)) (.const (.int .i64 1)) 3, none⟩,
  ⟨(some 13), .move (.tmp (23 : Nat)), none⟩]
def profile_Tones_r9 : List SO := [⟨(some 4), .assign (.const (.int .i64 0)), none⟩]
def profile_Tones_c : SF := ⟨24, (.seq (.reg profile_Tones_r0)
  (.seq (.seq (.reg profile_Tones_r1)
  (.cond (.tmp (10 : Nat)) (.seq (.reg profile_Tones_r2)
  .ret) .skip))
  (.seq (.seq (.reg profile_Tones_r3)
  (.block 0 (.loop (.seq (.reg profile_Tones_r4)
  (.seq (.cond (.tmp (14 : Nat)) .skip (.exit 0))
  (.seq (.block 1 (.seq (.reg profile_Tones_r5)
  (.seq (.reg profile_Tones_r6)
  (.cond (.tmp (22 : Nat)) (.seq (.reg profile_Tones_r7)
  .ret) .skip))))
  (.reg profile_Tones_r8)))))))
  (.seq (.reg profile_Tones_r9)
  .ret)))), [.tmp 4]⟩
theorem profile_Tones_s : slimF Try.prog 49 = some profile_Tones_c := by kernel_rfl
abbrev profile_Tones_f : Nat := 49
/-- printworks/profile.IsName -/
def profile_IsName_r0 : List SO := [⟨(some 2), .assign (.const (.bool false)), none⟩]
def profile_IsName_r1 : List SO := [⟨(some 5), .move (.tmp (0 : Nat)), none⟩,
  ⟨(some 6), .call ⟨(.builtin .len), #[(.tmp (5 : Nat))], #[9]⟩, none⟩,
  ⟨(some 7), .binOp .lss 3 (.tmp (6 : Nat)) (.const (.int .i64 1)) 3, none⟩,
  ⟨(some 8), .move (.tmp (7 : Nat)), none⟩,
  ⟨(some 9), .move (.tmp (0 : Nat)), (some (8, false))⟩,
  ⟨(some 10), .call ⟨(.builtin .len), #[(.tmp (9 : Nat))], #[9]⟩, (some (8, false))⟩,
  ⟨(some 11), .binOp .gtr 3 (.tmp (10 : Nat)) (.const (.int .i64 16)) 3, (some (8, false))⟩,
  ⟨(some 12), .pick (.tmp (8 : Nat)) (.const (.bool true)) (.tmp (11 : Nat)), none⟩,
  ⟨(some 13), .move (.tmp (12 : Nat)), none⟩,
  ⟨(some 14), .move (.tmp (0 : Nat)), (some (13, false))⟩,
  ⟨(some 15), .index 9 (.tmp (14 : Nat)) (.const (.int .i64 0)), (some (13, false))⟩,
  ⟨(some 16), .binOp .lss 5 (.tmp (15 : Nat)) (.const (.int .u8 97)) 5, (some (13, false))⟩,
  ⟨(some 17), .pick (.tmp (13 : Nat)) (.const (.bool true)) (.tmp (16 : Nat)), none⟩,
  ⟨(some 18), .move (.tmp (17 : Nat)), none⟩,
  ⟨(some 19), .move (.tmp (0 : Nat)), (some (18, false))⟩,
  ⟨(some 20), .index 9 (.tmp (19 : Nat)) (.const (.int .i64 0)), (some (18, false))⟩,
  ⟨(some 21), .binOp .gtr 5 (.tmp (20 : Nat)) (.const (.int .u8 122)) 5, (some (18, false))⟩,
  ⟨(some 22), .pick (.tmp (18 : Nat)) (.const (.bool true)) (.tmp (21 : Nat)), none⟩]
def profile_IsName_r2 : List SO := [⟨(some 2), .assign (.const (.bool false)), none⟩]
def profile_IsName_r3 : List SO := [⟨(some 23), .move (.tmp (0 : Nat)), none⟩,
  ⟨(some 24), .call ⟨(.builtin .len), #[(.tmp (23 : Nat))], #[9]⟩, none⟩,
  ⟨(some 25), .move (.const (.int .i64 0)), none⟩]
def profile_IsName_r4 : List SO := [⟨(some 26), .binOp .lss 3 (.tmp (25 : Nat)) (.tmp (24 : Nat)) 3, none⟩]
def profile_IsName_r5 : List SO := [⟨(some 27), .move (.tmp (25 : Nat)), none⟩,
  ⟨(some 3), .assign (.tmp (27 : Nat)), none⟩]
def profile_IsName_r6 : List SO := [⟨(some 28), .move (.tmp (0 : Nat)), none⟩,
  ⟨(some 29), .move (.tmp (3 : Nat)), none⟩,
  ⟨(some 30), .index 9 (.tmp (28 : Nat)) (.tmp (29 : Nat)), none⟩,
  ⟨(some 4), .assign (.tmp (30 : Nat)), none⟩]
def profile_IsName_r7 : List SO := [⟨(some 31), .move (.tmp (4 : Nat)), none⟩,
  ⟨(some 32), .binOp .lss 5 (.tmp (31 : Nat)) (.const (.int .u8 97)) 5, none⟩,
  ⟨(some 33), .move (.tmp (32 : Nat)), none⟩,
  ⟨(some 34), .move (.tmp (4 : Nat)), (some (33, false))⟩,
  ⟨(some 35), .binOp .gtr 5 (.tmp (34 : Nat)) (.const (.int .u8 122)) 5, (some (33, false))⟩,
  ⟨(some 36), .pick (.tmp (33 : Nat)) (.const (.bool true)) (.tmp (35 : Nat)), none⟩,
  ⟨(some 37), .move (.tmp (36 : Nat)), none⟩,
  ⟨(some 38), .move (.tmp (4 : Nat)), (some (37, true))⟩,
  ⟨(some 39), .binOp .lss 5 (.tmp (38 : Nat)) (.const (.int .u8 48)) 5, (some (37, true))⟩,
  ⟨(some 40), .move (.tmp (39 : Nat)), (some (37, true))⟩,
  ⟨(some 41), .move (.tmp (4 : Nat)), (some (40, false))⟩,
  ⟨(some 42), .binOp .gtr 5 (.tmp (41 : Nat)) (.const (.int .u8 57)) 5, (some (40, false))⟩,
  ⟨(some 43), .pick (.tmp (40 : Nat)) (.const (.bool true)) (.tmp (42 : Nat)), (some (37, true))⟩,
  ⟨(some 44), .pick (.tmp (37 : Nat)) (.tmp (43 : Nat)) (.const (.bool false)), none⟩,
  ⟨(some 45), .move (.tmp (44 : Nat)), none⟩,
  ⟨(some 46), .move (.tmp (4 : Nat)), (some (45, true))⟩,
  ⟨(some 47), .binOp .neq 5 (.tmp (46 : Nat)) (.const (.int .u8 45)) 5, (some (45, true))⟩,
  ⟨(some 48), .pick (.tmp (45 : Nat)) (.tmp (47 : Nat)) (.const (.bool false)), none⟩]
def profile_IsName_r8 : List SO := [⟨(some 2), .assign (.const (.bool false)), none⟩]
def profile_IsName_r9 : List SO := [⟨(some 49), .binOp .add 3 (.tmp (25 : Nat)) (.const (.int .i64 1)) 3, none⟩,
  ⟨(some 25), .move (.tmp (49 : Nat)), none⟩]
def profile_IsName_r10 : List SO := [⟨(some 2), .assign (.const (.bool true)), none⟩]
def profile_IsName_c : SF := ⟨50, (.seq (.reg profile_IsName_r0)
  (.seq (.seq (.reg profile_IsName_r1)
  (.cond (.tmp (22 : Nat)) (.seq (.reg profile_IsName_r2)
  .ret) .skip))
  (.seq (.seq (.reg profile_IsName_r3)
  (.block 0 (.loop (.seq (.reg profile_IsName_r4)
  (.seq (.cond (.tmp (26 : Nat)) .skip (.exit 0))
  (.seq (.block 1 (.seq (.reg profile_IsName_r5)
  (.seq (.reg profile_IsName_r6)
  (.seq (.reg profile_IsName_r7)
  (.cond (.tmp (48 : Nat)) (.seq (.reg profile_IsName_r8)
  .ret) .skip)))))
  (.reg profile_IsName_r9)))))))
  (.seq (.reg profile_IsName_r10)
  .ret)))), [.tmp 2]⟩
theorem profile_IsName_s : slimF Try.prog 87 = some profile_IsName_c := by kernel_rfl
abbrev profile_IsName_f : Nat := 87

def tbl_profile : List (Nat × SF) := [(49, profile_Tones_c), (87, profile_IsName_c)]
theorem tbl_profile_ok : okT Try.prog tbl_profile := ⟨profile_Tones_s, profile_IsName_s, trivial⟩

end Go.Proofs.Ytfgaefpdccdfiaa
namespace Go.Proofs.Ytfgaefpdccdfiaa
open Go Go.Lite
set_option linter.unusedVariables false

/-- printworks/overprint.Weights -/
def overprint_Weights_r0 : List SO := [⟨(some 2), .assign (.const (.slice none 0 0)), none⟩,
  ⟨(some 3), .assign (.const (.int .i64 0)), none⟩]
def overprint_Weights_r1 : List SO := [⟨(some 5), .move (.tmp (0 : Nat)), none⟩,
  ⟨(some 6), .call ⟨(.value (.func (46 : Nat))), #[(.tmp (5 : Nat))], #[22]⟩, none⟩,
  ⟨(some 4), .assign (.tmp (6 : Nat)), none⟩]
def overprint_Weights_r2 : List SO := [⟨(some 7), .move (.tmp (4 : Nat)), none⟩,
  ⟨(some 8), .binOp .neq 24 (.tmp (7 : Nat)) (.const (.int .i64 0)) 24, none⟩]
def overprint_Weights_r3 : List SO := [⟨(some 9), .move (.tmp (4 : Nat)), none⟩,
  ⟨(some 2), .assign (.const (.slice none 0 0)), none⟩,
  ⟨(some 3), .assign (.tmp (9 : Nat)), none⟩]
def overprint_Weights_r4 : List SO := [⟨(some 10), .move (.tmp (0 : Nat)), none⟩,
  ⟨(some 11), .call ⟨(.value (.func (47 : Nat))), #[(.tmp (10 : Nat))], #[22]⟩, none⟩,
  ⟨(some 2), .assign (.tmp (11 : Nat)), none⟩,
  ⟨(some 3), .assign (.const (.int .i64 0)), none⟩]
def overprint_Weights_c : SF := ⟨12, (.seq (.reg overprint_Weights_r0)
  (.seq (.seq (.reg overprint_Weights_r1)
  (.seq (.reg overprint_Weights_r2)
  (.cond (.tmp (8 : Nat)) (.seq (.reg overprint_Weights_r3)
  .ret) .skip)))
  (.seq (.reg overprint_Weights_r4)
  .ret))), [.tmp 2, .tmp 3]⟩
theorem overprint_Weights_s : slimF Try.prog 16 = some overprint_Weights_c := by kernel_rfl
abbrev overprint_Weights_f : Nat := 16
/-- printworks/overprint.Combine -/
def overprint_Combine_r0 : List SO := [⟨(some 6), .assign (.const (.slice none 0 0)), none⟩,
  ⟨(some 7), .assign (.const (.int .i64 0)), none⟩]
def overprint_Combine_r1 : List SO := [⟨(some 13), .move (.tmp (0 : Nat)), none⟩,
  ⟨(some 14), .call ⟨(.builtin .len), #[(.tmp (13 : Nat))], #[22]⟩, none⟩,
  ⟨(some 15), .binOp .gtr 3 (.tmp (14 : Nat)) (.const (.int .i64 8)) 3, none⟩]
def overprint_Combine_r2 : List SO := [⟨(some 6), .assign (.const (.slice none 0 0)), none⟩,
  ⟨(some 7), .assign (.const (.int .i64 2)), none⟩]
def overprint_Combine_r3 : List SO := [⟨(some 16), .move (.tmp (0 : Nat)), none⟩,
  ⟨(some 17), .move (.tmp (0 : Nat)), none⟩,
  ⟨(some 18), .call ⟨(.builtin .len), #[(.tmp (17 : Nat))], #[22]⟩, none⟩,
  ⟨(some 19), .call ⟨(.value (.func (49 : Nat))), #[(.tmp (16 : Nat)), (.tmp (18 : Nat))], #[22, 3]⟩, none⟩,
  ⟨(some 8), .assign (.tmp (19 : Nat)), none⟩]
def overprint_Combine_r4 : List SO := [⟨(some 20), .move (.tmp (8 : Nat)), none⟩,
  ⟨(some 21), .binOp .neq 24 (.tmp (20 : Nat)) (.const (.int .i64 0)) 24, none⟩]
def overprint_Combine_r5 : List SO := [⟨(some 22), .move (.tmp (8 : Nat)), none⟩,
  ⟨(some 6), .assign (.const (.slice none 0 0)), none⟩,
  ⟨(some 7), .assign (.tmp (22 : Nat)), none⟩]
def overprint_Combine_r6 : List SO := [⟨(some 23), .move (.tmp (1 : Nat)), none⟩,
  ⟨(some 24), .move (.tmp (0 : Nat)), none⟩,
  ⟨(some 25), .call ⟨(.builtin .len), #[(.tmp (24 : Nat))], #[22]⟩, none⟩,
  ⟨(some 26), .call ⟨(.value (.func (49 : Nat))), #[(.tmp (23 : Nat)), (.tmp (25 : Nat))], #[22, 3]⟩, none⟩,
  ⟨(some 9), .assign (.tmp (26 : Nat)), none⟩]
def overprint_Combine_r7 : List SO := [⟨(some 27), .move (.tmp (9 : Nat)), none⟩,
  ⟨(some 28), .binOp .neq 24 (.tmp (27 : Nat)) (.const (.int .i64 0)) 24, none⟩]
def overprint_Combine_r8 : List SO := [⟨(some 29), .move (.tmp (9 : Nat)), none⟩,
  ⟨(some 6), .assign (.const (.slice none 0 0)), none⟩,
  ⟨(some 7), .assign (.tmp (29 : Nat)), none⟩]
def overprint_Combine_r9 : List SO := [⟨(some 30), .move (.tmp (2 : Nat)), none⟩,
  ⟨(some 31), .call ⟨(.builtin .len), #[(.tmp (30 : Nat))], #[22]⟩, none⟩,
  ⟨(some 32), .move (.tmp (0 : Nat)), none⟩,
  ⟨(some 33), .call ⟨(.builtin .len), #[(.tmp (32 : Nat))], #[22]⟩, none⟩,
  ⟨(some 34), .binOp .neq 3 (.tmp (31 : Nat)) (.tmp (33 : Nat)) 3, none⟩]
def overprint_Combine_r10 : List SO := [⟨(some 6), .assign (.const (.slice none 0 0)), none⟩,
  ⟨(some 7), .assign (.const (.int .i64 4)), none⟩]
def overprint_Combine_r11 : List SO := [⟨(some 35), .move (.tmp (0 : Nat)), none⟩,
  ⟨(some 36), .call ⟨(.builtin .len), #[(.tmp (35 : Nat))], #[22]⟩, none⟩,
  ⟨(some 37), .makeSlice 22 (.tmp (36 : Nat)) (.tmp (36 : Nat)), none⟩,
  ⟨(some 10), .assign (.tmp (37 : Nat)), none⟩]
def overprint_Combine_r12 : List SO := [⟨(some 38), .move (.tmp (10 : Nat)), none⟩,
  ⟨(some 39), .call ⟨(.builtin .len), #[(.tmp (38 : Nat))], #[22]⟩, none⟩,
  ⟨(some 40), .move (.const (.int .i64 0)), none⟩]
def overprint_Combine_r13 : List SO := [⟨(some 41), .binOp .lss 3 (.tmp (40 : Nat)) (.tmp (39 : Nat)) 3, none⟩]
def overprint_Combine_r14 : List SO := [⟨(some 42), .move (.tmp (40 : Nat)), none⟩,
  ⟨(some 11), .assign (.tmp (42 : Nat)), none⟩]
def overprint_Combine_r15 : List SO := [⟨(some 43), .move (.tmp (2 : Nat)), none⟩,
  ⟨(some 44), .move (.tmp (11 : Nat)), none⟩,
  ⟨(some 45), .indexAddr 22 (.tmp (43 : Nat)) (.tmp (44 : Nat)), none⟩,
  ⟨(some 46), .load 3 (.tmp (45 : Nat)), none⟩,
  ⟨(some 47), .call ⟨(.value (.func (50 : Nat))), #[(.tmp (46 : Nat))], #[3]⟩, none⟩,
  ⟨(some 12), .assign (.tmp (47 : Nat)), none⟩]
def overprint_Combine_r16 : List SO := [⟨(some 48), .move (.tmp (12 : Nat)), none⟩,
  ⟨(some 49), .binOp .eql 27 (.tmp (48 : Nat)) (.const .nilFunc) 27, none⟩]
def overprint_Combine_r17 : List SO := [⟨(some 6), .assign (.const (.slice none 0 0)), none⟩,
  ⟨(some 7), .assign (.const (.int .i64 3)), none⟩]
def overprint_Combine_r18 : List SO := [⟨(some 50), .move (.tmp (10 : Nat)), none⟩,
  ⟨(some 51), .move (.tmp (11 : Nat)), none⟩,
  ⟨(some 52), .move (.tmp (12 : Nat)), none⟩,
  ⟨(some 53), .move (.tmp (0 : Nat)), none⟩,
  ⟨(some 54), .move (.tmp (11 : Nat)), none⟩,
  ⟨(some 55), .indexAddr 22 (.tmp (53 : Nat)) (.tmp (54 : Nat)), none⟩,
  ⟨(some 56), .load 3 (.tmp (55 : Nat)), none⟩,
  ⟨(some 57), .move (.tmp (1 : Nat)), none⟩,
  ⟨(some 58), .move (.tmp (11 : Nat)), none⟩,
  ⟨(some 59), .indexAddr 22 (.tmp (57 : Nat)) (.tmp (58 : Nat)), none⟩,
  ⟨(some 60), .load 3 (.tmp (59 : Nat)), none⟩,
  ⟨(some 61), .call ⟨(.value (.tmp (52 : Nat))), #[(.tmp (56 : Nat)), (.tmp (60 : Nat))], #[3, 3]⟩, none⟩,
  ⟨(some 62), .indexAddr 22 (.tmp (50 : Nat)) (.tmp (51 : Nat)), none⟩,
  ⟨none, .store 3 (.tmp (62 : Nat)) (.tmp (61 : Nat)), none⟩]
def overprint_Combine_a18 : List (List Nat) := [[], [], [], [], [], [3, 4], [5], [], [], [7, 8], [9], [2, 6, 10], [0, 1, 0, 1, 2, 3, 4, 5, 6, 7, 8, 9, 10, 11], [12, 11, 11, 0, 1, 2, 3, 4, 5, 6, 7, 8, 9, 10, 11]]
def overprint_Combine_r19 : List SO := [⟨(some 63), .binOp .add 3 (.tmp (40 : Nat)) (.const (.int .i64 1)) 3, none⟩,
  ⟨(some 40), .move (.tmp (63 : Nat)), none⟩]
def overprint_Combine_r20 : List SO := [⟨(some 64), .move (.tmp (10 : Nat)), none⟩,
  ⟨(some 6), .assign (.tmp (64 : Nat)), none⟩,
  ⟨(some 7), .assign (.const (.int .i64 0)), none⟩]
def overprint_Combine_c : SF := ⟨65, (.seq (.reg overprint_Combine_r0)
  (.seq (.seq (.reg overprint_Combine_r1)
  (.cond (.tmp (15 : Nat)) (.seq (.reg overprint_Combine_r2)
  .ret) .skip))
  (.seq (.seq (.reg overprint_Combine_r3)
  (.seq (.reg overprint_Combine_r4)
  (.cond (.tmp (21 : Nat)) (.seq (.reg overprint_Combine_r5)
  .ret) .skip)))
  (.seq (.seq (.reg overprint_Combine_r6)
  (.seq (.reg overprint_Combine_r7)
  (.cond (.tmp (28 : Nat)) (.seq (.reg overprint_Combine_r8)
  .ret) .skip)))
  (.seq (.seq (.reg overprint_Combine_r9)
  (.cond (.tmp (34 : Nat)) (.seq (.reg overprint_Combine_r10)
  .ret) .skip))
  (.seq (.reg overprint_Combine_r11)
  (.seq (.seq (.reg overprint_Combine_r12)
  (.block 0 (.loop (.seq (.reg overprint_Combine_r13)
  (.seq (.cond (.tmp (41 : Nat)) .skip (.exit 0))
  (.seq (.block 1 (.seq (.reg overprint_Combine_r14)
  (.seq (.reg overprint_Combine_r15)
  (.seq (.seq (.reg overprint_Combine_r16)
  (.cond (.tmp (49 : Nat)) (.seq (.reg overprint_Combine_r17)
  .ret) .skip))
  (.regd overprint_Combine_r18 overprint_Combine_a18)))))
  (.reg overprint_Combine_r19)))))))
  (.seq (.reg overprint_Combine_r20)
  .ret)))))))), [.tmp 6, .tmp 7]⟩
theorem overprint_Combine_s : slimF Try.prog 19 = some overprint_Combine_c := by kernel_rfl
abbrev overprint_Combine_f : Nat := 19
/-- printworks/overprint.Predict -/
def overprint_Predict_r0 : List SO := [⟨(some 4), .alloc 35, none⟩,
  ⟨(some 5), .assign (.const (.int .i64 0)), none⟩]
def overprint_Predict_r1 : List SO := [⟨(some 14), .move (.tmp (1 : Nat)), none⟩,
  ⟨(some 15), .call ⟨(.value (.func (46 : Nat))), #[(.tmp (14 : Nat))], #[22]⟩, none⟩,
  ⟨(some 6), .assign (.tmp (15 : Nat)), none⟩]
def overprint_Predict_r2 : List SO := [⟨(some 16), .move (.tmp (6 : Nat)), none⟩,
  ⟨(some 17), .binOp .neq 24 (.tmp (16 : Nat)) (.const (.int .i64 0)) 24, none⟩]
def overprint_Predict_r3 : List SO := [⟨(some 18), .build 35 #[], none⟩,
  ⟨(some 19), .move (.tmp (6 : Nat)), none⟩,
  ⟨none, .store 35 (.tmp (4 : Nat)) (.tmp (18 : Nat)), none⟩,
  ⟨(some 5), .assign (.tmp (19 : Nat)), none⟩]
def overprint_Predict_r4 : List SO := [⟨(some 20), .move (.tmp (0 : Nat)), none⟩,
  ⟨(some 21), .call ⟨(.builtin .len), #[(.tmp (20 : Nat))], #[65]⟩, none⟩,
  ⟨(some 22), .move (.tmp (1 : Nat)), none⟩,
  ⟨(some 23), .call ⟨(.builtin .len), #[(.tmp (22 : Nat))], #[22]⟩, none⟩,
  ⟨(some 24), .binOp .shl 3 (.const (.int .i64 1)) (.tmp (23 : Nat)) 3, none⟩,
  ⟨(some 25), .binOp .neq 3 (.tmp (21 : Nat)) (.tmp (24 : Nat)) 3, none⟩]
def overprint_Predict_r5 : List SO := [⟨(some 26), .build 35 #[], none⟩,
  ⟨none, .store 35 (.tmp (4 : Nat)) (.tmp (26 : Nat)), none⟩,
  ⟨(some 5), .assign (.const (.int .i64 4)), none⟩]
def overprint_Predict_r6 : List SO := [⟨(some 27), .move (.tmp (0 : Nat)), none⟩,
  ⟨(some 28), .call ⟨(.builtin .len), #[(.tmp (27 : Nat))], #[65]⟩, none⟩,
  ⟨(some 29), .move (.const (.int .i64 0)), none⟩]
def overprint_Predict_r7 : List SO := [⟨(some 30), .binOp .lss 3 (.tmp (29 : Nat)) (.tmp (28 : Nat)) 3, none⟩]
def overprint_Predict_r8 : List SO := [⟨(some 31), .indexAddr 65 (.tmp (27 : Nat)) (.tmp (29 : Nat)), none⟩,
  ⟨(some 32), .load 35 (.tmp (31 : Nat)), none⟩,
  ⟨(some 8), .alloc 35, none⟩,
  ⟨none, .store 35 (.tmp (8 : Nat)) (.tmp (32 : Nat)), none⟩]
def overprint_Predict_r9 : List SO := [⟨(some 33), .load 35 (.tmp (8 : Nat)), none⟩,
  ⟨(some 34), .call ⟨(.value (.func (24 : Nat))), #[(.tmp (33 : Nat))], #[35]⟩, none⟩,
  ⟨(some 9), .assign (.tmp (34 : Nat)), none⟩]
def overprint_Predict_r10 : List SO := [⟨(some 35), .move (.tmp (9 : Nat)), none⟩,
  ⟨(some 36), .binOp .neq 24 (.tmp (35 : Nat)) (.const (.int .i64 0)) 24, none⟩]
def overprint_Predict_r11 : List SO := [⟨(some 37), .build 35 #[], none⟩,
  ⟨(some 38), .move (.tmp (9 : Nat)), none⟩,
  ⟨none, .store 35 (.tmp (4 : Nat)) (.tmp (37 : Nat)), none⟩,
  ⟨(some 5), .assign (.tmp (38 : Nat)), none⟩]
def overprint_Predict_r12 : List SO := [⟨(some 39), .binOp .add 3 (.tmp (29 : Nat)) (.const (.int .i64 1)) 3, none⟩,
  ⟨(some 29), .move (.tmp (39 : Nat)), none⟩]
def overprint_Predict_r13 : List SO := [⟨(some 40), .build 35 #[], none⟩,
  ⟨(some 11), .alloc 35, none⟩,
  ⟨(some 10), .assign (.const (.int .i64 0)), none⟩,
  ⟨none, .store 35 (.tmp (11 : Nat)) (.tmp (40 : Nat)), none⟩]
def overprint_Predict_r14 : List SO := [⟨(some 41), .move (.tmp (1 : Nat)), none⟩,
  ⟨(some 42), .call ⟨(.value (.func (47 : Nat))), #[(.tmp (41 : Nat))], #[22]⟩, none⟩,
  ⟨(some 43), .call ⟨(.builtin .len), #[(.tmp (42 : Nat))], #[22]⟩, none⟩,
  ⟨(some 44), .move (.const (.int .i64 0)), none⟩]
def overprint_Predict_r15 : List SO := [⟨(some 45), .binOp .lss 3 (.tmp (44 : Nat)) (.tmp (43 : Nat)) 3, none⟩]
def overprint_Predict_r16 : List SO := [⟨(some 46), .move (.tmp (44 : Nat)), none⟩,
  ⟨(some 47), .indexAddr 22 (.tmp (42 : Nat)) (.tmp (44 : Nat)), none⟩,
  ⟨(some 48), .load 3 (.tmp (47 : Nat)), none⟩,
  ⟨(some 12), .assign (.tmp (46 : Nat)), none⟩,
  ⟨(some 13), .assign (.tmp (48 : Nat)), none⟩]
def overprint_Predict_r17 : List SO := [⟨(some 49), .move (.tmp (10 : Nat)), none⟩,
  ⟨(some 50), .move (.tmp (13 : Nat)), none⟩,
  ⟨(some 51), .binOp .add 3 (.tmp (49 : Nat)) (.tmp (50 : Nat)) 3, none⟩,
  ⟨(some 10), .assign (.tmp (51 : Nat)), none⟩]
def overprint_Predict_r18 : List SO := [⟨(some 52), .fieldAddr 35 (.tmp (11 : Nat)) 0, none⟩,
  ⟨(some 53), .load 3 (.tmp (52 : Nat)), none⟩,
  ⟨(some 54), .move (.tmp (13 : Nat)), none⟩,
  ⟨(some 55), .move (.tmp (0 : Nat)), none⟩,
  ⟨(some 56), .move (.tmp (12 : Nat)), none⟩,
  ⟨(some 57), .indexAddr 65 (.tmp (55 : Nat)) (.tmp (56 : Nat)), none⟩,
  ⟨(some 58), .fieldAddr 35 (.tmp (57 : Nat)) 0, none⟩,
  ⟨(some 59), .load 3 (.tmp (58 : Nat)), none⟩,
  ⟨(some 60), .binOp .mul 3 (.tmp (54 : Nat)) (.tmp (59 : Nat)) 3, none⟩,
  ⟨(some 61), .binOp .add 3 (.tmp (53 : Nat)) (.tmp (60 : Nat)) 3, none⟩,
  ⟨(some 62), .fieldAddr 35 (.tmp (11 : Nat)) 0, none⟩,
  ⟨none, .store 3 (.tmp (62 : Nat)) (.tmp (61 : Nat)), none⟩]
def overprint_Predict_a18 : List (List Nat) := [[], [0], [], [], [], [3, 4], [5], [6], [2, 7], [1, 8], [0, 1, 2, 3, 4, 5, 6, 7, 8, 9], [10, 9, 0, 1, 2, 3, 4, 5, 6, 7, 8, 9]]
def overprint_Predict_r19 : List SO := [⟨(some 63), .fieldAddr 35 (.tmp (11 : Nat)) 1, none⟩,
  ⟨(some 64), .load 3 (.tmp (63 : Nat)), none⟩,
  ⟨(some 65), .move (.tmp (13 : Nat)), none⟩,
  ⟨(some 66), .move (.tmp (0 : Nat)), none⟩,
  ⟨(some 67), .move (.tmp (12 : Nat)), none⟩,
  ⟨(some 68), .indexAddr 65 (.tmp (66 : Nat)) (.tmp (67 : Nat)), none⟩,
  ⟨(some 69), .fieldAddr 35 (.tmp (68 : Nat)) 1, none⟩,
  ⟨(some 70), .load 3 (.tmp (69 : Nat)), none⟩,
  ⟨(some 71), .binOp .mul 3 (.tmp (65 : Nat)) (.tmp (70 : Nat)) 3, none⟩,
  ⟨(some 72), .binOp .add 3 (.tmp (64 : Nat)) (.tmp (71 : Nat)) 3, none⟩,
  ⟨(some 73), .fieldAddr 35 (.tmp (11 : Nat)) 1, none⟩,
  ⟨none, .store 3 (.tmp (73 : Nat)) (.tmp (72 : Nat)), none⟩]
def overprint_Predict_a19 : List (List Nat) := [[], [0], [], [], [], [3, 4], [5], [6], [2, 7], [1, 8], [0, 1, 2, 3, 4, 5, 6, 7, 8, 9], [10, 9, 0, 1, 2, 3, 4, 5, 6, 7, 8, 9]]
def overprint_Predict_r20 : List SO := [⟨(some 74), .fieldAddr 35 (.tmp (11 : Nat)) 2, none⟩,
  ⟨(some 75), .load 3 (.tmp (74 : Nat)), none⟩,
  ⟨(some 76), .move (.tmp (13 : Nat)), none⟩,
  ⟨(some 77), .move (.tmp (0 : Nat)), none⟩,
  ⟨(some 78), .move (.tmp (12 : Nat)), none⟩,
  ⟨(some 79), .indexAddr 65 (.tmp (77 : Nat)) (.tmp (78 : Nat)), none⟩,
  ⟨(some 80), .fieldAddr 35 (.tmp (79 : Nat)) 2, none⟩,
  ⟨(some 81), .load 3 (.tmp (80 : Nat)), none⟩,
  ⟨(some 82), .binOp .mul 3 (.tmp (76 : Nat)) (.tmp (81 : Nat)) 3, none⟩,
  ⟨(some 83), .binOp .add 3 (.tmp (75 : Nat)) (.tmp (82 : Nat)) 3, none⟩,
  ⟨(some 84), .fieldAddr 35 (.tmp (11 : Nat)) 2, none⟩,
  ⟨none, .store 3 (.tmp (84 : Nat)) (.tmp (83 : Nat)), none⟩]
def overprint_Predict_a20 : List (List Nat) := [[], [0], [], [], [], [3, 4], [5], [6], [2, 7], [1, 8], [0, 1, 2, 3, 4, 5, 6, 7, 8, 9], [10, 9, 0, 1, 2, 3, 4, 5, 6, 7, 8, 9]]
def overprint_Predict_r21 : List SO := [⟨(some 85), .binOp .add 3 (.tmp (44 : Nat)) (.const (.int .i64 1)) 3, none⟩,
  ⟨(some 44), .move (.tmp (85 : Nat)), none⟩]
def overprint_Predict_r22 : List SO := [⟨(some 86), .fieldAddr 35 (.tmp (11 : Nat)) 0, none⟩,
  ⟨(some 87), .load 3 (.tmp (86 : Nat)), none⟩,
  ⟨(some 88), .move (.tmp (10 : Nat)), none⟩,
  ⟨(some 89), .call ⟨(.value (.func (58 : Nat))), #[(.tmp (87 : Nat)), (.tmp (88 : Nat))], #[3, 3]⟩, none⟩,
  ⟨(some 90), .fieldAddr 35 (.tmp (11 : Nat)) 1, none⟩,
  ⟨(some 91), .load 3 (.tmp (90 : Nat)), none⟩,
  ⟨(some 92), .move (.tmp (10 : Nat)), none⟩,
  ⟨(some 93), .call ⟨(.value (.func (58 : Nat))), #[(.tmp (91 : Nat)), (.tmp (92 : Nat))], #[3, 3]⟩, none⟩,
  ⟨(some 94), .fieldAddr 35 (.tmp (11 : Nat)) 2, none⟩,
  ⟨(some 95), .load 3 (.tmp (94 : Nat)), none⟩,
  ⟨(some 96), .move (.tmp (10 : Nat)), none⟩,
  ⟨(some 97), .call ⟨(.value (.func (58 : Nat))), #[(.tmp (95 : Nat)), (.tmp (96 : Nat))], #[3, 3]⟩, none⟩,
  ⟨(some 98), .build 35 #[(0, (.tmp (89 : Nat))), (1, (.tmp (93 : Nat))), (2, (.tmp (97 : Nat)))], none⟩,
  ⟨none, .store 35 (.tmp (4 : Nat)) (.tmp (98 : Nat)), none⟩,
  ⟨(some 5), .assign (.const (.int .i64 0)), none⟩]
def overprint_Predict_a22 : List (List Nat) := [[], [0], [], [1, 2], [], [4], [], [5, 6, 3], [], [8], [], [9, 10, 7], [3, 7, 11], [12, 11, 0, 1, 2, 3, 4, 5, 6, 7, 8, 9, 10, 11, 12], [13, 0, 1, 2, 3, 4, 5, 6, 7, 8, 9, 10, 11, 12, 13]]
def overprint_Predict_c : SF := ⟨99, (.seq (.reg overprint_Predict_r0)
  (.seq (.seq (.reg overprint_Predict_r1)
  (.seq (.reg overprint_Predict_r2)
  (.cond (.tmp (17 : Nat)) (.seq (.reg overprint_Predict_r3)
  .ret) .skip)))
  (.seq (.seq (.reg overprint_Predict_r4)
  (.cond (.tmp (25 : Nat)) (.seq (.reg overprint_Predict_r5)
  .ret) .skip))
  (.seq (.seq (.reg overprint_Predict_r6)
  (.block 0 (.loop (.seq (.reg overprint_Predict_r7)
  (.seq (.cond (.tmp (30 : Nat)) .skip (.exit 0))
  (.seq (.block 1 (.seq (.reg overprint_Predict_r8)
  (.seq (.reg overprint_Predict_r9)
  (.seq (.reg overprint_Predict_r10)
  (.cond (.tmp (36 : Nat)) (.seq (.reg overprint_Predict_r11)
  .ret) .skip)))))
  (.reg overprint_Predict_r12)))))))
  (.seq (.reg overprint_Predict_r13)
  (.seq (.seq (.reg overprint_Predict_r14)
  (.block 2 (.loop (.seq (.reg overprint_Predict_r15)
  (.seq (.cond (.tmp (45 : Nat)) .skip (.exit 2))
  (.seq (.block 3 (.seq (.reg overprint_Predict_r16)
  (.seq (.reg overprint_Predict_r17)
  (.seq (.regd overprint_Predict_r18 overprint_Predict_a18)
  (.seq (.regd overprint_Predict_r19 overprint_Predict_a19)
  (.regd overprint_Predict_r20 overprint_Predict_a20))))))
  (.reg overprint_Predict_r21)))))))
  (.seq (.regd overprint_Predict_r22 overprint_Predict_a22)
  .ret))))))), [.cell 4 35, .tmp 5]⟩
theorem overprint_Predict_s : slimF Try.prog 37 = some overprint_Predict_c := by kernel_rfl
abbrev overprint_Predict_f : Nat := 37
/-- printworks/overprint.check -/
def overprint_check_r0 : List SO := [⟨(some 2), .assign (.const (.int .i64 0)), none⟩]
def overprint_check_r1 : List SO := [⟨(some 4), .move (.tmp (0 : Nat)), none⟩,
  ⟨(some 5), .call ⟨(.builtin .len), #[(.tmp (4 : Nat))], #[22]⟩, none⟩,
  ⟨(some 3), .assign (.tmp (5 : Nat)), none⟩]
def overprint_check_r2 : List SO := [⟨(some 7), .move (.tmp (3 : Nat)), none⟩,
  ⟨(some 8), .binOp .gtr 3 (.tmp (7 : Nat)) (.const (.int .i64 6)) 3, none⟩,
  ⟨(some 6), .assign (.tmp (8 : Nat)), none⟩]
def overprint_check_r3 : List SO := [⟨(some 2), .assign (.const (.int .i64 2)), none⟩]
def overprint_check_r4 : List SO := [⟨(some 10), .move (.tmp (3 : Nat)), none⟩,
  ⟨(some 11), .binOp .eql 3 (.tmp (10 : Nat)) (.const (.int .i64 0)) 3, none⟩,
  ⟨(some 9), .assign (.tmp (11 : Nat)), none⟩]
def overprint_check_r5 : List SO := [⟨(some 2), .assign (.const (.int .i64 1)), none⟩]
def overprint_check_r6 : List SO := [⟨(some 12), .move (.tmp (0 : Nat)), none⟩,
  ⟨(some 13), .move (.tmp (0 : Nat)), none⟩,
  ⟨(some 14), .call ⟨(.builtin .len), #[(.tmp (13 : Nat))], #[22]⟩, none⟩,
  ⟨(some 15), .call ⟨(.value (.func (49 : Nat))), #[(.tmp (12 : Nat)), (.tmp (14 : Nat))], #[22, 3]⟩, none⟩,
  ⟨(some 2), .assign (.tmp (15 : Nat)), none⟩]
def overprint_check_c : SF := ⟨16, (.seq (.reg overprint_check_r0)
  (.seq (.seq (.reg overprint_check_r1)
  (.block 0 (.seq (.reg overprint_check_r2)
  (.cond (.tmp (6 : Nat)) (.seq (.reg overprint_check_r3)
  .ret) (.seq (.reg overprint_check_r4)
  (.cond (.tmp (9 : Nat)) (.seq (.reg overprint_check_r5)
  .ret) .skip))))))
  (.seq (.reg overprint_check_r6)
  .ret))), [.tmp 2]⟩
theorem overprint_check_s : slimF Try.prog 46 = some overprint_check_c := by kernel_rfl
abbrev overprint_check_f : Nat := 46
/-- printworks/overprint.shares -/
def overprint_shares_r0 : List SO := [⟨(some 2), .assign (.const (.slice none 0 0)), none⟩]
def overprint_shares_r1 : List SO := [⟨(some 9), .buildSlice 22 1 #[(0, (.const (.int .i64 1)))], none⟩,
  ⟨(some 3), .assign (.tmp (9 : Nat)), none⟩]
def overprint_shares_r2 : List SO := [⟨(some 10), .move (.tmp (0 : Nat)), none⟩,
  ⟨(some 11), .call ⟨(.builtin .len), #[(.tmp (10 : Nat))], #[22]⟩, none⟩,
  ⟨(some 12), .move (.const (.int .i64 0)), none⟩]
def overprint_shares_r3 : List SO := [⟨(some 13), .binOp .lss 3 (.tmp (12 : Nat)) (.tmp (11 : Nat)) 3, none⟩]
def overprint_shares_r4 : List SO := [⟨(some 14), .indexAddr 22 (.tmp (10 : Nat)) (.tmp (12 : Nat)), none⟩,
  ⟨(some 15), .load 3 (.tmp (14 : Nat)), none⟩,
  ⟨(some 5), .assign (.tmp (15 : Nat)), none⟩]
def overprint_shares_r5 : List SO := [⟨(some 16), .move (.tmp (3 : Nat)), none⟩,
  ⟨(some 17), .call ⟨(.builtin .len), #[(.tmp (16 : Nat))], #[22]⟩, none⟩,
  ⟨(some 6), .assign (.tmp (17 : Nat)), none⟩]
def overprint_shares_r6 : List SO := [⟨(some 18), .move (.tmp (6 : Nat)), none⟩,
  ⟨(some 19), .move (.const (.int .i64 0)), none⟩]
def overprint_shares_r7 : List SO := [⟨(some 20), .binOp .lss 3 (.tmp (19 : Nat)) (.tmp (18 : Nat)) 3, none⟩]
def overprint_shares_r8 : List SO := [⟨(some 21), .move (.tmp (19 : Nat)), none⟩,
  ⟨(some 7), .assign (.tmp (21 : Nat)), none⟩]
def overprint_shares_r9 : List SO := [⟨(some 22), .move (.tmp (3 : Nat)), none⟩,
  ⟨(some 23), .move (.tmp (3 : Nat)), none⟩,
  ⟨(some 24), .move (.tmp (7 : Nat)), none⟩,
  ⟨(some 25), .indexAddr 22 (.tmp (23 : Nat)) (.tmp (24 : Nat)), none⟩,
  ⟨(some 26), .load 3 (.tmp (25 : Nat)), none⟩,
  ⟨(some 27), .move (.tmp (5 : Nat)), none⟩,
  ⟨(some 28), .binOp .mul 3 (.tmp (26 : Nat)) (.tmp (27 : Nat)) 3, none⟩,
  ⟨(some 29), .buildSlice 22 1 #[(0, (.tmp (28 : Nat)))], none⟩,
  ⟨(some 30), .call ⟨(.builtin .append), #[(.tmp (22 : Nat)), (.tmp (29 : Nat))], #[22, 22]⟩, none⟩,
  ⟨(some 3), .assign (.tmp (30 : Nat)), none⟩]
def overprint_shares_r10 : List SO := [⟨(some 31), .binOp .add 3 (.tmp (19 : Nat)) (.const (.int .i64 1)) 3, none⟩,
  ⟨(some 19), .move (.tmp (31 : Nat)), none⟩]
def overprint_shares_r11 : List SO := [⟨(some 32), .move (.tmp (6 : Nat)), none⟩,
  ⟨(some 33), .move (.const (.int .i64 0)), none⟩]
def overprint_shares_r12 : List SO := [⟨(some 34), .binOp .lss 3 (.tmp (33 : Nat)) (.tmp (32 : Nat)) 3, none⟩]
def overprint_shares_r13 : List SO := [⟨(some 35), .move (.tmp (33 : Nat)), none⟩,
  ⟨(some 8), .assign (.tmp (35 : Nat)), none⟩]
def overprint_shares_r14 : List SO := [⟨(some 36), .move (.tmp (3 : Nat)), none⟩,
  ⟨(some 37), .move (.tmp (8 : Nat)), none⟩,
  ⟨(some 38), .indexAddr 22 (.tmp (36 : Nat)) (.tmp (37 : Nat)), none⟩,
  ⟨(some 39), .load 3 (.tmp (38 : Nat)), none⟩,
  ⟨(some 40), .move (.tmp (5 : Nat)), none⟩,
  ⟨(some 41), .binOp .sub 3 (.const (.int .i64 255)) (.tmp (40 : Nat)) 3, none⟩,
  ⟨(some 42), .binOp .mul 3 (.tmp (39 : Nat)) (.tmp (41 : Nat)) 3, none⟩,
  ⟨(some 43), .indexAddr 22 (.tmp (36 : Nat)) (.tmp (37 : Nat)), none⟩,
  ⟨none, .store 3 (.tmp (43 : Nat)) (.tmp (42 : Nat)), none⟩]
def overprint_shares_r15 : List SO := [⟨(some 44), .binOp .add 3 (.tmp (33 : Nat)) (.const (.int .i64 1)) 3, none⟩,
  ⟨(some 33), .move (.tmp (44 : Nat)), none⟩]
def overprint_shares_r16 : List SO := [⟨(some 45), .binOp .add 3 (.tmp (12 : Nat)) (.const (.int .i64 1)) 3, none⟩,
  ⟨(some 12), .move (.tmp (45 : Nat)), none⟩]
def overprint_shares_r17 : List SO := [⟨(some 46), .move (.tmp (3 : Nat)), none⟩,
  ⟨(some 2), .assign (.tmp (46 : Nat)), none⟩]
def overprint_shares_c : SF := ⟨47, (.seq (.reg overprint_shares_r0)
  (.seq (.reg overprint_shares_r1)
  (.seq (.seq (.reg overprint_shares_r2)
  (.block 0 (.loop (.seq (.reg overprint_shares_r3)
  (.seq (.cond (.tmp (13 : Nat)) .skip (.exit 0))
  (.seq (.block 1 (.seq (.reg overprint_shares_r4)
  (.seq (.reg overprint_shares_r5)
  (.seq (.seq (.reg overprint_shares_r6)
  (.block 2 (.loop (.seq (.reg overprint_shares_r7)
  (.seq (.cond (.tmp (20 : Nat)) .skip (.exit 2))
  (.seq (.block 3 (.seq (.reg overprint_shares_r8)
  (.reg overprint_shares_r9)))
  (.reg overprint_shares_r10)))))))
  (.seq (.reg overprint_shares_r11)
  (.block 4 (.loop (.seq (.reg overprint_shares_r12)
  (.seq (.cond (.tmp (34 : Nat)) .skip (.exit 4))
  (.seq (.block 5 (.seq (.reg overprint_shares_r13)
  (.reg overprint_shares_r14)))
  (.reg overprint_shares_r15)))))))))))
  (.reg overprint_shares_r16)))))))
  (.seq (.reg overprint_shares_r17)
  .ret)))), [.tmp 2]⟩
theorem overprint_shares_s : slimF Try.prog 47 = some overprint_shares_c := by kernel_rfl
abbrev overprint_shares_f : Nat := 47
/-- printworks/overprint.kind -/
def overprint_kind_r0 : List SO := [⟨(some 2), .assign (.const .nilFunc), none⟩]
def overprint_kind_r1 : List SO := [⟨(some 3), .move (.tmp (0 : Nat)), none⟩]
def overprint_kind_r2 : List SO := [⟨(some 5), .binOp .eql 3 (.tmp (3 : Nat)) (.const (.int .i64 0)) 3, none⟩,
  ⟨(some 4), .assign (.tmp (5 : Nat)), none⟩]
def overprint_kind_r3 : List SO := [⟨(some 2), .assign (.func (82 : Nat)), none⟩]
def overprint_kind_r4 : List SO := [⟨(some 7), .binOp .eql 3 (.tmp (3 : Nat)) (.const (.int .i64 1)) 3, none⟩,
  ⟨(some 6), .assign (.tmp (7 : Nat)), none⟩]
def overprint_kind_r5 : List SO := [⟨(some 2), .assign (.func (83 : Nat)), none⟩]
def overprint_kind_r6 : List SO := [⟨(some 9), .binOp .eql 3 (.tmp (3 : Nat)) (.const (.int .i64 2)) 3, none⟩,
  ⟨(some 8), .assign (.tmp (9 : Nat)), none⟩]
def overprint_kind_r7 : List SO := [⟨(some 2), .assign (.func (84 : Nat)), none⟩]
def overprint_kind_r8 : List SO := [⟨(some 11), .binOp .eql 3 (.tmp (3 : Nat)) (.const (.int .i64 3)) 3, none⟩,
  ⟨(some 10), .assign (.tmp (11 : Nat)), none⟩]
def overprint_kind_r9 : List SO := [⟨(some 2), .assign (.func (85 : Nat)), none⟩]
def overprint_kind_r10 : List SO := [⟨(some 2), .assign (.const .nilFunc), none⟩]
def overprint_kind_c : SF := ⟨12, (.seq (.reg overprint_kind_r0)
  (.seq (.seq (.reg overprint_kind_r1)
  (.block 0 (.seq (.reg overprint_kind_r2)
  (.cond (.tmp (4 : Nat)) (.seq (.reg overprint_kind_r3)
  .ret) (.seq (.reg overprint_kind_r4)
  (.cond (.tmp (6 : Nat)) (.seq (.reg overprint_kind_r5)
  .ret) (.seq (.reg overprint_kind_r6)
  (.cond (.tmp (8 : Nat)) (.seq (.reg overprint_kind_r7)
  .ret) (.seq (.reg overprint_kind_r8)
  (.cond (.tmp (10 : Nat)) (.seq (.reg overprint_kind_r9)
  .ret) .skip))))))))))
  (.seq (.reg overprint_kind_r10)
  .ret))), [.tmp 2]⟩
theorem overprint_kind_s : slimF Try.prog 50 = some overprint_kind_c := by kernel_rfl
abbrev overprint_kind_f : Nat := 50
/-- printworks/overprint.kind$1 -/
def overprint_kind_1_r0 : List SO := [⟨(some 4), .assign (.const (.int .i64 0)), none⟩]
def overprint_kind_1_r1 : List SO := [⟨(some 5), .move (.tmp (1 : Nat)), none⟩,
  ⟨(some 4), .assign (.tmp (5 : Nat)), none⟩]
def overprint_kind_1_c : SF := ⟨6, (.seq (.reg overprint_kind_1_r0)
  (.seq (.reg overprint_kind_1_r1)
  .ret)), [.tmp 4]⟩
theorem overprint_kind_1_s : slimF Try.prog 82 = some overprint_kind_1_c := by kernel_rfl
abbrev overprint_kind_1_f : Nat := 82
/-- printworks/overprint.kind$2 -/
def overprint_kind_2_r0 : List SO := [⟨(some 4), .assign (.const (.int .i64 0)), none⟩]
def overprint_kind_2_r1 : List SO := [⟨(some 5), .move (.tmp (1 : Nat)), none⟩,
  ⟨(some 6), .binOp .gtr 3 (.tmp (5 : Nat)) (.const (.int .i64 0)) 3, none⟩]
def overprint_kind_2_r2 : List SO := [⟨(some 7), .move (.tmp (1 : Nat)), none⟩,
  ⟨(some 4), .assign (.tmp (7 : Nat)), none⟩]
def overprint_kind_2_r3 : List SO := [⟨(some 8), .move (.tmp (0 : Nat)), none⟩,
  ⟨(some 4), .assign (.tmp (8 : Nat)), none⟩]
def overprint_kind_2_c : SF := ⟨9, (.seq (.reg overprint_kind_2_r0)
  (.seq (.seq (.reg overprint_kind_2_r1)
  (.cond (.tmp (6 : Nat)) (.seq (.reg overprint_kind_2_r2)
  .ret) .skip))
  (.seq (.reg overprint_kind_2_r3)
  .ret))), [.tmp 4]⟩
theorem overprint_kind_2_s : slimF Try.prog 83 = some overprint_kind_2_c := by kernel_rfl
abbrev overprint_kind_2_f : Nat := 83
/-- printworks/overprint.kind$3 -/
def overprint_kind_3_r0 : List SO := [⟨(some 4), .assign (.const (.int .i64 0)), none⟩]
def overprint_kind_3_r1 : List SO := [⟨(some 5), .move (.tmp (0 : Nat)), none⟩,
  ⟨(some 6), .move (.tmp (1 : Nat)), none⟩,
  ⟨(some 7), .call ⟨(.builtin .max), #[(.tmp (5 : Nat)), (.tmp (6 : Nat))], #[3, 3]⟩, none⟩,
  ⟨(some 4), .assign (.tmp (7 : Nat)), none⟩]
def overprint_kind_3_c : SF := ⟨8, (.seq (.reg overprint_kind_3_r0)
  (.seq (.reg overprint_kind_3_r1)
  .ret)), [.tmp 4]⟩
theorem overprint_kind_3_s : slimF Try.prog 84 = some overprint_kind_3_c := by kernel_rfl
abbrev overprint_kind_3_f : Nat := 84
/-- printworks/overprint.kind$4 -/
def overprint_kind_4_r0 : List SO := [⟨(some 4), .assign (.const (.int .i64 0)), none⟩]
def overprint_kind_4_r1 : List SO := [⟨(some 5), .move (.tmp (0 : Nat)), none⟩,
  ⟨(some 6), .binOp .sub 3 (.const (.int .i64 255)) (.tmp (5 : Nat)) 3, none⟩,
  ⟨(some 7), .move (.tmp (1 : Nat)), none⟩,
  ⟨(some 8), .binOp .sub 3 (.const (.int .i64 255)) (.tmp (7 : Nat)) 3, none⟩,
  ⟨(some 9), .binOp .mul 3 (.tmp (6 : Nat)) (.tmp (8 : Nat)) 3, none⟩,
  ⟨(some 10), .call ⟨(.value (.func (58 : Nat))), #[(.tmp (9 : Nat)), (.const (.int .i64 255))], #[3, 3]⟩, none⟩,
  ⟨(some 11), .binOp .sub 3 (.const (.int .i64 255)) (.tmp (10 : Nat)) 3, none⟩,
  ⟨(some 4), .assign (.tmp (11 : Nat)), none⟩]
def overprint_kind_4_c : SF := ⟨12, (.seq (.reg overprint_kind_4_r0)
  (.seq (.reg overprint_kind_4_r1)
  .ret)), [.tmp 4]⟩
theorem overprint_kind_4_s : slimF Try.prog 85 = some overprint_kind_4_c := by kernel_rfl
abbrev overprint_kind_4_f : Nat := 85

def tbl_overprint : List (Nat × SF) := [(16, overprint_Weights_c), (19, overprint_Combine_c), (37, overprint_Predict_c), (46, overprint_check_c), (47, overprint_shares_c), (50, overprint_kind_c), (82, overprint_kind_1_c), (83, overprint_kind_2_c), (84, overprint_kind_3_c), (85, overprint_kind_4_c)]
theorem tbl_overprint_ok : okT Try.prog tbl_overprint := ⟨overprint_Weights_s, overprint_Combine_s, overprint_Predict_s, overprint_check_s, overprint_shares_s, overprint_kind_s, overprint_kind_1_s, overprint_kind_2_s, overprint_kind_3_s, overprint_kind_4_s, trivial⟩

end Go.Proofs.Ytfgaefpdccdfiaa
namespace Go.Proofs.Ytfgaefpdccdfiaa
open Go Go.Lite
set_option linter.unusedVariables false

/-- printworks/printworksref2.Mod -/
def R2_Mod_r0 : List SO := [⟨(some 4), .assign (.const (.int .i64 0)), none⟩]
def R2_Mod_r1 : List SO := [⟨(some 5), .move (.tmp (0 : Nat)), none⟩,
  ⟨(some 6), .move (.tmp (1 : Nat)), none⟩,
  ⟨(some 7), .move (.tmp (0 : Nat)), none⟩,
  ⟨(some 8), .move (.tmp (1 : Nat)), none⟩,
  ⟨(some 9), .call ⟨(.value (.func (48 : Nat))), #[(.tmp (7 : Nat)), (.tmp (8 : Nat))], #[3, 3]⟩, none⟩,
  ⟨(some 10), .binOp .mul 3 (.tmp (6 : Nat)) (.tmp (9 : Nat)) 3, none⟩,
  ⟨(some 11), .binOp .sub 3 (.tmp (5 : Nat)) (.tmp (10 : Nat)) 3, none⟩,
  ⟨(some 4), .assign (.tmp (11 : Nat)), none⟩]
def R2_Mod_c : SF := ⟨12, (.seq (.reg R2_Mod_r0)
  (.seq (.reg R2_Mod_r1)
  .ret)), [.tmp 4]⟩
theorem R2_Mod_s : slimF Try.prog 17 = some R2_Mod_c := by kernel_rfl
abbrev R2_Mod_f : Nat := 17
/-- printworks/printworksref2.Power -/
def R2_Power_r0 : List SO := [⟨(some 4), .assign (.const (.int .i64 0)), none⟩]
def R2_Power_r1 : List SO := [⟨(some 5), .assign (.const (.int .i64 1)), none⟩]
def R2_Power_r2 : List SO := [⟨(some 6), .move (.tmp (1 : Nat)), none⟩,
  ⟨(some 7), .move (.const (.int .i64 0)), none⟩]
def R2_Power_r3 : List SO := [⟨(some 8), .binOp .lss 3 (.tmp (7 : Nat)) (.tmp (6 : Nat)) 3, none⟩]
def R2_Power_r4 : List SO := [⟨(some 9), .move (.tmp (5 : Nat)), none⟩,
  ⟨(some 10), .move (.tmp (0 : Nat)), none⟩,
  ⟨(some 11), .binOp .mul 3 (.tmp (9 : Nat)) (.tmp (10 : Nat)) 3, none⟩,
  ⟨(some 5), .assign (.tmp (11 : Nat)), none⟩]
def R2_Power_r5 : List SO := [⟨(some 12), .binOp .add 3 (.tmp (7 : Nat)) (.const (.int .i64 1)) 3, none⟩,
  ⟨(some 7), .move (.tmp (12 : Nat)), none⟩]
def R2_Power_r6 : List SO := [⟨(some 13), .move (.tmp (5 : Nat)), none⟩,
  ⟨(some 4), .assign (.tmp (13 : Nat)), none⟩]
def R2_Power_c : SF := ⟨14, (.seq (.reg R2_Power_r0)
  (.seq (.reg R2_Power_r1)
  (.seq (.seq (.reg R2_Power_r2)
  (.block 0 (.loop (.seq (.reg R2_Power_r3)
  (.seq (.cond (.tmp (8 : Nat)) .skip (.exit 0))
  (.seq (.block 1 (.reg R2_Power_r4))
  (.reg R2_Power_r5)))))))
  (.seq (.reg R2_Power_r6)
  .ret)))), [.tmp 4]⟩
theorem R2_Power_s : slimF Try.prog 18 = some R2_Power_c := by kernel_rfl
abbrev R2_Power_f : Nat := 18
/-- printworks/printworksref2.SameInts -/
def R2_SameInts_r0 : List SO := [⟨(some 4), .assign (.const (.bool false)), none⟩]
def R2_SameInts_r1 : List SO := [⟨(some 6), .move (.tmp (0 : Nat)), none⟩,
  ⟨(some 7), .call ⟨(.builtin .len), #[(.tmp (6 : Nat))], #[22]⟩, none⟩,
  ⟨(some 8), .move (.tmp (1 : Nat)), none⟩,
  ⟨(some 9), .call ⟨(.builtin .len), #[(.tmp (8 : Nat))], #[22]⟩, none⟩,
  ⟨(some 10), .binOp .neq 3 (.tmp (7 : Nat)) (.tmp (9 : Nat)) 3, none⟩]
def R2_SameInts_r2 : List SO := [⟨(some 4), .assign (.const (.bool false)), none⟩]
def R2_SameInts_r3 : List SO := [⟨(some 11), .move (.tmp (0 : Nat)), none⟩,
  ⟨(some 12), .call ⟨(.builtin .len), #[(.tmp (11 : Nat))], #[22]⟩, none⟩,
  ⟨(some 13), .move (.const (.int .i64 0)), none⟩]
def R2_SameInts_r4 : List SO := [⟨(some 14), .binOp .lss 3 (.tmp (13 : Nat)) (.tmp (12 : Nat)) 3, none⟩]
def R2_SameInts_r5 : List SO := [⟨(some 15), .move (.tmp (13 : Nat)), none⟩,
  ⟨(some 5), .assign (.tmp (15 : Nat)), none⟩]
def R2_SameInts_r6 : List SO := [⟨(some 16), .move (.tmp (0 : Nat)), none⟩,
  ⟨(some 17), .move (.tmp (5 : Nat)), none⟩,
  ⟨(some 18), .indexAddr 22 (.tmp (16 : Nat)) (.tmp (17 : Nat)), none⟩,
  ⟨(some 19), .load 3 (.tmp (18 : Nat)), none⟩,
  ⟨(some 20), .move (.tmp (1 : Nat)), none⟩,
  ⟨(some 21), .move (.tmp (5 : Nat)), none⟩,
  ⟨(some 22), .indexAddr 22 (.tmp (20 : Nat)) (.tmp (21 : Nat)), none⟩,
  ⟨(some 23), .load 3 (.tmp (22 : Nat)), none⟩,
  ⟨(some 24), .binOp .neq 3 (.tmp (19 : Nat)) (.tmp (23 : Nat)) 3, none⟩]
def R2_SameInts_a6 : List (List Nat) := [[], [], [0, 1], [2], [], [], [4, 5], [6], [3, 7]]
def R2_SameInts_r7 : List SO := [⟨(some 4), .assign (.const (.bool false)), none⟩]
def R2_SameInts_r8 : List SO := [⟨(some 25), .binOp .add 3 (.tmp (13 : Nat)) (.const (.int .i64 1)) 3, none⟩,
  ⟨(some 13), .move (.tmp (25 : Nat)), none⟩]
def R2_SameInts_r9 : List SO := [⟨(some 4), .assign (.const (.bool true)), none⟩]
def R2_SameInts_c : SF := ⟨26, (.seq (.reg R2_SameInts_r0)
  (.seq (.seq (.reg R2_SameInts_r1)
  (.cond (.tmp (10 : Nat)) (.seq (.reg R2_SameInts_r2)
  .ret) .skip))
  (.seq (.seq (.reg R2_SameInts_r3)
  (.block 0 (.loop (.seq (.reg R2_SameInts_r4)
  (.seq (.cond (.tmp (14 : Nat)) .skip (.exit 0))
  (.seq (.block 1 (.seq (.reg R2_SameInts_r5)
  (.seq (.regd R2_SameInts_r6 R2_SameInts_a6)
  (.cond (.tmp (24 : Nat)) (.seq (.reg R2_SameInts_r7)
  .ret) .skip))))
  (.reg R2_SameInts_r8)))))))
  (.seq (.reg R2_SameInts_r9)
  .ret)))), [.tmp 4]⟩
theorem R2_SameInts_s : slimF Try.prog 20 = some R2_SameInts_c := by kernel_rfl
abbrev R2_SameInts_f : Nat := 20
/-- printworks/printworksref2.Lab -/
def R2_Lab_r0 : List SO := [⟨(some 2), .box 33 (.tmp (0 : Nat)), none⟩,
  ⟨(some 3), .box 33 (.tmp (1 : Nat)), none⟩,
  ⟨(some 4), .alloc 35, none⟩,
  ⟨(some 5), .assign (.const (.bool false)), none⟩]
def R2_Lab_r1 : List SO := [⟨(some 11), .fieldAddr 33 (.tmp (2 : Nat)) 0, none⟩,
  ⟨(some 12), .load 3 (.tmp (11 : Nat)), none⟩,
  ⟨(some 13), .fieldAddr 33 (.tmp (3 : Nat)) 0, none⟩,
  ⟨(some 14), .load 3 (.tmp (13 : Nat)), none⟩,
  ⟨(some 15), .call ⟨(.value (.func (59 : Nat))), #[(.tmp (12 : Nat)), (.tmp (14 : Nat))], #[3, 3]⟩, none⟩,
  ⟨(some 16), .fieldAddr 33 (.tmp (2 : Nat)) 1, none⟩,
  ⟨(some 17), .load 3 (.tmp (16 : Nat)), none⟩,
  ⟨(some 18), .fieldAddr 33 (.tmp (3 : Nat)) 1, none⟩,
  ⟨(some 19), .load 3 (.tmp (18 : Nat)), none⟩,
  ⟨(some 20), .call ⟨(.value (.func (59 : Nat))), #[(.tmp (17 : Nat)), (.tmp (19 : Nat))], #[3, 3]⟩, none⟩,
  ⟨(some 21), .fieldAddr 33 (.tmp (2 : Nat)) 2, none⟩,
  ⟨(some 22), .load 3 (.tmp (21 : Nat)), none⟩,
  ⟨(some 23), .fieldAddr 33 (.tmp (3 : Nat)) 2, none⟩,
  ⟨(some 24), .load 3 (.tmp (23 : Nat)), none⟩,
  ⟨(some 25), .call ⟨(.value (.func (59 : Nat))), #[(.tmp (22 : Nat)), (.tmp (24 : Nat))], #[3, 3]⟩, none⟩,
  ⟨(some 6), .assign (.tmp (15 : Nat)), none⟩,
  ⟨(some 7), .assign (.tmp (20 : Nat)), none⟩,
  ⟨(some 8), .assign (.tmp (25 : Nat)), none⟩]
def R2_Lab_a1 : List (List Nat) := [[], [0], [], [2], [1, 3], [], [5], [], [7], [6, 8, 4], [], [10], [], [12], [11, 13, 9], [4, 14, 0, 1, 2, 3, 4], [9, 15, 0, 1, 2, 3, 4, 5, 6, 7, 8, 9, 15], [14, 16, 0, 1, 2, 3, 4, 5, 6, 7, 8, 9, 10, 11, 12, 13, 14, 15, 16]]
def R2_Lab_r2 : List SO := [⟨(some 26), .move (.tmp (7 : Nat)), none⟩,
  ⟨(some 27), .binOp .mul 3 (.const (.int .i64 116)) (.tmp (26 : Nat)) 3, none⟩,
  ⟨(some 28), .call ⟨(.value (.func (48 : Nat))), #[(.tmp (27 : Nat)), (.const (.int .i64 100))], #[3, 3]⟩, none⟩,
  ⟨(some 29), .binOp .sub 3 (.tmp (28 : Nat)) (.const (.int .i64 1600)) 3, none⟩,
  ⟨(some 30), .move (.tmp (6 : Nat)), none⟩,
  ⟨(some 31), .move (.tmp (7 : Nat)), none⟩,
  ⟨(some 32), .binOp .sub 3 (.tmp (30 : Nat)) (.tmp (31 : Nat)) 3, none⟩,
  ⟨(some 33), .binOp .mul 3 (.const (.int .i64 5)) (.tmp (32 : Nat)) 3, none⟩,
  ⟨(some 34), .move (.tmp (7 : Nat)), none⟩,
  ⟨(some 35), .move (.tmp (8 : Nat)), none⟩,
  ⟨(some 36), .binOp .sub 3 (.tmp (34 : Nat)) (.tmp (35 : Nat)) 3, none⟩,
  ⟨(some 37), .binOp .mul 3 (.const (.int .i64 2)) (.tmp (36 : Nat)) 3, none⟩,
  ⟨(some 38), .build 35 #[(0, (.tmp (29 : Nat))), (1, (.tmp (33 : Nat))), (2, (.tmp (37 : Nat)))], none⟩,
  ⟨(some 9), .alloc 35, none⟩,
  ⟨none, .store 35 (.tmp (9 : Nat)) (.tmp (38 : Nat)), none⟩]
def R2_Lab_r3 : List SO := [⟨(some 39), .fieldAddr 35 (.tmp (9 : Nat)) 0, none⟩,
  ⟨(some 40), .load 3 (.tmp (39 : Nat)), none⟩,
  ⟨(some 41), .call ⟨(.builtin .max), #[(.tmp (40 : Nat)), (.const (.int .i64 0))], #[3, 3]⟩, none⟩,
  ⟨(some 42), .call ⟨(.builtin .min), #[(.tmp (41 : Nat)), (.const (.int .i64 10000))], #[3, 3]⟩, none⟩,
  ⟨(some 43), .fieldAddr 35 (.tmp (9 : Nat)) 1, none⟩,
  ⟨(some 44), .load 3 (.tmp (43 : Nat)), none⟩,
  ⟨(some 45), .call ⟨(.builtin .max), #[(.tmp (44 : Nat)), (.const (.int .i64 (-12800)))], #[3, 3]⟩, none⟩,
  ⟨(some 46), .call ⟨(.builtin .min), #[(.tmp (45 : Nat)), (.const (.int .i64 12800))], #[3, 3]⟩, none⟩,
  ⟨(some 47), .fieldAddr 35 (.tmp (9 : Nat)) 2, none⟩,
  ⟨(some 48), .load 3 (.tmp (47 : Nat)), none⟩,
  ⟨(some 49), .call ⟨(.builtin .max), #[(.tmp (48 : Nat)), (.const (.int .i64 (-12800)))], #[3, 3]⟩, none⟩,
  ⟨(some 50), .call ⟨(.builtin .min), #[(.tmp (49 : Nat)), (.const (.int .i64 12800))], #[3, 3]⟩, none⟩,
  ⟨(some 51), .build 35 #[(0, (.tmp (42 : Nat))), (1, (.tmp (46 : Nat))), (2, (.tmp (50 : Nat)))], none⟩,
  ⟨(some 10), .alloc 35, none⟩,
  ⟨none, .store 35 (.tmp (10 : Nat)) (.tmp (51 : Nat)), none⟩]
def R2_Lab_r4 : List SO := [⟨(some 52), .load 35 (.tmp (10 : Nat)), none⟩,
  ⟨(some 53), .load 35 (.tmp (10 : Nat)), none⟩,
  ⟨(some 54), .load 35 (.tmp (9 : Nat)), none⟩,
  ⟨(some 55), .binOp .neq 35 (.tmp (53 : Nat)) (.tmp (54 : Nat)) 35, none⟩,
  ⟨none, .store 35 (.tmp (4 : Nat)) (.tmp (52 : Nat)), none⟩,
  ⟨(some 5), .assign (.tmp (55 : Nat)), none⟩]
def R2_Lab_a4 : List (List Nat) := [[], [], [], [1, 2], [0, 0], [3, 4, 0, 1, 2, 3, 4]]
def R2_Lab_c : SF := ⟨56, (.seq (.reg R2_Lab_r0)
  (.seq (.regd R2_Lab_r1 R2_Lab_a1)
  (.seq (.reg R2_Lab_r2)
  (.seq (.reg R2_Lab_r3)
  (.seq (.regd R2_Lab_r4 R2_Lab_a4)
  .ret))))), [.cell 4 35, .tmp 5]⟩
theorem R2_Lab_s : slimF Try.prog 25 = some R2_Lab_c := by kernel_rfl
abbrev R2_Lab_f : Nat := 25
/-- printworks/printworksref2.SameCurves -/
def R2_SameCurves_r0 : List SO := [⟨(some 2), .box 52 (.tmp (0 : Nat)), none⟩,
  ⟨(some 3), .box 52 (.tmp (1 : Nat)), none⟩,
  ⟨(some 4), .assign (.const (.bool false)), none⟩]
def R2_SameCurves_r1 : List SO := [⟨(some 6), .fieldAddr 52 (.tmp (2 : Nat)) 0, none⟩,
  ⟨(some 7), .load 50 (.tmp (6 : Nat)), none⟩,
  ⟨(some 8), .call ⟨(.builtin .len), #[(.tmp (7 : Nat))], #[50]⟩, none⟩,
  ⟨(some 9), .fieldAddr 52 (.tmp (3 : Nat)) 0, none⟩,
  ⟨(some 10), .load 50 (.tmp (9 : Nat)), none⟩,
  ⟨(some 11), .call ⟨(.builtin .len), #[(.tmp (10 : Nat))], #[50]⟩, none⟩,
  ⟨(some 12), .binOp .neq 3 (.tmp (8 : Nat)) (.tmp (11 : Nat)) 3, none⟩]
def R2_SameCurves_r2 : List SO := [⟨(some 4), .assign (.const (.bool false)), none⟩]
def R2_SameCurves_r3 : List SO := [⟨(some 13), .fieldAddr 52 (.tmp (2 : Nat)) 0, none⟩,
  ⟨(some 14), .load 50 (.tmp (13 : Nat)), none⟩,
  ⟨(some 15), .call ⟨(.builtin .len), #[(.tmp (14 : Nat))], #[50]⟩, none⟩,
  ⟨(some 16), .move (.const (.int .i64 0)), none⟩]
def R2_SameCurves_r4 : List SO := [⟨(some 17), .binOp .lss 3 (.tmp (16 : Nat)) (.tmp (15 : Nat)) 3, none⟩]
def R2_SameCurves_r5 : List SO := [⟨(some 18), .move (.tmp (16 : Nat)), none⟩,
  ⟨(some 5), .assign (.tmp (18 : Nat)), none⟩]
def R2_SameCurves_r6 : List SO := [⟨(some 19), .fieldAddr 52 (.tmp (2 : Nat)) 0, none⟩,
  ⟨(some 20), .load 50 (.tmp (19 : Nat)), none⟩,
  ⟨(some 21), .move (.tmp (5 : Nat)), none⟩,
  ⟨(some 22), .indexAddr 50 (.tmp (20 : Nat)) (.tmp (21 : Nat)), none⟩,
  ⟨(some 23), .load 64 (.tmp (22 : Nat)), none⟩,
  ⟨(some 24), .fieldAddr 52 (.tmp (3 : Nat)) 0, none⟩,
  ⟨(some 25), .load 50 (.tmp (24 : Nat)), none⟩,
  ⟨(some 26), .move (.tmp (5 : Nat)), none⟩,
  ⟨(some 27), .indexAddr 50 (.tmp (25 : Nat)) (.tmp (26 : Nat)), none⟩,
  ⟨(some 28), .load 64 (.tmp (27 : Nat)), none⟩,
  ⟨(some 29), .binOp .neq 64 (.tmp (23 : Nat)) (.tmp (28 : Nat)) 64, none⟩]
def R2_SameCurves_a6 : List (List Nat) := [[], [0], [], [1, 2], [3], [], [5], [], [6, 7], [8], [4, 9]]
def R2_SameCurves_r7 : List SO := [⟨(some 4), .assign (.const (.bool false)), none⟩]
def R2_SameCurves_r8 : List SO := [⟨(some 30), .binOp .add 3 (.tmp (16 : Nat)) (.const (.int .i64 1)) 3, none⟩,
  ⟨(some 16), .move (.tmp (30 : Nat)), none⟩]
def R2_SameCurves_r9 : List SO := [⟨(some 4), .assign (.const (.bool true)), none⟩]
def R2_SameCurves_c : SF := ⟨31, (.seq (.reg R2_SameCurves_r0)
  (.seq (.seq (.reg R2_SameCurves_r1)
  (.cond (.tmp (12 : Nat)) (.seq (.reg R2_SameCurves_r2)
  .ret) .skip))
  (.seq (.seq (.reg R2_SameCurves_r3)
  (.block 0 (.loop (.seq (.reg R2_SameCurves_r4)
  (.seq (.cond (.tmp (17 : Nat)) .skip (.exit 0))
  (.seq (.block 1 (.seq (.reg R2_SameCurves_r5)
  (.seq (.regd R2_SameCurves_r6 R2_SameCurves_a6)
  (.cond (.tmp (29 : Nat)) (.seq (.reg R2_SameCurves_r7)
  .ret) .skip))))
  (.reg R2_SameCurves_r8)))))))
  (.seq (.reg R2_SameCurves_r9)
  .ret)))), [.tmp 4]⟩
theorem R2_SameCurves_s : slimF Try.prog 34 = some R2_SameCurves_c := by kernel_rfl
abbrev R2_SameCurves_f : Nat := 34
/-- printworks/printworksref2.SameSpots -/
def R2_SameSpots_r0 : List SO := [⟨(some 2), .box 77 (.tmp (0 : Nat)), none⟩,
  ⟨(some 3), .box 77 (.tmp (1 : Nat)), none⟩,
  ⟨(some 4), .assign (.const (.bool false)), none⟩]
def R2_SameSpots_r1 : List SO := [⟨(some 5), .fieldAddr 77 (.tmp (2 : Nat)) 0, none⟩,
  ⟨(some 6), .load 9 (.tmp (5 : Nat)), none⟩,
  ⟨(some 7), .fieldAddr 77 (.tmp (3 : Nat)) 0, none⟩,
  ⟨(some 8), .load 9 (.tmp (7 : Nat)), none⟩,
  ⟨(some 9), .binOp .eql 9 (.tmp (6 : Nat)) (.tmp (8 : Nat)) 9, none⟩,
  ⟨(some 10), .move (.tmp (9 : Nat)), none⟩,
  ⟨(some 11), .fieldAddr 77 (.tmp (2 : Nat)) 1, (some (10, true))⟩,
  ⟨(some 12), .load 35 (.tmp (11 : Nat)), (some (10, true))⟩,
  ⟨(some 13), .fieldAddr 77 (.tmp (3 : Nat)) 1, (some (10, true))⟩,
  ⟨(some 14), .load 35 (.tmp (13 : Nat)), (some (10, true))⟩,
  ⟨(some 15), .binOp .eql 35 (.tmp (12 : Nat)) (.tmp (14 : Nat)) 35, (some (10, true))⟩,
  ⟨(some 16), .pick (.tmp (10 : Nat)) (.tmp (15 : Nat)) (.const (.bool false)), none⟩,
  ⟨(some 17), .move (.tmp (16 : Nat)), none⟩,
  ⟨(some 18), .fieldAddr 77 (.tmp (2 : Nat)) 2, (some (17, true))⟩,
  ⟨(some 19), .load 35 (.tmp (18 : Nat)), (some (17, true))⟩,
  ⟨(some 20), .fieldAddr 77 (.tmp (3 : Nat)) 2, (some (17, true))⟩,
  ⟨(some 21), .load 35 (.tmp (20 : Nat)), (some (17, true))⟩,
  ⟨(some 22), .binOp .eql 35 (.tmp (19 : Nat)) (.tmp (21 : Nat)) 35, (some (17, true))⟩,
  ⟨(some 23), .pick (.tmp (17 : Nat)) (.tmp (22 : Nat)) (.const (.bool false)), none⟩,
  ⟨(some 24), .move (.tmp (23 : Nat)), none⟩,
  ⟨(some 25), .fieldAddr 77 (.tmp (2 : Nat)) 3, (some (24, true))⟩,
  ⟨(some 26), .load 52 (.tmp (25 : Nat)), (some (24, true))⟩,
  ⟨(some 27), .fieldAddr 77 (.tmp (3 : Nat)) 3, (some (24, true))⟩,
  ⟨(some 28), .load 52 (.tmp (27 : Nat)), (some (24, true))⟩,
  ⟨(some 29), .call ⟨(.value (.func (34 : Nat))), #[(.tmp (26 : Nat)), (.tmp (28 : Nat))], #[52, 52]⟩, (some (24, true))⟩,
  ⟨(some 30), .pick (.tmp (24 : Nat)) (.tmp (29 : Nat)) (.const (.bool false)), none⟩,
  ⟨(some 31), .move (.tmp (30 : Nat)), none⟩,
  ⟨(some 32), .fieldAddr 77 (.tmp (2 : Nat)) 4, (some (31, true))⟩,
  ⟨(some 33), .load 22 (.tmp (32 : Nat)), (some (31, true))⟩,
  ⟨(some 34), .fieldAddr 77 (.tmp (3 : Nat)) 4, (some (31, true))⟩,
  ⟨(some 35), .load 22 (.tmp (34 : Nat)), (some (31, true))⟩,
  ⟨(some 36), .call ⟨(.value (.func (20 : Nat))), #[(.tmp (33 : Nat)), (.tmp (35 : Nat))], #[22, 22]⟩, (some (31, true))⟩,
  ⟨(some 37), .pick (.tmp (31 : Nat)) (.tmp (36 : Nat)) (.const (.bool false)), none⟩,
  ⟨(some 4), .assign (.tmp (37 : Nat)), none⟩]
def R2_SameSpots_c : SF := ⟨38, (.seq (.reg R2_SameSpots_r0)
  (.seq (.reg R2_SameSpots_r1)
  .ret)), [.tmp 4]⟩
theorem R2_SameSpots_s : slimF Try.prog 44 = some R2_SameSpots_c := by kernel_rfl
abbrev R2_SameSpots_f : Nat := 44
/-- printworks/printworksref2.Floor -/
def R2_Floor_r0 : List SO := [⟨(some 4), .assign (.const (.int .i64 0)), none⟩]
def R2_Floor_r1 : List SO := [⟨(some 6), .move (.tmp (0 : Nat)), none⟩,
  ⟨(some 7), .move (.tmp (1 : Nat)), none⟩,
  ⟨(some 8), .binOp .quo 3 (.tmp (6 : Nat)) (.tmp (7 : Nat)) 3, none⟩,
  ⟨(some 5), .assign (.tmp (8 : Nat)), none⟩]
def R2_Floor_r2 : List SO := [⟨(some 9), .move (.tmp (5 : Nat)), none⟩,
  ⟨(some 10), .move (.tmp (1 : Nat)), none⟩,
  ⟨(some 11), .binOp .mul 3 (.tmp (9 : Nat)) (.tmp (10 : Nat)) 3, none⟩,
  ⟨(some 12), .move (.tmp (0 : Nat)), none⟩,
  ⟨(some 13), .binOp .gtr 3 (.tmp (11 : Nat)) (.tmp (12 : Nat)) 3, none⟩]
def R2_Floor_r3 : List SO := [⟨(some 14), .move (.tmp (5 : Nat)), none⟩,
  ⟨(some 15), .binOp .sub 3 (.tmp (14 : Nat)) (.const (.int .i64 1)) 3, none⟩,
  ⟨(some 5), .assign (.tmp (15 : Nat)), none⟩]
def R2_Floor_r4 : List SO := [⟨(some 16), .move (.tmp (5 : Nat)), none⟩,
  ⟨(some 4), .assign (.tmp (16 : Nat)), none⟩]
def R2_Floor_c : SF := ⟨17, (.seq (.reg R2_Floor_r0)
  (.seq (.reg R2_Floor_r1)
  (.seq (.seq (.reg R2_Floor_r2)
  (.cond (.tmp (13 : Nat)) (.reg R2_Floor_r3) .skip))
  (.seq (.reg R2_Floor_r4)
  .ret)))), [.tmp 4]⟩
theorem R2_Floor_s : slimF Try.prog 48 = some R2_Floor_c := by kernel_rfl
abbrev R2_Floor_f : Nat := 48
/-- printworks/printworksref2.Response -/
def R2_Response_r0 : List SO := [⟨(some 4), .assign (.const (.int .i64 0)), none⟩]
def R2_Response_r1 : List SO := [⟨(some 5), .assign (.const (.int .i64 0)), none⟩]
def R2_Response_r2 : List SO := [⟨(some 6), .move (.tmp (5 : Nat)), none⟩,
  ⟨(some 7), .binOp .add 3 (.tmp (6 : Nat)) (.const (.int .i64 1)) 3, none⟩,
  ⟨(some 8), .move (.tmp (5 : Nat)), none⟩,
  ⟨(some 9), .binOp .add 3 (.tmp (8 : Nat)) (.const (.int .i64 1)) 3, none⟩,
  ⟨(some 10), .binOp .mul 3 (.tmp (7 : Nat)) (.tmp (9 : Nat)) 3, none⟩,
  ⟨(some 11), .move (.tmp (5 : Nat)), none⟩,
  ⟨(some 12), .binOp .add 3 (.tmp (11 : Nat)) (.const (.int .i64 1)) 3, none⟩,
  ⟨(some 13), .binOp .mul 3 (.tmp (10 : Nat)) (.tmp (12 : Nat)) 3, none⟩,
  ⟨(some 14), .move (.tmp (1 : Nat)), none⟩,
  ⟨(some 15), .binOp .mul 3 (.tmp (13 : Nat)) (.tmp (14 : Nat)) 3, none⟩,
  ⟨(some 16), .move (.tmp (0 : Nat)), none⟩,
  ⟨(some 17), .binOp .mul 3 (.tmp (16 : Nat)) (.const (.int .i64 1000000000000)) 3, none⟩,
  ⟨(some 18), .binOp .leq 3 (.tmp (15 : Nat)) (.tmp (17 : Nat)) 3, none⟩]
def R2_Response_r3 : List SO := [⟨(some 19), .move (.tmp (5 : Nat)), none⟩,
  ⟨(some 20), .binOp .add 3 (.tmp (19 : Nat)) (.const (.int .i64 1)) 3, none⟩,
  ⟨(some 5), .assign (.tmp (20 : Nat)), none⟩]
def R2_Response_r4 : List SO := [⟨(some 21), .move (.tmp (5 : Nat)), none⟩,
  ⟨(some 22), .binOp .geq 3 (.tmp (21 : Nat)) (.const (.int .i64 2069)) 3, none⟩]
def R2_Response_r5 : List SO := [⟨(some 23), .move (.tmp (5 : Nat)), none⟩,
  ⟨(some 4), .assign (.tmp (23 : Nat)), none⟩]
def R2_Response_r6 : List SO := [⟨(some 24), .move (.tmp (0 : Nat)), none⟩,
  ⟨(some 25), .binOp .mul 3 (.tmp (24 : Nat)) (.const (.int .i64 8410000)) 3, none⟩,
  ⟨(some 26), .move (.tmp (1 : Nat)), none⟩,
  ⟨(some 27), .binOp .mul 3 (.const (.int .i64 108)) (.tmp (26 : Nat)) 3, none⟩,
  ⟨(some 28), .call ⟨(.value (.func (48 : Nat))), #[(.tmp (25 : Nat)), (.tmp (27 : Nat))], #[3, 3]⟩, none⟩,
  ⟨(some 29), .binOp .add 3 (.tmp (28 : Nat)) (.const (.int .i64 1379)) 3, none⟩,
  ⟨(some 4), .assign (.tmp (29 : Nat)), none⟩]
def R2_Response_c : SF := ⟨30, (.seq (.reg R2_Response_r0)
  (.seq (.reg R2_Response_r1)
  (.seq (.block 0 (.loop (.seq (.seq (.reg R2_Response_r2)
  (.cond (.tmp (18 : Nat)) .skip (.exit 0)))
  (.block 1 (.reg R2_Response_r3)))))
  (.seq (.seq (.reg R2_Response_r4)
  (.cond (.tmp (22 : Nat)) (.seq (.reg R2_Response_r5)
  .ret) .skip))
  (.seq (.reg R2_Response_r6)
  .ret))))), [.tmp 4]⟩
theorem R2_Response_s : slimF Try.prog 59 = some R2_Response_c := by kernel_rfl
abbrev R2_Response_f : Nat := 59

def tbl_R2 : List (Nat × SF) := [(17, R2_Mod_c), (18, R2_Power_c), (20, R2_SameInts_c), (25, R2_Lab_c), (34, R2_SameCurves_c), (44, R2_SameSpots_c), (48, R2_Floor_c), (59, R2_Response_c)]
theorem tbl_R2_ok : okT Try.prog tbl_R2 := ⟨R2_Mod_s, R2_Power_s, R2_SameInts_s, R2_Lab_s, R2_SameCurves_s, R2_SameSpots_s, R2_Floor_s, R2_Response_s, trivial⟩

end Go.Proofs.Ytfgaefpdccdfiaa
namespace Go.Proofs.Ytfgaefpdccdfiaa
open Go Go.Lite
set_option linter.unusedVariables false

/-- printworks/refspace.ToLab -/
def refspace_ToLab_r0 : List SO := [⟨(some 2), .box 33 (.tmp (0 : Nat)), none⟩,
  ⟨(some 3), .box 33 (.tmp (1 : Nat)), none⟩,
  ⟨(some 4), .alloc 35, none⟩,
  ⟨(some 5), .assign (.const (.int .i64 0)), none⟩]
def refspace_ToLab_r1 : List SO := [⟨(some 11), .load 33 (.tmp (2 : Nat)), none⟩,
  ⟨(some 12), .call ⟨(.value (.func (53 : Nat))), #[(.tmp (11 : Nat))], #[33]⟩, none⟩,
  ⟨(some 6), .assign (.tmp (12 : Nat)), none⟩]
def refspace_ToLab_r2 : List SO := [⟨(some 13), .move (.tmp (6 : Nat)), none⟩,
  ⟨(some 14), .binOp .neq 24 (.tmp (13 : Nat)) (.const (.int .i64 0)) 24, none⟩]
def refspace_ToLab_r3 : List SO := [⟨(some 15), .build 35 #[], none⟩,
  ⟨(some 16), .move (.tmp (6 : Nat)), none⟩,
  ⟨none, .store 35 (.tmp (4 : Nat)) (.tmp (15 : Nat)), none⟩,
  ⟨(some 5), .assign (.tmp (16 : Nat)), none⟩]
def refspace_ToLab_r4 : List SO := [⟨(some 17), .load 33 (.tmp (3 : Nat)), none⟩,
  ⟨(some 18), .call ⟨(.value (.func (54 : Nat))), #[(.tmp (17 : Nat))], #[33]⟩, none⟩,
  ⟨(some 7), .assign (.tmp (18 : Nat)), none⟩]
def refspace_ToLab_r5 : List SO := [⟨(some 19), .move (.tmp (7 : Nat)), none⟩,
  ⟨(some 20), .binOp .neq 24 (.tmp (19 : Nat)) (.const (.int .i64 0)) 24, none⟩]
def refspace_ToLab_r6 : List SO := [⟨(some 21), .build 35 #[], none⟩,
  ⟨(some 22), .move (.tmp (7 : Nat)), none⟩,
  ⟨none, .store 35 (.tmp (4 : Nat)) (.tmp (21 : Nat)), none⟩,
  ⟨(some 5), .assign (.tmp (22 : Nat)), none⟩]
def refspace_ToLab_r7 : List SO := [⟨(some 23), .fieldAddr 33 (.tmp (2 : Nat)) 0, none⟩,
  ⟨(some 24), .load 3 (.tmp (23 : Nat)), none⟩,
  ⟨(some 25), .fieldAddr 33 (.tmp (3 : Nat)) 0, none⟩,
  ⟨(some 26), .load 3 (.tmp (25 : Nat)), none⟩,
  ⟨(some 27), .call ⟨(.value (.func (55 : Nat))), #[(.tmp (24 : Nat)), (.tmp (26 : Nat))], #[3, 3]⟩, none⟩,
  ⟨(some 28), .fieldAddr 33 (.tmp (2 : Nat)) 1, none⟩,
  ⟨(some 29), .load 3 (.tmp (28 : Nat)), none⟩,
  ⟨(some 30), .fieldAddr 33 (.tmp (3 : Nat)) 1, none⟩,
  ⟨(some 31), .load 3 (.tmp (30 : Nat)), none⟩,
  ⟨(some 32), .call ⟨(.value (.func (55 : Nat))), #[(.tmp (29 : Nat)), (.tmp (31 : Nat))], #[3, 3]⟩, none⟩,
  ⟨(some 33), .fieldAddr 33 (.tmp (2 : Nat)) 2, none⟩,
  ⟨(some 34), .load 3 (.tmp (33 : Nat)), none⟩,
  ⟨(some 35), .fieldAddr 33 (.tmp (3 : Nat)) 2, none⟩,
  ⟨(some 36), .load 3 (.tmp (35 : Nat)), none⟩,
  ⟨(some 37), .call ⟨(.value (.func (55 : Nat))), #[(.tmp (34 : Nat)), (.tmp (36 : Nat))], #[3, 3]⟩, none⟩,
  ⟨(some 8), .assign (.tmp (27 : Nat)), none⟩,
  ⟨(some 9), .assign (.tmp (32 : Nat)), none⟩,
  ⟨(some 10), .assign (.tmp (37 : Nat)), none⟩]
def refspace_ToLab_a7 : List (List Nat) := [[], [0], [], [2], [1, 3], [], [5], [], [7], [6, 8, 4], [], [10], [], [12], [11, 13, 9], [4, 14, 0, 1, 2, 3, 4], [9, 15, 0, 1, 2, 3, 4, 5, 6, 7, 8, 9, 15], [14, 16, 0, 1, 2, 3, 4, 5, 6, 7, 8, 9, 10, 11, 12, 13, 14, 15, 16]]
def refspace_ToLab_r8 : List SO := [⟨(some 38), .move (.tmp (9 : Nat)), none⟩,
  ⟨(some 39), .binOp .mul 3 (.const (.int .i64 116)) (.tmp (38 : Nat)) 3, none⟩,
  ⟨(some 40), .binOp .quo 3 (.tmp (39 : Nat)) (.const (.int .i64 100)) 3, none⟩,
  ⟨(some 41), .binOp .sub 3 (.tmp (40 : Nat)) (.const (.int .i64 1600)) 3, none⟩,
  ⟨(some 42), .call ⟨(.value (.func (56 : Nat))), #[(.tmp (41 : Nat)), (.const (.int .i64 0)), (.const (.int .i64 10000))], #[3, 3, 3]⟩, none⟩,
  ⟨(some 43), .move (.tmp (8 : Nat)), none⟩,
  ⟨(some 44), .move (.tmp (9 : Nat)), none⟩,
  ⟨(some 45), .binOp .sub 3 (.tmp (43 : Nat)) (.tmp (44 : Nat)) 3, none⟩,
  ⟨(some 46), .binOp .mul 3 (.const (.int .i64 5)) (.tmp (45 : Nat)) 3, none⟩,
  ⟨(some 47), .call ⟨(.value (.func (56 : Nat))), #[(.tmp (46 : Nat)), (.const (.int .i64 (-12800))), (.const (.int .i64 12800))], #[3, 3, 3]⟩, none⟩,
  ⟨(some 48), .move (.tmp (9 : Nat)), none⟩,
  ⟨(some 49), .move (.tmp (10 : Nat)), none⟩,
  ⟨(some 50), .binOp .sub 3 (.tmp (48 : Nat)) (.tmp (49 : Nat)) 3, none⟩,
  ⟨(some 51), .binOp .mul 3 (.const (.int .i64 2)) (.tmp (50 : Nat)) 3, none⟩,
  ⟨(some 52), .call ⟨(.value (.func (56 : Nat))), #[(.tmp (51 : Nat)), (.const (.int .i64 (-12800))), (.const (.int .i64 12800))], #[3, 3, 3]⟩, none⟩,
  ⟨(some 53), .build 35 #[(0, (.tmp (42 : Nat))), (1, (.tmp (47 : Nat))), (2, (.tmp (52 : Nat)))], none⟩,
  ⟨none, .store 35 (.tmp (4 : Nat)) (.tmp (53 : Nat)), none⟩,
  ⟨(some 5), .assign (.const (.int .i64 0)), none⟩]
def refspace_ToLab_c : SF := ⟨54, (.seq (.reg refspace_ToLab_r0)
  (.seq (.seq (.reg refspace_ToLab_r1)
  (.seq (.reg refspace_ToLab_r2)
  (.cond (.tmp (14 : Nat)) (.seq (.reg refspace_ToLab_r3)
  .ret) .skip)))
  (.seq (.seq (.reg refspace_ToLab_r4)
  (.seq (.reg refspace_ToLab_r5)
  (.cond (.tmp (20 : Nat)) (.seq (.reg refspace_ToLab_r6)
  .ret) .skip)))
  (.seq (.regd refspace_ToLab_r7 refspace_ToLab_a7)
  (.seq (.reg refspace_ToLab_r8)
  .ret))))), [.cell 4 35, .tmp 5]⟩
theorem refspace_ToLab_s : slimF Try.prog 22 = some refspace_ToLab_c := by kernel_rfl
abbrev refspace_ToLab_f : Nat := 22
/-- printworks/refspace.ToXYZ -/
def refspace_ToXYZ_r0 : List SO := [⟨(some 2), .box 35 (.tmp (0 : Nat)), none⟩,
  ⟨(some 3), .box 33 (.tmp (1 : Nat)), none⟩,
  ⟨(some 4), .alloc 33, none⟩,
  ⟨(some 5), .assign (.const (.int .i64 0)), none⟩]
def refspace_ToXYZ_r1 : List SO := [⟨(some 9), .load 35 (.tmp (2 : Nat)), none⟩,
  ⟨(some 10), .call ⟨(.value (.func (24 : Nat))), #[(.tmp (9 : Nat))], #[35]⟩, none⟩,
  ⟨(some 6), .assign (.tmp (10 : Nat)), none⟩]
def refspace_ToXYZ_r2 : List SO := [⟨(some 11), .move (.tmp (6 : Nat)), none⟩,
  ⟨(some 12), .binOp .neq 24 (.tmp (11 : Nat)) (.const (.int .i64 0)) 24, none⟩]
def refspace_ToXYZ_r3 : List SO := [⟨(some 13), .build 33 #[], none⟩,
  ⟨(some 14), .move (.tmp (6 : Nat)), none⟩,
  ⟨none, .store 33 (.tmp (4 : Nat)) (.tmp (13 : Nat)), none⟩,
  ⟨(some 5), .assign (.tmp (14 : Nat)), none⟩]
def refspace_ToXYZ_r4 : List SO := [⟨(some 15), .load 33 (.tmp (3 : Nat)), none⟩,
  ⟨(some 16), .call ⟨(.value (.func (54 : Nat))), #[(.tmp (15 : Nat))], #[33]⟩, none⟩,
  ⟨(some 7), .assign (.tmp (16 : Nat)), none⟩]
def refspace_ToXYZ_r5 : List SO := [⟨(some 17), .move (.tmp (7 : Nat)), none⟩,
  ⟨(some 18), .binOp .neq 24 (.tmp (17 : Nat)) (.const (.int .i64 0)) 24, none⟩]
def refspace_ToXYZ_r6 : List SO := [⟨(some 19), .build 33 #[], none⟩,
  ⟨(some 20), .move (.tmp (7 : Nat)), none⟩,
  ⟨none, .store 33 (.tmp (4 : Nat)) (.tmp (19 : Nat)), none⟩,
  ⟨(some 5), .assign (.tmp (20 : Nat)), none⟩]
def refspace_ToXYZ_r7 : List SO := [⟨(some 21), .fieldAddr 35 (.tmp (2 : Nat)) 0, none⟩,
  ⟨(some 22), .load 3 (.tmp (21 : Nat)), none⟩,
  ⟨(some 23), .binOp .add 3 (.tmp (22 : Nat)) (.const (.int .i64 1600)) 3, none⟩,
  ⟨(some 24), .binOp .mul 3 (.const (.int .i64 100)) (.tmp (23 : Nat)) 3, none⟩,
  ⟨(some 25), .binOp .add 3 (.tmp (24 : Nat)) (.const (.int .i64 115)) 3, none⟩,
  ⟨(some 26), .binOp .quo 3 (.tmp (25 : Nat)) (.const (.int .i64 116)) 3, none⟩,
  ⟨(some 8), .assign (.tmp (26 : Nat)), none⟩]
def refspace_ToXYZ_r8 : List SO := [⟨(some 27), .move (.tmp (8 : Nat)), none⟩,
  ⟨(some 28), .fieldAddr 35 (.tmp (2 : Nat)) 1, none⟩,
  ⟨(some 29), .load 3 (.tmp (28 : Nat)), none⟩,
  ⟨(some 30), .call ⟨(.value (.func (58 : Nat))), #[(.tmp (29 : Nat)), (.const (.int .i64 5))], #[3, 3]⟩, none⟩,
  ⟨(some 31), .binOp .add 3 (.tmp (27 : Nat)) (.tmp (30 : Nat)) 3, none⟩,
  ⟨(some 32), .fieldAddr 33 (.tmp (3 : Nat)) 0, none⟩,
  ⟨(some 33), .load 3 (.tmp (32 : Nat)), none⟩,
  ⟨(some 34), .call ⟨(.value (.func (57 : Nat))), #[(.tmp (31 : Nat)), (.tmp (33 : Nat))], #[3, 3]⟩, none⟩,
  ⟨(some 35), .move (.tmp (8 : Nat)), none⟩,
  ⟨(some 36), .fieldAddr 33 (.tmp (3 : Nat)) 1, none⟩,
  ⟨(some 37), .load 3 (.tmp (36 : Nat)), none⟩,
  ⟨(some 38), .call ⟨(.value (.func (57 : Nat))), #[(.tmp (35 : Nat)), (.tmp (37 : Nat))], #[3, 3]⟩, none⟩,
  ⟨(some 39), .move (.tmp (8 : Nat)), none⟩,
  ⟨(some 40), .fieldAddr 35 (.tmp (2 : Nat)) 2, none⟩,
  ⟨(some 41), .load 3 (.tmp (40 : Nat)), none⟩,
  ⟨(some 42), .call ⟨(.value (.func (58 : Nat))), #[(.tmp (41 : Nat)), (.const (.int .i64 2))], #[3, 3]⟩, none⟩,
  ⟨(some 43), .binOp .sub 3 (.tmp (39 : Nat)) (.tmp (42 : Nat)) 3, none⟩,
  ⟨(some 44), .fieldAddr 33 (.tmp (3 : Nat)) 2, none⟩,
  ⟨(some 45), .load 3 (.tmp (44 : Nat)), none⟩,
  ⟨(some 46), .call ⟨(.value (.func (57 : Nat))), #[(.tmp (43 : Nat)), (.tmp (45 : Nat))], #[3, 3]⟩, none⟩,
  ⟨(some 47), .build 33 #[(0, (.tmp (34 : Nat))), (1, (.tmp (38 : Nat))), (2, (.tmp (46 : Nat)))], none⟩,
  ⟨none, .store 33 (.tmp (4 : Nat)) (.tmp (47 : Nat)), none⟩,
  ⟨(some 5), .assign (.const (.int .i64 0)), none⟩]
def refspace_ToXYZ_a8 : List (List Nat) := [[], [], [1], [2], [0, 3], [], [5], [4, 6, 3], [], [], [9], [8, 10, 7], [], [], [13], [14, 11], [12, 15], [], [17], [16, 18, 15], [7, 11, 19], [20, 19, 0, 1, 2, 3, 4, 5, 6, 7, 8, 9, 10, 11, 12, 13, 14, 15, 16, 17, 18, 19, 20], [21, 0, 1, 2, 3, 4, 5, 6, 7, 8, 9, 10, 11, 12, 13, 14, 15, 16, 17, 18, 19, 20, 21]]
def refspace_ToXYZ_c : SF := ⟨48, (.seq (.reg refspace_ToXYZ_r0)
  (.seq (.seq (.reg refspace_ToXYZ_r1)
  (.seq (.reg refspace_ToXYZ_r2)
  (.cond (.tmp (12 : Nat)) (.seq (.reg refspace_ToXYZ_r3)
  .ret) .skip)))
  (.seq (.seq (.reg refspace_ToXYZ_r4)
  (.seq (.reg refspace_ToXYZ_r5)
  (.cond (.tmp (18 : Nat)) (.seq (.reg refspace_ToXYZ_r6)
  .ret) .skip)))
  (.seq (.reg refspace_ToXYZ_r7)
  (.seq (.regd refspace_ToXYZ_r8 refspace_ToXYZ_a8)
  .ret))))), [.cell 4 33, .tmp 5]⟩
theorem refspace_ToXYZ_s : slimF Try.prog 23 = some refspace_ToXYZ_c := by kernel_rfl
abbrev refspace_ToXYZ_f : Nat := 23
/-- printworks/refspace.Check -/
def refspace_Check_r0 : List SO := [⟨(some 1), .box 35 (.tmp (0 : Nat)), none⟩,
  ⟨(some 2), .assign (.const (.int .i64 0)), none⟩]
def refspace_Check_r1 : List SO := [⟨(some 3), .fieldAddr 35 (.tmp (1 : Nat)) 0, none⟩,
  ⟨(some 4), .load 3 (.tmp (3 : Nat)), none⟩,
  ⟨(some 5), .binOp .lss 3 (.tmp (4 : Nat)) (.const (.int .i64 0)) 3, none⟩,
  ⟨(some 6), .move (.tmp (5 : Nat)), none⟩,
  ⟨(some 7), .fieldAddr 35 (.tmp (1 : Nat)) 0, (some (6, false))⟩,
  ⟨(some 8), .load 3 (.tmp (7 : Nat)), (some (6, false))⟩,
  ⟨(some 9), .binOp .gtr 3 (.tmp (8 : Nat)) (.const (.int .i64 10000)) 3, (some (6, false))⟩,
  ⟨(some 10), .pick (.tmp (6 : Nat)) (.const (.bool true)) (.tmp (9 : Nat)), none⟩,
  ⟨(some 11), .move (.tmp (10 : Nat)), none⟩,
  ⟨(some 12), .fieldAddr 35 (.tmp (1 : Nat)) 1, (some (11, false))⟩,
  ⟨(some 13), .load 3 (.tmp (12 : Nat)), (some (11, false))⟩,
  ⟨(some 14), .binOp .lss 3 (.tmp (13 : Nat)) (.const (.int .i64 (-12800))) 3, (some (11, false))⟩,
  ⟨(some 15), .pick (.tmp (11 : Nat)) (.const (.bool true)) (.tmp (14 : Nat)), none⟩,
  ⟨(some 16), .move (.tmp (15 : Nat)), none⟩,
  ⟨(some 17), .fieldAddr 35 (.tmp (1 : Nat)) 1, (some (16, false))⟩,
  ⟨(some 18), .load 3 (.tmp (17 : Nat)), (some (16, false))⟩,
  ⟨(some 19), .binOp .gtr 3 (.tmp (18 : Nat)) (.const (.int .i64 12800)) 3, (some (16, false))⟩,
  ⟨(some 20), .pick (.tmp (16 : Nat)) (.const (.bool true)) (.tmp (19 : Nat)), none⟩,
  ⟨(some 21), .move (.tmp (20 : Nat)), none⟩,
  ⟨(some 22), .fieldAddr 35 (.tmp (1 : Nat)) 2, (some (21, false))⟩,
  ⟨(some 23), .load 3 (.tmp (22 : Nat)), (some (21, false))⟩,
  ⟨(some 24), .binOp .lss 3 (.tmp (23 : Nat)) (.const (.int .i64 (-12800))) 3, (some (21, false))⟩,
  ⟨(some 25), .pick (.tmp (21 : Nat)) (.const (.bool true)) (.tmp (24 : Nat)), none⟩,
  ⟨(some 26), .move (.tmp (25 : Nat)), none⟩,
  ⟨(some 27), .fieldAddr 35 (.tmp (1 : Nat)) 2, (some (26, false))⟩,
  ⟨(some 28), .load 3 (.tmp (27 : Nat)), (some (26, false))⟩,
  ⟨(some 29), .binOp .gtr 3 (.tmp (28 : Nat)) (.const (.int .i64 12800)) 3, (some (26, false))⟩,
  ⟨(some 30), .pick (.tmp (26 : Nat)) (.const (.bool true)) (.tmp (29 : Nat)), none⟩]
def refspace_Check_r2 : List SO := [⟨(some 2), .assign (.const (.int .i64 3)), none⟩]
def refspace_Check_r3 : List SO := [⟨(some 2), .assign (.const (.int .i64 0)), none⟩]
def refspace_Check_c : SF := ⟨31, (.seq (.reg refspace_Check_r0)
  (.seq (.seq (.reg refspace_Check_r1)
  (.cond (.tmp (30 : Nat)) (.seq (.reg refspace_Check_r2)
  .ret) .skip))
  (.seq (.reg refspace_Check_r3)
  .ret))), [.tmp 2]⟩
theorem refspace_Check_s : slimF Try.prog 24 = some refspace_Check_c := by kernel_rfl
abbrev refspace_Check_f : Nat := 24
/-- printworks/refspace.Distance -/
def refspace_Distance_r0 : List SO := [⟨(some 2), .box 35 (.tmp (0 : Nat)), none⟩,
  ⟨(some 3), .box 35 (.tmp (1 : Nat)), none⟩,
  ⟨(some 4), .assign (.const (.int .i64 0)), none⟩,
  ⟨(some 5), .assign (.const (.int .i64 0)), none⟩]
def refspace_Distance_r1 : List SO := [⟨(some 12), .load 35 (.tmp (2 : Nat)), none⟩,
  ⟨(some 13), .load 35 (.tmp (3 : Nat)), none⟩,
  ⟨(some 14), .call ⟨(.value (.func (60 : Nat))), #[(.tmp (12 : Nat)), (.tmp (13 : Nat))], #[35, 35]⟩, none⟩,
  ⟨(some 11), .move (.tmp (14 : Nat)), none⟩,
  ⟨(some 15), .extract (.tmp (11 : Nat)) 0, none⟩,
  ⟨(some 16), .extract (.tmp (11 : Nat)) 1, none⟩,
  ⟨(some 6), .assign (.tmp (15 : Nat)), none⟩,
  ⟨(some 7), .assign (.tmp (16 : Nat)), none⟩]
def refspace_Distance_r2 : List SO := [⟨(some 17), .move (.tmp (7 : Nat)), none⟩,
  ⟨(some 18), .binOp .neq 24 (.tmp (17 : Nat)) (.const (.int .i64 0)) 24, none⟩]
def refspace_Distance_r3 : List SO := [⟨(some 19), .move (.tmp (7 : Nat)), none⟩,
  ⟨(some 4), .assign (.const (.int .i64 0)), none⟩,
  ⟨(some 5), .assign (.tmp (19 : Nat)), none⟩]
def refspace_Distance_r4 : List SO := [⟨(some 8), .assign (.const (.int .i64 0)), none⟩]
def refspace_Distance_r5 : List SO := [⟨(some 9), .assign (.const (.int .i64 65536)), none⟩]
def refspace_Distance_r6 : List SO := [⟨(some 20), .move (.tmp (9 : Nat)), none⟩,
  ⟨(some 21), .binOp .gtr 3 (.tmp (20 : Nat)) (.const (.int .i64 0)) 3, none⟩]
def refspace_Distance_r7 : List SO := [⟨(some 24), .move (.tmp (8 : Nat)), none⟩,
  ⟨(some 25), .move (.tmp (9 : Nat)), none⟩,
  ⟨(some 26), .binOp .or 3 (.tmp (24 : Nat)) (.tmp (25 : Nat)) 3, none⟩,
  ⟨(some 10), .assign (.tmp (26 : Nat)), none⟩]
def refspace_Distance_r8 : List SO := [⟨(some 27), .move (.tmp (10 : Nat)), none⟩,
  ⟨(some 28), .move (.tmp (10 : Nat)), none⟩,
  ⟨(some 29), .binOp .mul 3 (.tmp (27 : Nat)) (.tmp (28 : Nat)) 3, none⟩,
  ⟨(some 30), .move (.tmp (6 : Nat)), none⟩,
  ⟨(some 31), .binOp .leq 3 (.tmp (29 : Nat)) (.tmp (30 : Nat)) 3, none⟩]
def refspace_Distance_r9 : List SO := [⟨(some 32), .move (.tmp (10 : Nat)), none⟩,
  ⟨(some 8), .assign (.tmp (32 : Nat)), none⟩]
def refspace_Distance_r10 : List SO := [⟨(some 22), .move (.tmp (9 : Nat)), none⟩,
  ⟨(some 23), .binOp .shr 3 (.tmp (22 : Nat)) (.const (.int .u64 1)) 94, none⟩,
  ⟨(some 9), .assign (.tmp (23 : Nat)), none⟩]
def refspace_Distance_r11 : List SO := [⟨(some 33), .move (.tmp (8 : Nat)), none⟩,
  ⟨(some 4), .assign (.tmp (33 : Nat)), none⟩,
  ⟨(some 5), .assign (.const (.int .i64 0)), none⟩]
def refspace_Distance_c : SF := ⟨34, (.seq (.reg refspace_Distance_r0)
  (.seq (.reg refspace_Distance_r1)
  (.seq (.seq (.reg refspace_Distance_r2)
  (.cond (.tmp (18 : Nat)) (.seq (.reg refspace_Distance_r3)
  .ret) .skip))
  (.seq (.reg refspace_Distance_r4)
  (.seq (.seq (.reg refspace_Distance_r5)
  (.block 0 (.loop (.seq (.seq (.reg refspace_Distance_r6)
  (.cond (.tmp (21 : Nat)) .skip (.exit 0)))
  (.seq (.block 1 (.seq (.reg refspace_Distance_r7)
  (.seq (.reg refspace_Distance_r8)
  (.cond (.tmp (31 : Nat)) (.reg refspace_Distance_r9) .skip))))
  (.reg refspace_Distance_r10))))))
  (.seq (.reg refspace_Distance_r11)
  .ret)))))), [.tmp 4, .tmp 5]⟩
theorem refspace_Distance_s : slimF Try.prog 26 = some refspace_Distance_c := by kernel_rfl
abbrev refspace_Distance_f : Nat := 26
/-- printworks/refspace.Between -/
def refspace_Between_r0 : List SO := [⟨(some 4), .box 35 (.tmp (0 : Nat)), none⟩,
  ⟨(some 5), .box 35 (.tmp (1 : Nat)), none⟩,
  ⟨(some 6), .box 3 (.tmp (2 : Nat)), none⟩,
  ⟨(some 7), .box 3 (.tmp (3 : Nat)), none⟩,
  ⟨(some 8), .alloc 35, none⟩,
  ⟨(some 9), .assign (.const (.int .i64 0)), none⟩]
def refspace_Between_r1 : List SO := [⟨(some 13), .load 35 (.tmp (4 : Nat)), none⟩,
  ⟨(some 14), .call ⟨(.value (.func (24 : Nat))), #[(.tmp (13 : Nat))], #[35]⟩, none⟩,
  ⟨(some 10), .assign (.tmp (14 : Nat)), none⟩]
def refspace_Between_r2 : List SO := [⟨(some 15), .move (.tmp (10 : Nat)), none⟩,
  ⟨(some 16), .binOp .neq 24 (.tmp (15 : Nat)) (.const (.int .i64 0)) 24, none⟩]
def refspace_Between_r3 : List SO := [⟨(some 17), .build 35 #[], none⟩,
  ⟨(some 18), .move (.tmp (10 : Nat)), none⟩,
  ⟨none, .store 35 (.tmp (8 : Nat)) (.tmp (17 : Nat)), none⟩,
  ⟨(some 9), .assign (.tmp (18 : Nat)), none⟩]
def refspace_Between_r4 : List SO := [⟨(some 19), .load 35 (.tmp (5 : Nat)), none⟩,
  ⟨(some 20), .call ⟨(.value (.func (24 : Nat))), #[(.tmp (19 : Nat))], #[35]⟩, none⟩,
  ⟨(some 11), .assign (.tmp (20 : Nat)), none⟩]
def refspace_Between_r5 : List SO := [⟨(some 21), .move (.tmp (11 : Nat)), none⟩,
  ⟨(some 22), .binOp .neq 24 (.tmp (21 : Nat)) (.const (.int .i64 0)) 24, none⟩]
def refspace_Between_r6 : List SO := [⟨(some 23), .build 35 #[], none⟩,
  ⟨(some 24), .move (.tmp (11 : Nat)), none⟩,
  ⟨none, .store 35 (.tmp (8 : Nat)) (.tmp (23 : Nat)), none⟩,
  ⟨(some 9), .assign (.tmp (24 : Nat)), none⟩]
def refspace_Between_r7 : List SO := [⟨(some 25), .load 3 (.tmp (7 : Nat)), none⟩,
  ⟨(some 26), .binOp .lss 3 (.tmp (25 : Nat)) (.const (.int .i64 1)) 3, none⟩,
  ⟨(some 27), .move (.tmp (26 : Nat)), none⟩,
  ⟨(some 28), .load 3 (.tmp (7 : Nat)), (some (27, false))⟩,
  ⟨(some 29), .binOp .gtr 3 (.tmp (28 : Nat)) (.const (.int .i64 65280)) 3, (some (27, false))⟩,
  ⟨(some 30), .pick (.tmp (27 : Nat)) (.const (.bool true)) (.tmp (29 : Nat)), none⟩,
  ⟨(some 31), .move (.tmp (30 : Nat)), none⟩,
  ⟨(some 32), .load 3 (.tmp (6 : Nat)), (some (31, false))⟩,
  ⟨(some 33), .binOp .lss 3 (.tmp (32 : Nat)) (.const (.int .i64 0)) 3, (some (31, false))⟩,
  ⟨(some 34), .pick (.tmp (31 : Nat)) (.const (.bool true)) (.tmp (33 : Nat)), none⟩,
  ⟨(some 35), .move (.tmp (34 : Nat)), none⟩,
  ⟨(some 36), .load 3 (.tmp (6 : Nat)), (some (35, false))⟩,
  ⟨(some 37), .load 3 (.tmp (7 : Nat)), (some (35, false))⟩,
  ⟨(some 38), .binOp .gtr 3 (.tmp (36 : Nat)) (.tmp (37 : Nat)) 3, (some (35, false))⟩,
  ⟨(some 39), .pick (.tmp (35 : Nat)) (.const (.bool true)) (.tmp (38 : Nat)), none⟩]
def refspace_Between_r8 : List SO := [⟨(some 40), .build 35 #[], none⟩,
  ⟨none, .store 35 (.tmp (8 : Nat)) (.tmp (40 : Nat)), none⟩,
  ⟨(some 9), .assign (.const (.int .i64 3)), none⟩]
def refspace_Between_r9 : List SO := [⟨(some 41), .makeFunc (.func (80 : Nat)) #[] #[(.tmp (7 : Nat)), (.tmp (6 : Nat))], none⟩,
  ⟨(some 12), .assign (.tmp (41 : Nat)), none⟩]
def refspace_Between_r10 : List SO := [⟨(some 42), .move (.tmp (12 : Nat)), none⟩,
  ⟨(some 43), .fieldAddr 35 (.tmp (4 : Nat)) 0, none⟩,
  ⟨(some 44), .load 3 (.tmp (43 : Nat)), none⟩,
  ⟨(some 45), .fieldAddr 35 (.tmp (5 : Nat)) 0, none⟩,
  ⟨(some 46), .load 3 (.tmp (45 : Nat)), none⟩,
  ⟨(some 47), .call ⟨(.value (.tmp (42 : Nat))), #[(.tmp (44 : Nat)), (.tmp (46 : Nat))], #[3, 3]⟩, none⟩,
  ⟨(some 48), .move (.tmp (12 : Nat)), none⟩,
  ⟨(some 49), .fieldAddr 35 (.tmp (4 : Nat)) 1, none⟩,
  ⟨(some 50), .load 3 (.tmp (49 : Nat)), none⟩,
  ⟨(some 51), .fieldAddr 35 (.tmp (5 : Nat)) 1, none⟩,
  ⟨(some 52), .load 3 (.tmp (51 : Nat)), none⟩,
  ⟨(some 53), .call ⟨(.value (.tmp (48 : Nat))), #[(.tmp (50 : Nat)), (.tmp (52 : Nat))], #[3, 3]⟩, none⟩,
  ⟨(some 54), .move (.tmp (12 : Nat)), none⟩,
  ⟨(some 55), .fieldAddr 35 (.tmp (4 : Nat)) 2, none⟩,
  ⟨(some 56), .load 3 (.tmp (55 : Nat)), none⟩,
  ⟨(some 57), .fieldAddr 35 (.tmp (5 : Nat)) 2, none⟩,
  ⟨(some 58), .load 3 (.tmp (57 : Nat)), none⟩,
  ⟨(some 59), .call ⟨(.value (.tmp (54 : Nat))), #[(.tmp (56 : Nat)), (.tmp (58 : Nat))], #[3, 3]⟩, none⟩,
  ⟨(some 60), .build 35 #[(0, (.tmp (47 : Nat))), (1, (.tmp (53 : Nat))), (2, (.tmp (59 : Nat)))], none⟩,
  ⟨none, .store 35 (.tmp (8 : Nat)) (.tmp (60 : Nat)), none⟩,
  ⟨(some 9), .assign (.const (.int .i64 0)), none⟩]
def refspace_Between_a10 : List (List Nat) := [[], [], [1], [], [3], [0, 2, 4], [], [], [7], [], [9], [6, 8, 10, 5], [], [], [13], [], [15], [12, 14, 16, 11], [5, 11, 17], [18, 17, 0, 1, 2, 3, 4, 5, 6, 7, 8, 9, 10, 11, 12, 13, 14, 15, 16, 17, 18], [19, 0, 1, 2, 3, 4, 5, 6, 7, 8, 9, 10, 11, 12, 13, 14, 15, 16, 17, 18, 19]]
def refspace_Between_c : SF := ⟨61, (.seq (.reg refspace_Between_r0)
  (.seq (.seq (.reg refspace_Between_r1)
  (.seq (.reg refspace_Between_r2)
  (.cond (.tmp (16 : Nat)) (.seq (.reg refspace_Between_r3)
  .ret) .skip)))
  (.seq (.seq (.reg refspace_Between_r4)
  (.seq (.reg refspace_Between_r5)
  (.cond (.tmp (22 : Nat)) (.seq (.reg refspace_Between_r6)
  .ret) .skip)))
  (.seq (.seq (.reg refspace_Between_r7)
  (.cond (.tmp (39 : Nat)) (.seq (.reg refspace_Between_r8)
  .ret) .skip))
  (.seq (.reg refspace_Between_r9)
  (.seq (.regd refspace_Between_r10 refspace_Between_a10)
  .ret)))))), [.cell 8 35, .tmp 9]⟩
theorem refspace_Between_s : slimF Try.prog 42 = some refspace_Between_c := by kernel_rfl
abbrev refspace_Between_f : Nat := 42
/-- printworks/refspace.Response -/
def refspace_Response_r0 : List SO := [⟨(some 4), .assign (.const (.int .i64 0)), none⟩,
  ⟨(some 5), .assign (.const (.int .i64 0)), none⟩]
def refspace_Response_r1 : List SO := [⟨(some 6), .move (.tmp (0 : Nat)), none⟩,
  ⟨(some 7), .binOp .lss 3 (.tmp (6 : Nat)) (.const (.int .i64 0)) 3, none⟩,
  ⟨(some 8), .move (.tmp (7 : Nat)), none⟩,
  ⟨(some 9), .move (.tmp (0 : Nat)), (some (8, false))⟩,
  ⟨(some 10), .binOp .gtr 3 (.tmp (9 : Nat)) (.const (.int .i64 300000)) 3, (some (8, false))⟩,
  ⟨(some 11), .pick (.tmp (8 : Nat)) (.const (.bool true)) (.tmp (10 : Nat)), none⟩,
  ⟨(some 12), .move (.tmp (11 : Nat)), none⟩,
  ⟨(some 13), .move (.tmp (1 : Nat)), (some (12, false))⟩,
  ⟨(some 14), .binOp .lss 3 (.tmp (13 : Nat)) (.const (.int .i64 80000)) 3, (some (12, false))⟩,
  ⟨(some 15), .pick (.tmp (12 : Nat)) (.const (.bool true)) (.tmp (14 : Nat)), none⟩,
  ⟨(some 16), .move (.tmp (15 : Nat)), none⟩,
  ⟨(some 17), .move (.tmp (1 : Nat)), (some (16, false))⟩,
  ⟨(some 18), .binOp .gtr 3 (.tmp (17 : Nat)) (.const (.int .i64 120000)) 3, (some (16, false))⟩,
  ⟨(some 19), .pick (.tmp (16 : Nat)) (.const (.bool true)) (.tmp (18 : Nat)), none⟩]
def refspace_Response_r2 : List SO := [⟨(some 4), .assign (.const (.int .i64 0)), none⟩,
  ⟨(some 5), .assign (.const (.int .i64 3)), none⟩]
def refspace_Response_r3 : List SO := [⟨(some 20), .move (.tmp (0 : Nat)), none⟩,
  ⟨(some 21), .move (.tmp (1 : Nat)), none⟩,
  ⟨(some 22), .call ⟨(.value (.func (55 : Nat))), #[(.tmp (20 : Nat)), (.tmp (21 : Nat))], #[3, 3]⟩, none⟩,
  ⟨(some 4), .assign (.tmp (22 : Nat)), none⟩,
  ⟨(some 5), .assign (.const (.int .i64 0)), none⟩]
def refspace_Response_c : SF := ⟨23, (.seq (.reg refspace_Response_r0)
  (.seq (.seq (.reg refspace_Response_r1)
  (.cond (.tmp (19 : Nat)) (.seq (.reg refspace_Response_r2)
  .ret) .skip))
  (.seq (.reg refspace_Response_r3)
  .ret))), [.tmp 4, .tmp 5]⟩
theorem refspace_Response_s : slimF Try.prog 52 = some refspace_Response_c := by kernel_rfl
abbrev refspace_Response_f : Nat := 52
/-- printworks/refspace.CheckXYZ -/
def refspace_CheckXYZ_r0 : List SO := [⟨(some 1), .box 33 (.tmp (0 : Nat)), none⟩,
  ⟨(some 2), .assign (.const (.int .i64 0)), none⟩]
def refspace_CheckXYZ_r1 : List SO := [⟨(some 5), .fieldAddr 33 (.tmp (1 : Nat)) 0, none⟩,
  ⟨(some 6), .load 3 (.tmp (5 : Nat)), none⟩,
  ⟨(some 7), .fieldAddr 33 (.tmp (1 : Nat)) 1, none⟩,
  ⟨(some 8), .load 3 (.tmp (7 : Nat)), none⟩,
  ⟨(some 9), .fieldAddr 33 (.tmp (1 : Nat)) 2, none⟩,
  ⟨(some 10), .load 3 (.tmp (9 : Nat)), none⟩,
  ⟨(some 11), .build 113 #[(0, (.tmp (6 : Nat))), (1, (.tmp (8 : Nat))), (2, (.tmp (10 : Nat)))], none⟩,
  ⟨(some 12), .move (.const (.int .i64 0)), none⟩]
def refspace_CheckXYZ_r2 : List SO := [⟨(some 13), .binOp .lss 3 (.tmp (12 : Nat)) (.const (.int .i64 3)) 3, none⟩]
def refspace_CheckXYZ_r3 : List SO := [⟨(some 14), .index 113 (.tmp (11 : Nat)) (.tmp (12 : Nat)), none⟩,
  ⟨(some 4), .assign (.tmp (14 : Nat)), none⟩]
def refspace_CheckXYZ_r4 : List SO := [⟨(some 15), .move (.tmp (4 : Nat)), none⟩,
  ⟨(some 16), .binOp .lss 3 (.tmp (15 : Nat)) (.const (.int .i64 0)) 3, none⟩,
  ⟨(some 17), .move (.tmp (16 : Nat)), none⟩,
  ⟨(some 18), .move (.tmp (4 : Nat)), (some (17, false))⟩,
  ⟨(some 19), .binOp .gtr 3 (.tmp (18 : Nat)) (.const (.int .i64 300000)) 3, (some (17, false))⟩,
  ⟨(some 20), .pick (.tmp (17 : Nat)) (.const (.bool true)) (.tmp (19 : Nat)), none⟩]
def refspace_CheckXYZ_r5 : List SO := [⟨(some 2), .assign (.const (.int .i64 3)), none⟩]
def refspace_CheckXYZ_r6 : List SO := [⟨(some 21), .binOp .add 3 (.tmp (12 : Nat)) (.const (.int .i64 1)) 3, none⟩,
  ⟨(some 12), .move (.tmp (21 : Nat)), none⟩]
def refspace_CheckXYZ_r7 : List SO := [⟨(some 2), .assign (.const (.int .i64 0)), none⟩]
def refspace_CheckXYZ_c : SF := ⟨22, (.seq (.reg refspace_CheckXYZ_r0)
  (.seq (.seq (.reg refspace_CheckXYZ_r1)
  (.block 0 (.loop (.seq (.reg refspace_CheckXYZ_r2)
  (.seq (.cond (.tmp (13 : Nat)) .skip (.exit 0))
  (.seq (.block 1 (.seq (.reg refspace_CheckXYZ_r3)
  (.seq (.reg refspace_CheckXYZ_r4)
  (.cond (.tmp (20 : Nat)) (.seq (.reg refspace_CheckXYZ_r5)
  .ret) .skip))))
  (.reg refspace_CheckXYZ_r6)))))))
  (.seq (.reg refspace_CheckXYZ_r7)
  .ret))), [.tmp 2]⟩
theorem refspace_CheckXYZ_s : slimF Try.prog 53 = some refspace_CheckXYZ_c := by kernel_rfl
abbrev refspace_CheckXYZ_f : Nat := 53
/-- printworks/refspace.CheckWhite -/
def refspace_CheckWhite_r0 : List SO := [⟨(some 1), .box 33 (.tmp (0 : Nat)), none⟩,
  ⟨(some 2), .assign (.const (.int .i64 0)), none⟩]
def refspace_CheckWhite_r1 : List SO := [⟨(some 5), .fieldAddr 33 (.tmp (1 : Nat)) 0, none⟩,
  ⟨(some 6), .load 3 (.tmp (5 : Nat)), none⟩,
  ⟨(some 7), .fieldAddr 33 (.tmp (1 : Nat)) 1, none⟩,
  ⟨(some 8), .load 3 (.tmp (7 : Nat)), none⟩,
  ⟨(some 9), .fieldAddr 33 (.tmp (1 : Nat)) 2, none⟩,
  ⟨(some 10), .load 3 (.tmp (9 : Nat)), none⟩,
  ⟨(some 11), .build 113 #[(0, (.tmp (6 : Nat))), (1, (.tmp (8 : Nat))), (2, (.tmp (10 : Nat)))], none⟩,
  ⟨(some 12), .move (.const (.int .i64 0)), none⟩]
def refspace_CheckWhite_r2 : List SO := [⟨(some 13), .binOp .lss 3 (.tmp (12 : Nat)) (.const (.int .i64 3)) 3, none⟩]
def refspace_CheckWhite_r3 : List SO := [⟨(some 14), .index 113 (.tmp (11 : Nat)) (.tmp (12 : Nat)), none⟩,
  ⟨(some 4), .assign (.tmp (14 : Nat)), none⟩]
def refspace_CheckWhite_r4 : List SO := [⟨(some 15), .move (.tmp (4 : Nat)), none⟩,
  ⟨(some 16), .binOp .lss 3 (.tmp (15 : Nat)) (.const (.int .i64 80000)) 3, none⟩,
  ⟨(some 17), .move (.tmp (16 : Nat)), none⟩,
  ⟨(some 18), .move (.tmp (4 : Nat)), (some (17, false))⟩,
  ⟨(some 19), .binOp .gtr 3 (.tmp (18 : Nat)) (.const (.int .i64 120000)) 3, (some (17, false))⟩,
  ⟨(some 20), .pick (.tmp (17 : Nat)) (.const (.bool true)) (.tmp (19 : Nat)), none⟩]
def refspace_CheckWhite_r5 : List SO := [⟨(some 2), .assign (.const (.int .i64 3)), none⟩]
def refspace_CheckWhite_r6 : List SO := [⟨(some 21), .binOp .add 3 (.tmp (12 : Nat)) (.const (.int .i64 1)) 3, none⟩,
  ⟨(some 12), .move (.tmp (21 : Nat)), none⟩]
def refspace_CheckWhite_r7 : List SO := [⟨(some 2), .assign (.const (.int .i64 0)), none⟩]
def refspace_CheckWhite_c : SF := ⟨22, (.seq (.reg refspace_CheckWhite_r0)
  (.seq (.seq (.reg refspace_CheckWhite_r1)
  (.block 0 (.loop (.seq (.reg refspace_CheckWhite_r2)
  (.seq (.cond (.tmp (13 : Nat)) .skip (.exit 0))
  (.seq (.block 1 (.seq (.reg refspace_CheckWhite_r3)
  (.seq (.reg refspace_CheckWhite_r4)
  (.cond (.tmp (20 : Nat)) (.seq (.reg refspace_CheckWhite_r5)
  .ret) .skip))))
  (.reg refspace_CheckWhite_r6)))))))
  (.seq (.reg refspace_CheckWhite_r7)
  .ret))), [.tmp 2]⟩
theorem refspace_CheckWhite_s : slimF Try.prog 54 = some refspace_CheckWhite_c := by kernel_rfl
abbrev refspace_CheckWhite_f : Nat := 54
/-- printworks/refspace.response -/
def refspace_response_r0 : List SO := [⟨(some 4), .assign (.const (.int .i64 0)), none⟩]
def refspace_response_r1 : List SO := [⟨(some 5), .assign (.const (.int .i64 0)), none⟩]
def refspace_response_r2 : List SO := [⟨(some 6), .assign (.const (.int .i64 16384)), none⟩]
def refspace_response_r3 : List SO := [⟨(some 8), .move (.tmp (6 : Nat)), none⟩,
  ⟨(some 9), .binOp .gtr 3 (.tmp (8 : Nat)) (.const (.int .i64 0)) 3, none⟩]
def refspace_response_r4 : List SO := [⟨(some 12), .move (.tmp (5 : Nat)), none⟩,
  ⟨(some 13), .move (.tmp (6 : Nat)), none⟩,
  ⟨(some 14), .binOp .or 3 (.tmp (12 : Nat)) (.tmp (13 : Nat)) 3, none⟩,
  ⟨(some 7), .assign (.tmp (14 : Nat)), none⟩]
def refspace_response_r5 : List SO := [⟨(some 15), .move (.tmp (7 : Nat)), none⟩,
  ⟨(some 16), .move (.tmp (7 : Nat)), none⟩,
  ⟨(some 17), .binOp .mul 3 (.tmp (15 : Nat)) (.tmp (16 : Nat)) 3, none⟩,
  ⟨(some 18), .move (.tmp (7 : Nat)), none⟩,
  ⟨(some 19), .binOp .mul 3 (.tmp (17 : Nat)) (.tmp (18 : Nat)) 3, none⟩,
  ⟨(some 20), .move (.tmp (1 : Nat)), none⟩,
  ⟨(some 21), .binOp .mul 3 (.tmp (19 : Nat)) (.tmp (20 : Nat)) 3, none⟩,
  ⟨(some 22), .move (.tmp (0 : Nat)), none⟩,
  ⟨(some 23), .binOp .mul 3 (.tmp (22 : Nat)) (.const (.int .i64 1000000000000)) 3, none⟩,
  ⟨(some 24), .binOp .leq 3 (.tmp (21 : Nat)) (.tmp (23 : Nat)) 3, none⟩]
def refspace_response_r6 : List SO := [⟨(some 25), .move (.tmp (7 : Nat)), none⟩,
  ⟨(some 5), .assign (.tmp (25 : Nat)), none⟩]
def refspace_response_r7 : List SO := [⟨(some 10), .move (.tmp (6 : Nat)), none⟩,
  ⟨(some 11), .binOp .shr 3 (.tmp (10 : Nat)) (.const (.int .u64 1)) 94, none⟩,
  ⟨(some 6), .assign (.tmp (11 : Nat)), none⟩]
def refspace_response_r8 : List SO := [⟨(some 26), .move (.tmp (5 : Nat)), none⟩,
  ⟨(some 27), .binOp .lss 3 (.tmp (26 : Nat)) (.const (.int .i64 2069)) 3, none⟩]
def refspace_response_r9 : List SO := [⟨(some 28), .move (.tmp (0 : Nat)), none⟩,
  ⟨(some 29), .binOp .mul 3 (.tmp (28 : Nat)) (.const (.int .i64 8410000)) 3, none⟩,
  ⟨(some 30), .move (.tmp (1 : Nat)), none⟩,
  ⟨(some 31), .binOp .mul 3 (.const (.int .i64 108)) (.tmp (30 : Nat)) 3, none⟩,
  ⟨(some 32), .binOp .quo 3 (.tmp (29 : Nat)) (.tmp (31 : Nat)) 3, none⟩,
  ⟨(some 33), .binOp .add 3 (.tmp (32 : Nat)) (.const (.int .i64 1379)) 3, none⟩,
  ⟨(some 5), .assign (.tmp (33 : Nat)), none⟩]
def refspace_response_r10 : List SO := [⟨(some 34), .move (.tmp (5 : Nat)), none⟩,
  ⟨(some 4), .assign (.tmp (34 : Nat)), none⟩]
def refspace_response_c : SF := ⟨35, (.seq (.reg refspace_response_r0)
  (.seq (.reg refspace_response_r1)
  (.seq (.seq (.reg refspace_response_r2)
  (.block 0 (.loop (.seq (.seq (.reg refspace_response_r3)
  (.cond (.tmp (9 : Nat)) .skip (.exit 0)))
  (.seq (.block 1 (.seq (.reg refspace_response_r4)
  (.seq (.reg refspace_response_r5)
  (.cond (.tmp (24 : Nat)) (.reg refspace_response_r6) .skip))))
  (.reg refspace_response_r7))))))
  (.seq (.seq (.reg refspace_response_r8)
  (.cond (.tmp (27 : Nat)) (.reg refspace_response_r9) .skip))
  (.seq (.reg refspace_response_r10)
  .ret))))), [.tmp 4]⟩
theorem refspace_response_s : slimF Try.prog 55 = some refspace_response_c := by kernel_rfl
abbrev refspace_response_f : Nat := 55
/-- printworks/refspace.cut -/
def refspace_cut_r0 : List SO := [⟨(some 6), .assign (.const (.int .i64 0)), none⟩]
def refspace_cut_r1 : List SO := [⟨(some 7), .move (.tmp (1 : Nat)), none⟩,
  ⟨(some 8), .move (.tmp (2 : Nat)), none⟩,
  ⟨(some 9), .move (.tmp (0 : Nat)), none⟩,
  ⟨(some 10), .call ⟨(.builtin .min), #[(.tmp (8 : Nat)), (.tmp (9 : Nat))], #[3, 3]⟩, none⟩,
  ⟨(some 11), .call ⟨(.builtin .max), #[(.tmp (7 : Nat)), (.tmp (10 : Nat))], #[3, 3]⟩, none⟩,
  ⟨(some 6), .assign (.tmp (11 : Nat)), none⟩]
def refspace_cut_c : SF := ⟨12, (.seq (.reg refspace_cut_r0)
  (.seq (.reg refspace_cut_r1)
  .ret)), [.tmp 6]⟩
theorem refspace_cut_s : slimF Try.prog 56 = some refspace_cut_c := by kernel_rfl
abbrev refspace_cut_f : Nat := 56
/-- printworks/refspace.value -/
def refspace_value_r0 : List SO := [⟨(some 4), .assign (.const (.int .i64 0)), none⟩]
def refspace_value_r1 : List SO := [⟨(some 5), .assign (.const (.int .i64 (-1))), none⟩,
  ⟨(some 6), .assign (.const (.int .i64 300000)), none⟩]
def refspace_value_r2 : List SO := [⟨(some 8), .move (.tmp (6 : Nat)), none⟩,
  ⟨(some 9), .move (.tmp (5 : Nat)), none⟩,
  ⟨(some 10), .binOp .sub 3 (.tmp (8 : Nat)) (.tmp (9 : Nat)) 3, none⟩,
  ⟨(some 11), .binOp .gtr 3 (.tmp (10 : Nat)) (.const (.int .i64 1)) 3, none⟩]
def refspace_value_r3 : List SO := [⟨(some 12), .move (.tmp (5 : Nat)), none⟩,
  ⟨(some 13), .move (.tmp (6 : Nat)), none⟩,
  ⟨(some 14), .binOp .add 3 (.tmp (12 : Nat)) (.tmp (13 : Nat)) 3, none⟩,
  ⟨(some 15), .binOp .quo 3 (.tmp (14 : Nat)) (.const (.int .i64 2)) 3, none⟩,
  ⟨(some 7), .assign (.tmp (15 : Nat)), none⟩]
def refspace_value_r4 : List SO := [⟨(some 16), .move (.tmp (7 : Nat)), none⟩,
  ⟨(some 17), .move (.tmp (1 : Nat)), none⟩,
  ⟨(some 18), .call ⟨(.value (.func (55 : Nat))), #[(.tmp (16 : Nat)), (.tmp (17 : Nat))], #[3, 3]⟩, none⟩,
  ⟨(some 19), .move (.tmp (0 : Nat)), none⟩,
  ⟨(some 20), .binOp .geq 3 (.tmp (18 : Nat)) (.tmp (19 : Nat)) 3, none⟩]
def refspace_value_r5 : List SO := [⟨(some 21), .move (.tmp (7 : Nat)), none⟩,
  ⟨(some 6), .assign (.tmp (21 : Nat)), none⟩]
def refspace_value_r6 : List SO := [⟨(some 22), .move (.tmp (7 : Nat)), none⟩,
  ⟨(some 5), .assign (.tmp (22 : Nat)), none⟩]
def refspace_value_r7 : List SO := [⟨(some 23), .move (.tmp (6 : Nat)), none⟩,
  ⟨(some 4), .assign (.tmp (23 : Nat)), none⟩]
def refspace_value_c : SF := ⟨24, (.seq (.reg refspace_value_r0)
  (.seq (.reg refspace_value_r1)
  (.seq (.block 0 (.loop (.seq (.seq (.reg refspace_value_r2)
  (.cond (.tmp (11 : Nat)) .skip (.exit 0)))
  (.block 1 (.seq (.reg refspace_value_r3)
  (.seq (.reg refspace_value_r4)
  (.cond (.tmp (20 : Nat)) (.reg refspace_value_r5) (.reg refspace_value_r6))))))))
  (.seq (.reg refspace_value_r7)
  .ret)))), [.tmp 4]⟩
theorem refspace_value_s : slimF Try.prog 57 = some refspace_value_c := by kernel_rfl
abbrev refspace_value_f : Nat := 57
/-- printworks/refspace.Square -/
def refspace_Square_r0 : List SO := [⟨(some 2), .box 35 (.tmp (0 : Nat)), none⟩,
  ⟨(some 3), .box 35 (.tmp (1 : Nat)), none⟩,
  ⟨(some 4), .assign (.const (.int .i64 0)), none⟩,
  ⟨(some 5), .assign (.const (.int .i64 0)), none⟩]
def refspace_Square_r1 : List SO := [⟨(some 8), .load 35 (.tmp (2 : Nat)), none⟩,
  ⟨(some 9), .call ⟨(.value (.func (24 : Nat))), #[(.tmp (8 : Nat))], #[35]⟩, none⟩,
  ⟨(some 6), .assign (.tmp (9 : Nat)), none⟩]
def refspace_Square_r2 : List SO := [⟨(some 10), .move (.tmp (6 : Nat)), none⟩,
  ⟨(some 11), .binOp .neq 24 (.tmp (10 : Nat)) (.const (.int .i64 0)) 24, none⟩]
def refspace_Square_r3 : List SO := [⟨(some 12), .move (.tmp (6 : Nat)), none⟩,
  ⟨(some 4), .assign (.const (.int .i64 0)), none⟩,
  ⟨(some 5), .assign (.tmp (12 : Nat)), none⟩]
def refspace_Square_r4 : List SO := [⟨(some 13), .load 35 (.tmp (3 : Nat)), none⟩,
  ⟨(some 14), .call ⟨(.value (.func (24 : Nat))), #[(.tmp (13 : Nat))], #[35]⟩, none⟩,
  ⟨(some 7), .assign (.tmp (14 : Nat)), none⟩]
def refspace_Square_r5 : List SO := [⟨(some 15), .move (.tmp (7 : Nat)), none⟩,
  ⟨(some 16), .binOp .neq 24 (.tmp (15 : Nat)) (.const (.int .i64 0)) 24, none⟩]
def refspace_Square_r6 : List SO := [⟨(some 17), .move (.tmp (7 : Nat)), none⟩,
  ⟨(some 4), .assign (.const (.int .i64 0)), none⟩,
  ⟨(some 5), .assign (.tmp (17 : Nat)), none⟩]
def refspace_Square_r7 : List SO := [⟨(some 18), .load 35 (.tmp (2 : Nat)), none⟩,
  ⟨(some 19), .load 35 (.tmp (3 : Nat)), none⟩,
  ⟨(some 20), .call ⟨(.value (.func (86 : Nat))), #[(.tmp (18 : Nat)), (.tmp (19 : Nat))], #[35, 35]⟩, none⟩,
  ⟨(some 4), .assign (.tmp (20 : Nat)), none⟩,
  ⟨(some 5), .assign (.const (.int .i64 0)), none⟩]
def refspace_Square_c : SF := ⟨21, (.seq (.reg refspace_Square_r0)
  (.seq (.seq (.reg refspace_Square_r1)
  (.seq (.reg refspace_Square_r2)
  (.cond (.tmp (11 : Nat)) (.seq (.reg refspace_Square_r3)
  .ret) .skip)))
  (.seq (.seq (.reg refspace_Square_r4)
  (.seq (.reg refspace_Square_r5)
  (.cond (.tmp (16 : Nat)) (.seq (.reg refspace_Square_r6)
  .ret) .skip)))
  (.seq (.reg refspace_Square_r7)
  .ret)))), [.tmp 4, .tmp 5]⟩
theorem refspace_Square_s : slimF Try.prog 60 = some refspace_Square_c := by kernel_rfl
abbrev refspace_Square_f : Nat := 60
/-- printworks/refspace.Between$1 -/
def refspace_Between_1_r0 : List SO := [⟨(some 6), .assign (.const (.int .i64 0)), none⟩]
def refspace_Between_1_r1 : List SO := [⟨(some 7), .load 3 (.tmp (2 : Nat)), none⟩,
  ⟨(some 8), .load 3 (.tmp (3 : Nat)), none⟩,
  ⟨(some 9), .binOp .sub 3 (.tmp (7 : Nat)) (.tmp (8 : Nat)) 3, none⟩,
  ⟨(some 10), .move (.tmp (0 : Nat)), none⟩,
  ⟨(some 11), .binOp .mul 3 (.tmp (9 : Nat)) (.tmp (10 : Nat)) 3, none⟩,
  ⟨(some 12), .load 3 (.tmp (3 : Nat)), none⟩,
  ⟨(some 13), .move (.tmp (1 : Nat)), none⟩,
  ⟨(some 14), .binOp .mul 3 (.tmp (12 : Nat)) (.tmp (13 : Nat)) 3, none⟩,
  ⟨(some 15), .binOp .add 3 (.tmp (11 : Nat)) (.tmp (14 : Nat)) 3, none⟩,
  ⟨(some 16), .load 3 (.tmp (2 : Nat)), none⟩,
  ⟨(some 17), .call ⟨(.value (.func (58 : Nat))), #[(.tmp (15 : Nat)), (.tmp (16 : Nat))], #[3, 3]⟩, none⟩,
  ⟨(some 6), .assign (.tmp (17 : Nat)), none⟩]
def refspace_Between_1_c : SF := ⟨18, (.seq (.reg refspace_Between_1_r0)
  (.seq (.reg refspace_Between_1_r1)
  .ret)), [.tmp 6]⟩
theorem refspace_Between_1_s : slimF Try.prog 80 = some refspace_Between_1_c := by kernel_rfl
abbrev refspace_Between_1_f : Nat := 80
/-- printworks/refspace.Far -/
def refspace_Far_r0 : List SO := [⟨(some 2), .box 35 (.tmp (0 : Nat)), none⟩,
  ⟨(some 3), .box 35 (.tmp (1 : Nat)), none⟩,
  ⟨(some 4), .assign (.const (.int .i64 0)), none⟩]
def refspace_Far_r1 : List SO := [⟨(some 8), .fieldAddr 35 (.tmp (2 : Nat)) 0, none⟩,
  ⟨(some 9), .load 3 (.tmp (8 : Nat)), none⟩,
  ⟨(some 10), .fieldAddr 35 (.tmp (3 : Nat)) 0, none⟩,
  ⟨(some 11), .load 3 (.tmp (10 : Nat)), none⟩,
  ⟨(some 12), .binOp .sub 3 (.tmp (9 : Nat)) (.tmp (11 : Nat)) 3, none⟩,
  ⟨(some 13), .fieldAddr 35 (.tmp (2 : Nat)) 1, none⟩,
  ⟨(some 14), .load 3 (.tmp (13 : Nat)), none⟩,
  ⟨(some 15), .fieldAddr 35 (.tmp (3 : Nat)) 1, none⟩,
  ⟨(some 16), .load 3 (.tmp (15 : Nat)), none⟩,
  ⟨(some 17), .binOp .sub 3 (.tmp (14 : Nat)) (.tmp (16 : Nat)) 3, none⟩,
  ⟨(some 18), .fieldAddr 35 (.tmp (2 : Nat)) 2, none⟩,
  ⟨(some 19), .load 3 (.tmp (18 : Nat)), none⟩,
  ⟨(some 20), .fieldAddr 35 (.tmp (3 : Nat)) 2, none⟩,
  ⟨(some 21), .load 3 (.tmp (20 : Nat)), none⟩,
  ⟨(some 22), .binOp .sub 3 (.tmp (19 : Nat)) (.tmp (21 : Nat)) 3, none⟩,
  ⟨(some 5), .assign (.tmp (12 : Nat)), none⟩,
  ⟨(some 6), .assign (.tmp (17 : Nat)), none⟩,
  ⟨(some 7), .assign (.tmp (22 : Nat)), none⟩]
def refspace_Far_a1 : List (List Nat) := [[], [0], [], [2], [1, 3], [], [5], [], [7], [6, 8], [], [10], [], [12], [11, 13], [4, 0, 1, 2, 3, 4], [9, 15, 0, 1, 2, 3, 4, 5, 6, 7, 8, 9, 15], [14, 16, 0, 1, 2, 3, 4, 5, 6, 7, 8, 9, 10, 11, 12, 13, 14, 15, 16]]
def refspace_Far_r2 : List SO := [⟨(some 23), .move (.tmp (5 : Nat)), none⟩,
  ⟨(some 24), .move (.tmp (5 : Nat)), none⟩,
  ⟨(some 25), .binOp .mul 3 (.tmp (23 : Nat)) (.tmp (24 : Nat)) 3, none⟩,
  ⟨(some 26), .move (.tmp (6 : Nat)), none⟩,
  ⟨(some 27), .move (.tmp (6 : Nat)), none⟩,
  ⟨(some 28), .binOp .mul 3 (.tmp (26 : Nat)) (.tmp (27 : Nat)) 3, none⟩,
  ⟨(some 29), .binOp .add 3 (.tmp (25 : Nat)) (.tmp (28 : Nat)) 3, none⟩,
  ⟨(some 30), .move (.tmp (7 : Nat)), none⟩,
  ⟨(some 31), .move (.tmp (7 : Nat)), none⟩,
  ⟨(some 32), .binOp .mul 3 (.tmp (30 : Nat)) (.tmp (31 : Nat)) 3, none⟩,
  ⟨(some 33), .binOp .add 3 (.tmp (29 : Nat)) (.tmp (32 : Nat)) 3, none⟩,
  ⟨(some 4), .assign (.tmp (33 : Nat)), none⟩]
def refspace_Far_c : SF := ⟨34, (.seq (.reg refspace_Far_r0)
  (.seq (.regd refspace_Far_r1 refspace_Far_a1)
  (.seq (.reg refspace_Far_r2)
  .ret))), [.tmp 4]⟩
theorem refspace_Far_s : slimF Try.prog 86 = some refspace_Far_c := by kernel_rfl
abbrev refspace_Far_f : Nat := 86

def tbl_refspace : List (Nat × SF) := [(22, refspace_ToLab_c), (23, refspace_ToXYZ_c), (24, refspace_Check_c), (26, refspace_Distance_c), (42, refspace_Between_c), (52, refspace_Response_c), (53, refspace_CheckXYZ_c), (54, refspace_CheckWhite_c), (55, refspace_response_c), (56, refspace_cut_c), (57, refspace_value_c), (60, refspace_Square_c), (80, refspace_Between_1_c), (86, refspace_Far_c)]
theorem tbl_refspace_ok : okT Try.prog tbl_refspace := ⟨refspace_ToLab_s, refspace_ToXYZ_s, refspace_Check_s, refspace_Distance_s, refspace_Between_s, refspace_Response_s, refspace_CheckXYZ_s, refspace_CheckWhite_s, refspace_response_s, refspace_cut_s, refspace_value_s, refspace_Square_s, refspace_Between_1_s, refspace_Far_s, trivial⟩

end Go.Proofs.Ytfgaefpdccdfiaa
namespace Go.Proofs.Ytfgaefpdccdfiaa
open Go Go.Lite
set_option linter.unusedVariables false

/-- printworks/sheet.Mean -/
def sheet_Mean_r0 : List SO := [⟨(some 2), .box 68 (.tmp (0 : Nat)), none⟩,
  ⟨(some 4), .alloc 35, none⟩,
  ⟨(some 5), .assign (.const (.int .i64 0)), none⟩]
def sheet_Mean_r1 : List SO := [⟨(some 17), .load 68 (.tmp (2 : Nat)), none⟩,
  ⟨(some 18), .call ⟨(.value (.func (73 : Nat))), #[(.tmp (17 : Nat))], #[68]⟩, none⟩,
  ⟨(some 6), .assign (.tmp (18 : Nat)), none⟩]
def sheet_Mean_r2 : List SO := [⟨(some 19), .move (.tmp (6 : Nat)), none⟩,
  ⟨(some 20), .binOp .neq 24 (.tmp (19 : Nat)) (.const (.int .i64 0)) 24, none⟩]
def sheet_Mean_r3 : List SO := [⟨(some 21), .build 35 #[], none⟩,
  ⟨(some 22), .move (.tmp (6 : Nat)), none⟩,
  ⟨none, .store 35 (.tmp (4 : Nat)) (.tmp (21 : Nat)), none⟩,
  ⟨(some 5), .assign (.tmp (22 : Nat)), none⟩]
def sheet_Mean_r4 : List SO := [⟨(some 7), .assign (.const (.int .i64 0)), none⟩]
def sheet_Mean_r5 : List SO := [⟨(some 23), .move (.tmp (7 : Nat)), none⟩,
  ⟨(some 24), .binOp .leq 3 (.tmp (23 : Nat)) (.const (.int .i64 8)) 3, none⟩,
  ⟨(some 25), .move (.tmp (24 : Nat)), none⟩,
  ⟨(some 26), .move (.tmp (1 : Nat)), (some (25, true))⟩,
  ⟨(some 27), .call ⟨(.builtin .len), #[(.tmp (26 : Nat))], #[65]⟩, (some (25, true))⟩,
  ⟨(some 28), .move (.tmp (7 : Nat)), (some (25, true))⟩,
  ⟨(some 29), .binOp .shl 3 (.const (.int .i64 1)) (.tmp (28 : Nat)) 3, (some (25, true))⟩,
  ⟨(some 30), .binOp .neq 3 (.tmp (27 : Nat)) (.tmp (29 : Nat)) 3, (some (25, true))⟩,
  ⟨(some 31), .pick (.tmp (25 : Nat)) (.tmp (30 : Nat)) (.const (.bool false)), none⟩]
def sheet_Mean_r6 : List SO := [⟨(some 32), .move (.tmp (7 : Nat)), none⟩,
  ⟨(some 33), .binOp .add 3 (.tmp (32 : Nat)) (.const (.int .i64 1)) 3, none⟩,
  ⟨(some 7), .assign (.tmp (33 : Nat)), none⟩]
def sheet_Mean_r7 : List SO := [⟨(some 34), .move (.tmp (7 : Nat)), none⟩,
  ⟨(some 35), .binOp .eql 3 (.tmp (34 : Nat)) (.const (.int .i64 0)) 3, none⟩,
  ⟨(some 36), .move (.tmp (35 : Nat)), none⟩,
  ⟨(some 37), .move (.tmp (7 : Nat)), (some (36, false))⟩,
  ⟨(some 38), .binOp .gtr 3 (.tmp (37 : Nat)) (.const (.int .i64 8)) 3, (some (36, false))⟩,
  ⟨(some 39), .pick (.tmp (36 : Nat)) (.const (.bool true)) (.tmp (38 : Nat)), none⟩]
def sheet_Mean_r8 : List SO := [⟨(some 40), .build 35 #[], none⟩,
  ⟨none, .store 35 (.tmp (4 : Nat)) (.tmp (40 : Nat)), none⟩,
  ⟨(some 5), .assign (.const (.int .i64 4)), none⟩]
def sheet_Mean_r9 : List SO := [⟨(some 41), .move (.tmp (1 : Nat)), none⟩,
  ⟨(some 42), .call ⟨(.builtin .len), #[(.tmp (41 : Nat))], #[65]⟩, none⟩,
  ⟨(some 43), .move (.const (.int .i64 0)), none⟩]
def sheet_Mean_r10 : List SO := [⟨(some 44), .binOp .lss 3 (.tmp (43 : Nat)) (.tmp (42 : Nat)) 3, none⟩]
def sheet_Mean_r11 : List SO := [⟨(some 45), .indexAddr 65 (.tmp (41 : Nat)) (.tmp (43 : Nat)), none⟩,
  ⟨(some 46), .load 35 (.tmp (45 : Nat)), none⟩,
  ⟨(some 9), .alloc 35, none⟩,
  ⟨none, .store 35 (.tmp (9 : Nat)) (.tmp (46 : Nat)), none⟩]
def sheet_Mean_r12 : List SO := [⟨(some 47), .load 35 (.tmp (9 : Nat)), none⟩,
  ⟨(some 48), .call ⟨(.value (.func (24 : Nat))), #[(.tmp (47 : Nat))], #[35]⟩, none⟩,
  ⟨(some 10), .assign (.tmp (48 : Nat)), none⟩]
def sheet_Mean_r13 : List SO := [⟨(some 49), .move (.tmp (10 : Nat)), none⟩,
  ⟨(some 50), .binOp .neq 24 (.tmp (49 : Nat)) (.const (.int .i64 0)) 24, none⟩]
def sheet_Mean_r14 : List SO := [⟨(some 51), .build 35 #[], none⟩,
  ⟨(some 52), .move (.tmp (10 : Nat)), none⟩,
  ⟨none, .store 35 (.tmp (4 : Nat)) (.tmp (51 : Nat)), none⟩,
  ⟨(some 5), .assign (.tmp (52 : Nat)), none⟩]
def sheet_Mean_r15 : List SO := [⟨(some 53), .binOp .add 3 (.tmp (43 : Nat)) (.const (.int .i64 1)) 3, none⟩,
  ⟨(some 43), .move (.tmp (53 : Nat)), none⟩]
def sheet_Mean_r16 : List SO := [⟨(some 55), .load 68 (.tmp (2 : Nat)), none⟩,
  ⟨(some 56), .move (.tmp (7 : Nat)), none⟩,
  ⟨(some 57), .call ⟨(.value (.func (74 : Nat))), #[(.tmp (55 : Nat)), (.tmp (56 : Nat))], #[68, 3]⟩, none⟩,
  ⟨(some 54), .move (.tmp (57 : Nat)), none⟩,
  ⟨(some 58), .extract (.tmp (54 : Nat)) 0, none⟩,
  ⟨(some 59), .extract (.tmp (54 : Nat)) 1, none⟩,
  ⟨(some 11), .assign (.tmp (58 : Nat)), none⟩,
  ⟨(some 12), .assign (.tmp (59 : Nat)), none⟩]
def sheet_Mean_r17 : List SO := [⟨(some 60), .move (.tmp (12 : Nat)), none⟩,
  ⟨(some 61), .binOp .neq 24 (.tmp (60 : Nat)) (.const (.int .i64 0)) 24, none⟩]
def sheet_Mean_r18 : List SO := [⟨(some 62), .build 35 #[], none⟩,
  ⟨(some 63), .move (.tmp (12 : Nat)), none⟩,
  ⟨none, .store 35 (.tmp (4 : Nat)) (.tmp (62 : Nat)), none⟩,
  ⟨(some 5), .assign (.tmp (63 : Nat)), none⟩]
def sheet_Mean_r19 : List SO := [⟨(some 64), .build 35 #[], none⟩,
  ⟨(some 13), .alloc 35, none⟩,
  ⟨none, .store 35 (.tmp (13 : Nat)) (.tmp (64 : Nat)), none⟩]
def sheet_Mean_r20 : List SO := [⟨(some 65), .move (.tmp (11 : Nat)), none⟩,
  ⟨(some 66), .call ⟨(.builtin .len), #[(.tmp (65 : Nat))], #[22]⟩, none⟩,
  ⟨(some 67), .move (.const (.int .i64 0)), none⟩]
def sheet_Mean_r21 : List SO := [⟨(some 68), .binOp .lss 3 (.tmp (67 : Nat)) (.tmp (66 : Nat)) 3, none⟩]
def sheet_Mean_r22 : List SO := [⟨(some 69), .move (.tmp (67 : Nat)), none⟩,
  ⟨(some 70), .indexAddr 22 (.tmp (65 : Nat)) (.tmp (67 : Nat)), none⟩,
  ⟨(some 71), .load 3 (.tmp (70 : Nat)), none⟩,
  ⟨(some 14), .assign (.tmp (69 : Nat)), none⟩,
  ⟨(some 15), .assign (.tmp (71 : Nat)), none⟩]
def sheet_Mean_r23 : List SO := [⟨(some 72), .fieldAddr 35 (.tmp (13 : Nat)) 0, none⟩,
  ⟨(some 73), .load 3 (.tmp (72 : Nat)), none⟩,
  ⟨(some 74), .move (.tmp (15 : Nat)), none⟩,
  ⟨(some 75), .move (.tmp (1 : Nat)), none⟩,
  ⟨(some 76), .move (.tmp (14 : Nat)), none⟩,
  ⟨(some 77), .indexAddr 65 (.tmp (75 : Nat)) (.tmp (76 : Nat)), none⟩,
  ⟨(some 78), .fieldAddr 35 (.tmp (77 : Nat)) 0, none⟩,
  ⟨(some 79), .load 3 (.tmp (78 : Nat)), none⟩,
  ⟨(some 80), .binOp .mul 3 (.tmp (74 : Nat)) (.tmp (79 : Nat)) 3, none⟩,
  ⟨(some 81), .binOp .add 3 (.tmp (73 : Nat)) (.tmp (80 : Nat)) 3, none⟩,
  ⟨(some 82), .fieldAddr 35 (.tmp (13 : Nat)) 0, none⟩,
  ⟨none, .store 3 (.tmp (82 : Nat)) (.tmp (81 : Nat)), none⟩]
def sheet_Mean_a23 : List (List Nat) := [[], [0], [], [], [], [3, 4], [5], [6], [2, 7], [1, 8], [0, 1, 2, 3, 4, 5, 6, 7, 8, 9], [10, 9, 0, 1, 2, 3, 4, 5, 6, 7, 8, 9]]
def sheet_Mean_r24 : List SO := [⟨(some 83), .fieldAddr 35 (.tmp (13 : Nat)) 1, none⟩,
  ⟨(some 84), .load 3 (.tmp (83 : Nat)), none⟩,
  ⟨(some 85), .move (.tmp (15 : Nat)), none⟩,
  ⟨(some 86), .move (.tmp (1 : Nat)), none⟩,
  ⟨(some 87), .move (.tmp (14 : Nat)), none⟩,
  ⟨(some 88), .indexAddr 65 (.tmp (86 : Nat)) (.tmp (87 : Nat)), none⟩,
  ⟨(some 89), .fieldAddr 35 (.tmp (88 : Nat)) 1, none⟩,
  ⟨(some 90), .load 3 (.tmp (89 : Nat)), none⟩,
  ⟨(some 91), .binOp .mul 3 (.tmp (85 : Nat)) (.tmp (90 : Nat)) 3, none⟩,
  ⟨(some 92), .binOp .add 3 (.tmp (84 : Nat)) (.tmp (91 : Nat)) 3, none⟩,
  ⟨(some 93), .fieldAddr 35 (.tmp (13 : Nat)) 1, none⟩,
  ⟨none, .store 3 (.tmp (93 : Nat)) (.tmp (92 : Nat)), none⟩]
def sheet_Mean_a24 : List (List Nat) := [[], [0], [], [], [], [3, 4], [5], [6], [2, 7], [1, 8], [0, 1, 2, 3, 4, 5, 6, 7, 8, 9], [10, 9, 0, 1, 2, 3, 4, 5, 6, 7, 8, 9]]
def sheet_Mean_r25 : List SO := [⟨(some 94), .fieldAddr 35 (.tmp (13 : Nat)) 2, none⟩,
  ⟨(some 95), .load 3 (.tmp (94 : Nat)), none⟩,
  ⟨(some 96), .move (.tmp (15 : Nat)), none⟩,
  ⟨(some 97), .move (.tmp (1 : Nat)), none⟩,
  ⟨(some 98), .move (.tmp (14 : Nat)), none⟩,
  ⟨(some 99), .indexAddr 65 (.tmp (97 : Nat)) (.tmp (98 : Nat)), none⟩,
  ⟨(some 100), .fieldAddr 35 (.tmp (99 : Nat)) 2, none⟩,
  ⟨(some 101), .load 3 (.tmp (100 : Nat)), none⟩,
  ⟨(some 102), .binOp .mul 3 (.tmp (96 : Nat)) (.tmp (101 : Nat)) 3, none⟩,
  ⟨(some 103), .binOp .add 3 (.tmp (95 : Nat)) (.tmp (102 : Nat)) 3, none⟩,
  ⟨(some 104), .fieldAddr 35 (.tmp (13 : Nat)) 2, none⟩,
  ⟨none, .store 3 (.tmp (104 : Nat)) (.tmp (103 : Nat)), none⟩]
def sheet_Mean_a25 : List (List Nat) := [[], [0], [], [], [], [3, 4], [5], [6], [2, 7], [1, 8], [0, 1, 2, 3, 4, 5, 6, 7, 8, 9], [10, 9, 0, 1, 2, 3, 4, 5, 6, 7, 8, 9]]
def sheet_Mean_r26 : List SO := [⟨(some 105), .binOp .add 3 (.tmp (67 : Nat)) (.const (.int .i64 1)) 3, none⟩,
  ⟨(some 67), .move (.tmp (105 : Nat)), none⟩]
def sheet_Mean_r27 : List SO := [⟨(some 106), .fieldAddr 68 (.tmp (2 : Nat)) 0, none⟩,
  ⟨(some 107), .load 3 (.tmp (106 : Nat)), none⟩,
  ⟨(some 108), .fieldAddr 68 (.tmp (2 : Nat)) 1, none⟩,
  ⟨(some 109), .load 3 (.tmp (108 : Nat)), none⟩,
  ⟨(some 110), .binOp .mul 3 (.tmp (107 : Nat)) (.tmp (109 : Nat)) 3, none⟩,
  ⟨(some 16), .assign (.tmp (110 : Nat)), none⟩]
def sheet_Mean_r28 : List SO := [⟨(some 111), .fieldAddr 35 (.tmp (13 : Nat)) 0, none⟩,
  ⟨(some 112), .load 3 (.tmp (111 : Nat)), none⟩,
  ⟨(some 113), .move (.tmp (16 : Nat)), none⟩,
  ⟨(some 114), .call ⟨(.value (.func (58 : Nat))), #[(.tmp (112 : Nat)), (.tmp (113 : Nat))], #[3, 3]⟩, none⟩,
  ⟨(some 115), .fieldAddr 35 (.tmp (13 : Nat)) 1, none⟩,
  ⟨(some 116), .load 3 (.tmp (115 : Nat)), none⟩,
  ⟨(some 117), .move (.tmp (16 : Nat)), none⟩,
  ⟨(some 118), .call ⟨(.value (.func (58 : Nat))), #[(.tmp (116 : Nat)), (.tmp (117 : Nat))], #[3, 3]⟩, none⟩,
  ⟨(some 119), .fieldAddr 35 (.tmp (13 : Nat)) 2, none⟩,
  ⟨(some 120), .load 3 (.tmp (119 : Nat)), none⟩,
  ⟨(some 121), .move (.tmp (16 : Nat)), none⟩,
  ⟨(some 122), .call ⟨(.value (.func (58 : Nat))), #[(.tmp (120 : Nat)), (.tmp (121 : Nat))], #[3, 3]⟩, none⟩,
  ⟨(some 123), .build 35 #[(0, (.tmp (114 : Nat))), (1, (.tmp (118 : Nat))), (2, (.tmp (122 : Nat)))], none⟩,
  ⟨none, .store 35 (.tmp (4 : Nat)) (.tmp (123 : Nat)), none⟩,
  ⟨(some 5), .assign (.const (.int .i64 0)), none⟩]
def sheet_Mean_a28 : List (List Nat) := [[], [0], [], [1, 2], [], [4], [], [5, 6, 3], [], [8], [], [9, 10, 7], [3, 7, 11], [12, 11, 0, 1, 2, 3, 4, 5, 6, 7, 8, 9, 10, 11, 12], [13, 0, 1, 2, 3, 4, 5, 6, 7, 8, 9, 10, 11, 12, 13]]
def sheet_Mean_c : SF := ⟨124, (.seq (.reg sheet_Mean_r0)
  (.seq (.seq (.reg sheet_Mean_r1)
  (.seq (.reg sheet_Mean_r2)
  (.cond (.tmp (20 : Nat)) (.seq (.reg sheet_Mean_r3)
  .ret) .skip)))
  (.seq (.reg sheet_Mean_r4)
  (.seq (.block 0 (.loop (.seq (.seq (.reg sheet_Mean_r5)
  (.cond (.tmp (31 : Nat)) .skip (.exit 0)))
  (.block 1 (.reg sheet_Mean_r6)))))
  (.seq (.seq (.reg sheet_Mean_r7)
  (.cond (.tmp (39 : Nat)) (.seq (.reg sheet_Mean_r8)
  .ret) .skip))
  (.seq (.seq (.reg sheet_Mean_r9)
  (.block 2 (.loop (.seq (.reg sheet_Mean_r10)
  (.seq (.cond (.tmp (44 : Nat)) .skip (.exit 2))
  (.seq (.block 3 (.seq (.reg sheet_Mean_r11)
  (.seq (.reg sheet_Mean_r12)
  (.seq (.reg sheet_Mean_r13)
  (.cond (.tmp (50 : Nat)) (.seq (.reg sheet_Mean_r14)
  .ret) .skip)))))
  (.reg sheet_Mean_r15)))))))
  (.seq (.reg sheet_Mean_r16)
  (.seq (.seq (.reg sheet_Mean_r17)
  (.cond (.tmp (61 : Nat)) (.seq (.reg sheet_Mean_r18)
  .ret) .skip))
  (.seq (.reg sheet_Mean_r19)
  (.seq (.seq (.reg sheet_Mean_r20)
  (.block 4 (.loop (.seq (.reg sheet_Mean_r21)
  (.seq (.cond (.tmp (68 : Nat)) .skip (.exit 4))
  (.seq (.block 5 (.seq (.reg sheet_Mean_r22)
  (.seq (.regd sheet_Mean_r23 sheet_Mean_a23)
  (.seq (.regd sheet_Mean_r24 sheet_Mean_a24)
  (.regd sheet_Mean_r25 sheet_Mean_a25)))))
  (.reg sheet_Mean_r26)))))))
  (.seq (.reg sheet_Mean_r27)
  (.seq (.regd sheet_Mean_r28 sheet_Mean_a28)
  .ret)))))))))))), [.cell 4 35, .tmp 5]⟩
theorem sheet_Mean_s : slimF Try.prog 38 = some sheet_Mean_c := by kernel_rfl
abbrev sheet_Mean_f : Nat := 38
/-- printworks/sheet.Check -/
def sheet_Check_r0 : List SO := [⟨(some 1), .box 68 (.tmp (0 : Nat)), none⟩,
  ⟨(some 2), .assign (.const (.int .i64 0)), none⟩]
def sheet_Check_r1 : List SO := [⟨(some 3), .fieldAddr 68 (.tmp (1 : Nat)) 0, none⟩,
  ⟨(some 4), .load 3 (.tmp (3 : Nat)), none⟩,
  ⟨(some 5), .binOp .lss 3 (.tmp (4 : Nat)) (.const (.int .i64 1)) 3, none⟩,
  ⟨(some 6), .move (.tmp (5 : Nat)), none⟩,
  ⟨(some 7), .fieldAddr 68 (.tmp (1 : Nat)) 0, (some (6, false))⟩,
  ⟨(some 8), .load 3 (.tmp (7 : Nat)), (some (6, false))⟩,
  ⟨(some 9), .binOp .gtr 3 (.tmp (8 : Nat)) (.const (.int .i64 1024)) 3, (some (6, false))⟩,
  ⟨(some 10), .pick (.tmp (6 : Nat)) (.const (.bool true)) (.tmp (9 : Nat)), none⟩,
  ⟨(some 11), .move (.tmp (10 : Nat)), none⟩,
  ⟨(some 12), .fieldAddr 68 (.tmp (1 : Nat)) 1, (some (11, false))⟩,
  ⟨(some 13), .load 3 (.tmp (12 : Nat)), (some (11, false))⟩,
  ⟨(some 14), .binOp .lss 3 (.tmp (13 : Nat)) (.const (.int .i64 1)) 3, (some (11, false))⟩,
  ⟨(some 15), .pick (.tmp (11 : Nat)) (.const (.bool true)) (.tmp (14 : Nat)), none⟩,
  ⟨(some 16), .move (.tmp (15 : Nat)), none⟩,
  ⟨(some 17), .fieldAddr 68 (.tmp (1 : Nat)) 1, (some (16, false))⟩,
  ⟨(some 18), .load 3 (.tmp (17 : Nat)), (some (16, false))⟩,
  ⟨(some 19), .binOp .gtr 3 (.tmp (18 : Nat)) (.const (.int .i64 1024)) 3, (some (16, false))⟩,
  ⟨(some 20), .pick (.tmp (16 : Nat)) (.const (.bool true)) (.tmp (19 : Nat)), none⟩]
def sheet_Check_r2 : List SO := [⟨(some 2), .assign (.const (.int .i64 3)), none⟩]
def sheet_Check_r3 : List SO := [⟨(some 21), .fieldAddr 68 (.tmp (1 : Nat)) 2, none⟩,
  ⟨(some 22), .load 66 (.tmp (21 : Nat)), none⟩,
  ⟨(some 23), .call ⟨(.builtin .len), #[(.tmp (22 : Nat))], #[66]⟩, none⟩,
  ⟨(some 24), .fieldAddr 68 (.tmp (1 : Nat)) 0, none⟩,
  ⟨(some 25), .load 3 (.tmp (24 : Nat)), none⟩,
  ⟨(some 26), .fieldAddr 68 (.tmp (1 : Nat)) 1, none⟩,
  ⟨(some 27), .load 3 (.tmp (26 : Nat)), none⟩,
  ⟨(some 28), .binOp .mul 3 (.tmp (25 : Nat)) (.tmp (27 : Nat)) 3, none⟩,
  ⟨(some 29), .binOp .neq 3 (.tmp (23 : Nat)) (.tmp (28 : Nat)) 3, none⟩]
def sheet_Check_r4 : List SO := [⟨(some 2), .assign (.const (.int .i64 4)), none⟩]
def sheet_Check_r5 : List SO := [⟨(some 2), .assign (.const (.int .i64 0)), none⟩]
def sheet_Check_c : SF := ⟨30, (.seq (.reg sheet_Check_r0)
  (.seq (.seq (.reg sheet_Check_r1)
  (.cond (.tmp (20 : Nat)) (.seq (.reg sheet_Check_r2)
  .ret) .skip))
  (.seq (.seq (.reg sheet_Check_r3)
  (.cond (.tmp (29 : Nat)) (.seq (.reg sheet_Check_r4)
  .ret) .skip))
  (.seq (.reg sheet_Check_r5)
  .ret)))), [.tmp 2]⟩
theorem sheet_Check_s : slimF Try.prog 73 = some sheet_Check_c := by kernel_rfl
abbrev sheet_Check_f : Nat := 73
/-- printworks/sheet.Counts -/
def sheet_Counts_r0 : List SO := [⟨(some 2), .box 68 (.tmp (0 : Nat)), none⟩,
  ⟨(some 4), .assign (.const (.slice none 0 0)), none⟩,
  ⟨(some 5), .assign (.const (.int .i64 0)), none⟩]
def sheet_Counts_r1 : List SO := [⟨(some 10), .load 68 (.tmp (2 : Nat)), none⟩,
  ⟨(some 11), .call ⟨(.value (.func (73 : Nat))), #[(.tmp (10 : Nat))], #[68]⟩, none⟩,
  ⟨(some 6), .assign (.tmp (11 : Nat)), none⟩]
def sheet_Counts_r2 : List SO := [⟨(some 12), .move (.tmp (6 : Nat)), none⟩,
  ⟨(some 13), .binOp .neq 24 (.tmp (12 : Nat)) (.const (.int .i64 0)) 24, none⟩]
def sheet_Counts_r3 : List SO := [⟨(some 14), .move (.tmp (6 : Nat)), none⟩,
  ⟨(some 4), .assign (.const (.slice none 0 0)), none⟩,
  ⟨(some 5), .assign (.tmp (14 : Nat)), none⟩]
def sheet_Counts_r4 : List SO := [⟨(some 15), .move (.tmp (1 : Nat)), none⟩,
  ⟨(some 16), .binOp .lss 3 (.tmp (15 : Nat)) (.const (.int .i64 1)) 3, none⟩,
  ⟨(some 17), .move (.tmp (16 : Nat)), none⟩,
  ⟨(some 18), .move (.tmp (1 : Nat)), (some (17, false))⟩,
  ⟨(some 19), .binOp .gtr 3 (.tmp (18 : Nat)) (.const (.int .i64 8)) 3, (some (17, false))⟩,
  ⟨(some 20), .pick (.tmp (17 : Nat)) (.const (.bool true)) (.tmp (19 : Nat)), none⟩]
def sheet_Counts_r5 : List SO := [⟨(some 4), .assign (.const (.slice none 0 0)), none⟩,
  ⟨(some 5), .assign (.const (.int .i64 3)), none⟩]
def sheet_Counts_r6 : List SO := [⟨(some 21), .move (.tmp (1 : Nat)), none⟩,
  ⟨(some 22), .binOp .shl 3 (.const (.int .i64 1)) (.tmp (21 : Nat)) 3, none⟩,
  ⟨(some 23), .makeSlice 22 (.tmp (22 : Nat)) (.tmp (22 : Nat)), none⟩,
  ⟨(some 7), .assign (.tmp (23 : Nat)), none⟩]
def sheet_Counts_r7 : List SO := [⟨(some 24), .fieldAddr 68 (.tmp (2 : Nat)) 2, none⟩,
  ⟨(some 25), .load 66 (.tmp (24 : Nat)), none⟩,
  ⟨(some 26), .call ⟨(.builtin .len), #[(.tmp (25 : Nat))], #[66]⟩, none⟩,
  ⟨(some 27), .move (.const (.int .i64 0)), none⟩]
def sheet_Counts_r8 : List SO := [⟨(some 28), .binOp .lss 3 (.tmp (27 : Nat)) (.tmp (26 : Nat)) 3, none⟩]
def sheet_Counts_r9 : List SO := [⟨(some 29), .indexAddr 66 (.tmp (25 : Nat)) (.tmp (27 : Nat)), none⟩,
  ⟨(some 30), .load 5 (.tmp (29 : Nat)), none⟩,
  ⟨(some 9), .assign (.tmp (30 : Nat)), none⟩]
def sheet_Counts_r10 : List SO := [⟨(some 31), .move (.tmp (9 : Nat)), none⟩,
  ⟨(some 32), .convert 5 3 (.tmp (31 : Nat)), none⟩,
  ⟨(some 33), .move (.tmp (7 : Nat)), none⟩,
  ⟨(some 34), .call ⟨(.builtin .len), #[(.tmp (33 : Nat))], #[22]⟩, none⟩,
  ⟨(some 35), .binOp .geq 3 (.tmp (32 : Nat)) (.tmp (34 : Nat)) 3, none⟩]
def sheet_Counts_r11 : List SO := [⟨(some 4), .assign (.const (.slice none 0 0)), none⟩,
  ⟨(some 5), .assign (.const (.int .i64 4)), none⟩]
def sheet_Counts_r12 : List SO := [⟨(some 36), .move (.tmp (7 : Nat)), none⟩,
  ⟨(some 37), .move (.tmp (9 : Nat)), none⟩,
  ⟨(some 38), .indexAddr 22 (.tmp (36 : Nat)) (.tmp (37 : Nat)), none⟩,
  ⟨(some 39), .load 3 (.tmp (38 : Nat)), none⟩,
  ⟨(some 40), .binOp .add 3 (.tmp (39 : Nat)) (.const (.int .i64 1)) 3, none⟩,
  ⟨(some 41), .indexAddr 22 (.tmp (36 : Nat)) (.tmp (37 : Nat)), none⟩,
  ⟨none, .store 3 (.tmp (41 : Nat)) (.tmp (40 : Nat)), none⟩]
def sheet_Counts_r13 : List SO := [⟨(some 42), .binOp .add 3 (.tmp (27 : Nat)) (.const (.int .i64 1)) 3, none⟩,
  ⟨(some 27), .move (.tmp (42 : Nat)), none⟩]
def sheet_Counts_r14 : List SO := [⟨(some 43), .move (.tmp (7 : Nat)), none⟩,
  ⟨(some 4), .assign (.tmp (43 : Nat)), none⟩,
  ⟨(some 5), .assign (.const (.int .i64 0)), none⟩]
def sheet_Counts_c : SF := ⟨44, (.seq (.reg sheet_Counts_r0)
  (.seq (.seq (.reg sheet_Counts_r1)
  (.seq (.reg sheet_Counts_r2)
  (.cond (.tmp (13 : Nat)) (.seq (.reg sheet_Counts_r3)
  .ret) .skip)))
  (.seq (.seq (.reg sheet_Counts_r4)
  (.cond (.tmp (20 : Nat)) (.seq (.reg sheet_Counts_r5)
  .ret) .skip))
  (.seq (.reg sheet_Counts_r6)
  (.seq (.seq (.reg sheet_Counts_r7)
  (.block 0 (.loop (.seq (.reg sheet_Counts_r8)
  (.seq (.cond (.tmp (28 : Nat)) .skip (.exit 0))
  (.seq (.block 1 (.seq (.reg sheet_Counts_r9)
  (.seq (.seq (.reg sheet_Counts_r10)
  (.cond (.tmp (35 : Nat)) (.seq (.reg sheet_Counts_r11)
  .ret) .skip))
  (.reg sheet_Counts_r12))))
  (.reg sheet_Counts_r13)))))))
  (.seq (.reg sheet_Counts_r14)
  .ret)))))), [.tmp 4, .tmp 5]⟩
theorem sheet_Counts_s : slimF Try.prog 74 = some sheet_Counts_c := by kernel_rfl
abbrev sheet_Counts_f : Nat := 74

def tbl_sheet : List (Nat × SF) := [(38, sheet_Mean_c), (73, sheet_Check_c), (74, sheet_Counts_c)]
theorem tbl_sheet_ok : okT Try.prog tbl_sheet := ⟨sheet_Mean_s, sheet_Check_s, sheet_Counts_s, trivial⟩

end Go.Proofs.Ytfgaefpdccdfiaa
namespace Go.Proofs.Ytfgaefpdccdfiaa
open Go Go.Lite
set_option linter.unusedVariables false

/-- printworks/printworkskeep2.overprintWorks -/
def K2_overprintWorks_r0 : List SO := [⟨(some 0), .assign (.const (.bool false)), none⟩]
def K2_overprintWorks_r1 : List SO := [⟨(some 8), .buildSlice 22 4 #[(0, (.const (.int .i64 10))), (1, (.const (.int .i64 200))), (2, (.const (.int .i64 30))), (3, (.const (.int .i64 100)))], none⟩,
  ⟨(some 9), .buildSlice 22 4 #[(0, (.const (.int .i64 0))), (1, (.const (.int .i64 50))), (2, (.const (.int .i64 0))), (3, (.const (.int .i64 100)))], none⟩,
  ⟨(some 10), .buildSlice 22 4 #[(0, (.const (.int .i64 0))), (1, (.const (.int .i64 1))), (2, (.const (.int .i64 2))), (3, (.const (.int .i64 3)))], none⟩,
  ⟨(some 11), .call ⟨(.value (.func (19 : Nat))), #[(.tmp (8 : Nat)), (.tmp (9 : Nat)), (.tmp (10 : Nat))], #[22, 22, 22]⟩, none⟩,
  ⟨(some 7), .move (.tmp (11 : Nat)), none⟩,
  ⟨(some 12), .extract (.tmp (7 : Nat)) 0, none⟩,
  ⟨(some 13), .extract (.tmp (7 : Nat)) 1, none⟩,
  ⟨(some 1), .assign (.tmp (12 : Nat)), none⟩,
  ⟨(some 2), .assign (.tmp (13 : Nat)), none⟩]
def K2_overprintWorks_r2 : List SO := [⟨(some 15), .buildSlice 22 2 #[(0, (.const (.int .i64 51))), (1, (.const (.int .i64 255)))], none⟩,
  ⟨(some 16), .call ⟨(.value (.func (16 : Nat))), #[(.tmp (15 : Nat))], #[22]⟩, none⟩,
  ⟨(some 14), .move (.tmp (16 : Nat)), none⟩,
  ⟨(some 17), .extract (.tmp (14 : Nat)) 0, none⟩,
  ⟨(some 18), .extract (.tmp (14 : Nat)) 1, none⟩,
  ⟨(some 3), .assign (.tmp (17 : Nat)), none⟩,
  ⟨(some 4), .assign (.tmp (18 : Nat)), none⟩]
def K2_overprintWorks_r3 : List SO := [⟨(some 20), .build 35 #[(0, (.const (.int .i64 10000)))], none⟩,
  ⟨(some 21), .build 35 #[(0, (.const (.int .i64 6000))), (1, (.const (.int .i64 (-3000)))), (2, (.const (.int .i64 (-4000))))], none⟩,
  ⟨(some 22), .buildSlice 65 2 #[(0, (.tmp (20 : Nat))), (1, (.tmp (21 : Nat)))], none⟩,
  ⟨(some 23), .buildSlice 22 1 #[(0, (.const (.int .i64 51)))], none⟩,
  ⟨(some 24), .call ⟨(.value (.func (37 : Nat))), #[(.tmp (22 : Nat)), (.tmp (23 : Nat))], #[65, 22]⟩, none⟩,
  ⟨(some 19), .move (.tmp (24 : Nat)), none⟩,
  ⟨(some 25), .extract (.tmp (19 : Nat)) 0, none⟩,
  ⟨(some 26), .extract (.tmp (19 : Nat)) 1, none⟩,
  ⟨(some 5), .alloc 35, none⟩,
  ⟨none, .store 35 (.tmp (5 : Nat)) (.tmp (25 : Nat)), none⟩,
  ⟨(some 6), .assign (.tmp (26 : Nat)), none⟩]
def K2_overprintWorks_r4 : List SO := [⟨(some 27), .move (.tmp (2 : Nat)), none⟩,
  ⟨(some 28), .binOp .eql 24 (.tmp (27 : Nat)) (.const (.int .i64 0)) 24, none⟩,
  ⟨(some 29), .move (.tmp (28 : Nat)), none⟩,
  ⟨(some 30), .move (.tmp (1 : Nat)), (some (29, true))⟩,
  ⟨(some 31), .buildSlice 22 4 #[(0, (.const (.int .i64 0))), (1, (.const (.int .i64 50))), (2, (.const (.int .i64 30))), (3, (.const (.int .i64 161)))], (some (29, true))⟩,
  ⟨(some 32), .call ⟨(.value (.func (20 : Nat))), #[(.tmp (30 : Nat)), (.tmp (31 : Nat))], #[22, 22]⟩, (some (29, true))⟩,
  ⟨(some 33), .pick (.tmp (29 : Nat)) (.tmp (32 : Nat)) (.const (.bool false)), none⟩,
  ⟨(some 34), .move (.tmp (33 : Nat)), none⟩,
  ⟨(some 35), .move (.tmp (4 : Nat)), (some (34, true))⟩,
  ⟨(some 36), .binOp .eql 24 (.tmp (35 : Nat)) (.const (.int .i64 0)) 24, (some (34, true))⟩,
  ⟨(some 37), .pick (.tmp (34 : Nat)) (.tmp (36 : Nat)) (.const (.bool false)), none⟩,
  ⟨(some 38), .move (.tmp (37 : Nat)), none⟩,
  ⟨(some 39), .move (.tmp (3 : Nat)), (some (38, true))⟩,
  ⟨(some 40), .buildSlice 22 4 #[(0, (.const (.int .i64 0))), (1, (.const (.int .i64 0))), (2, (.const (.int .i64 52020))), (3, (.const (.int .i64 13005)))], (some (38, true))⟩,
  ⟨(some 41), .call ⟨(.value (.func (20 : Nat))), #[(.tmp (39 : Nat)), (.tmp (40 : Nat))], #[22, 22]⟩, (some (38, true))⟩,
  ⟨(some 42), .pick (.tmp (38 : Nat)) (.tmp (41 : Nat)) (.const (.bool false)), none⟩,
  ⟨(some 43), .move (.tmp (42 : Nat)), none⟩,
  ⟨(some 44), .move (.tmp (6 : Nat)), (some (43, true))⟩,
  ⟨(some 45), .binOp .eql 24 (.tmp (44 : Nat)) (.const (.int .i64 0)) 24, (some (43, true))⟩,
  ⟨(some 46), .pick (.tmp (43 : Nat)) (.tmp (45 : Nat)) (.const (.bool false)), none⟩,
  ⟨(some 47), .move (.tmp (46 : Nat)), none⟩,
  ⟨(some 48), .load 35 (.tmp (5 : Nat)), (some (47, true))⟩,
  ⟨(some 49), .build 35 #[(0, (.const (.int .i64 9200))), (1, (.const (.int .i64 (-600)))), (2, (.const (.int .i64 (-800))))], (some (47, true))⟩,
  ⟨(some 50), .binOp .eql 35 (.tmp (48 : Nat)) (.tmp (49 : Nat)) 35, (some (47, true))⟩,
  ⟨(some 51), .pick (.tmp (47 : Nat)) (.tmp (50 : Nat)) (.const (.bool false)), none⟩,
  ⟨(some 0), .assign (.tmp (51 : Nat)), none⟩]
def K2_overprintWorks_c : SF := ⟨52, (.seq (.reg K2_overprintWorks_r0)
  (.seq (.reg K2_overprintWorks_r1)
  (.seq (.reg K2_overprintWorks_r2)
  (.seq (.reg K2_overprintWorks_r3)
  (.seq (.reg K2_overprintWorks_r4)
  .ret))))), [.tmp 0]⟩
theorem K2_overprintWorks_s : slimF Try.prog 15 = some K2_overprintWorks_c := by kernel_rfl
abbrev K2_overprintWorks_f : Nat := 15
/-- printworks/printworkskeep2.refspaceWorks -/
def K2_refspaceWorks_r0 : List SO := [⟨(some 0), .assign (.const (.bool false)), none⟩]
def K2_refspaceWorks_r1 : List SO := [⟨(some 12), .call ⟨(.value (.func (51 : Nat))), #[], #[]⟩, none⟩,
  ⟨(some 13), .call ⟨(.value (.func (51 : Nat))), #[], #[]⟩, none⟩,
  ⟨(some 14), .call ⟨(.value (.func (22 : Nat))), #[(.tmp (12 : Nat)), (.tmp (13 : Nat))], #[33, 33]⟩, none⟩,
  ⟨(some 11), .move (.tmp (14 : Nat)), none⟩,
  ⟨(some 15), .extract (.tmp (11 : Nat)) 0, none⟩,
  ⟨(some 16), .extract (.tmp (11 : Nat)) 1, none⟩,
  ⟨(some 1), .alloc 35, none⟩,
  ⟨none, .store 35 (.tmp (1 : Nat)) (.tmp (15 : Nat)), none⟩,
  ⟨(some 2), .assign (.tmp (16 : Nat)), none⟩]
def K2_refspaceWorks_r2 : List SO := [⟨(some 18), .build 35 #[(0, (.const (.int .i64 10000)))], none⟩,
  ⟨(some 19), .call ⟨(.value (.func (51 : Nat))), #[], #[]⟩, none⟩,
  ⟨(some 20), .call ⟨(.value (.func (23 : Nat))), #[(.tmp (18 : Nat)), (.tmp (19 : Nat))], #[35, 33]⟩, none⟩,
  ⟨(some 17), .move (.tmp (20 : Nat)), none⟩,
  ⟨(some 21), .extract (.tmp (17 : Nat)) 0, none⟩,
  ⟨(some 22), .extract (.tmp (17 : Nat)) 1, none⟩,
  ⟨(some 3), .alloc 33, none⟩,
  ⟨none, .store 33 (.tmp (3 : Nat)) (.tmp (21 : Nat)), none⟩,
  ⟨(some 4), .assign (.tmp (22 : Nat)), none⟩]
def K2_refspaceWorks_r3 : List SO := [⟨(some 24), .call ⟨(.value (.func (52 : Nat))), #[(.const (.int .i64 50000)), (.const (.int .i64 100000))], #[3, 3]⟩, none⟩,
  ⟨(some 23), .move (.tmp (24 : Nat)), none⟩,
  ⟨(some 25), .extract (.tmp (23 : Nat)) 0, none⟩,
  ⟨(some 26), .extract (.tmp (23 : Nat)) 1, none⟩,
  ⟨(some 5), .assign (.tmp (25 : Nat)), none⟩,
  ⟨(some 6), .assign (.tmp (26 : Nat)), none⟩]
def K2_refspaceWorks_r4 : List SO := [⟨(some 28), .build 35 #[], none⟩,
  ⟨(some 29), .build 35 #[(0, (.const (.int .i64 300))), (1, (.const (.int .i64 400)))], none⟩,
  ⟨(some 30), .call ⟨(.value (.func (26 : Nat))), #[(.tmp (28 : Nat)), (.tmp (29 : Nat))], #[35, 35]⟩, none⟩,
  ⟨(some 27), .move (.tmp (30 : Nat)), none⟩,
  ⟨(some 31), .extract (.tmp (27 : Nat)) 0, none⟩,
  ⟨(some 32), .extract (.tmp (27 : Nat)) 1, none⟩,
  ⟨(some 7), .assign (.tmp (31 : Nat)), none⟩,
  ⟨(some 8), .assign (.tmp (32 : Nat)), none⟩]
def K2_refspaceWorks_r5 : List SO := [⟨(some 34), .build 35 #[], none⟩,
  ⟨(some 35), .build 35 #[(0, (.const (.int .i64 10000))), (1, (.const (.int .i64 (-5)))), (2, (.const (.int .i64 5)))], none⟩,
  ⟨(some 36), .call ⟨(.value (.func (42 : Nat))), #[(.tmp (34 : Nat)), (.tmp (35 : Nat)), (.const (.int .i64 1)), (.const (.int .i64 2))], #[35, 35, 3, 3]⟩, none⟩,
  ⟨(some 33), .move (.tmp (36 : Nat)), none⟩,
  ⟨(some 37), .extract (.tmp (33 : Nat)) 0, none⟩,
  ⟨(some 38), .extract (.tmp (33 : Nat)) 1, none⟩,
  ⟨(some 9), .alloc 35, none⟩,
  ⟨none, .store 35 (.tmp (9 : Nat)) (.tmp (37 : Nat)), none⟩,
  ⟨(some 10), .assign (.tmp (38 : Nat)), none⟩]
def K2_refspaceWorks_r6 : List SO := [⟨(some 39), .move (.tmp (2 : Nat)), none⟩,
  ⟨(some 40), .binOp .eql 24 (.tmp (39 : Nat)) (.const (.int .i64 0)) 24, none⟩,
  ⟨(some 41), .move (.tmp (40 : Nat)), none⟩,
  ⟨(some 42), .load 35 (.tmp (1 : Nat)), (some (41, true))⟩,
  ⟨(some 43), .build 35 #[(0, (.const (.int .i64 10000)))], (some (41, true))⟩,
  ⟨(some 44), .binOp .eql 35 (.tmp (42 : Nat)) (.tmp (43 : Nat)) 35, (some (41, true))⟩,
  ⟨(some 45), .pick (.tmp (41 : Nat)) (.tmp (44 : Nat)) (.const (.bool false)), none⟩,
  ⟨(some 46), .move (.tmp (45 : Nat)), none⟩,
  ⟨(some 47), .move (.tmp (4 : Nat)), (some (46, true))⟩,
  ⟨(some 48), .binOp .eql 24 (.tmp (47 : Nat)) (.const (.int .i64 0)) 24, (some (46, true))⟩,
  ⟨(some 49), .pick (.tmp (46 : Nat)) (.tmp (48 : Nat)) (.const (.bool false)), none⟩,
  ⟨(some 50), .move (.tmp (49 : Nat)), none⟩,
  ⟨(some 51), .load 33 (.tmp (3 : Nat)), (some (50, true))⟩,
  ⟨(some 52), .call ⟨(.value (.func (51 : Nat))), #[], #[]⟩, (some (50, true))⟩,
  ⟨(some 53), .binOp .eql 33 (.tmp (51 : Nat)) (.tmp (52 : Nat)) 33, (some (50, true))⟩,
  ⟨(some 54), .pick (.tmp (50 : Nat)) (.tmp (53 : Nat)) (.const (.bool false)), none⟩,
  ⟨(some 55), .move (.tmp (54 : Nat)), none⟩,
  ⟨(some 56), .move (.tmp (6 : Nat)), (some (55, true))⟩,
  ⟨(some 57), .binOp .eql 24 (.tmp (56 : Nat)) (.const (.int .i64 0)) 24, (some (55, true))⟩,
  ⟨(some 58), .pick (.tmp (55 : Nat)) (.tmp (57 : Nat)) (.const (.bool false)), none⟩,
  ⟨(some 59), .move (.tmp (58 : Nat)), none⟩,
  ⟨(some 60), .move (.tmp (5 : Nat)), (some (59, true))⟩,
  ⟨(some 61), .binOp .eql 3 (.tmp (60 : Nat)) (.const (.int .i64 7937)) 3, (some (59, true))⟩,
  ⟨(some 62), .pick (.tmp (59 : Nat)) (.tmp (61 : Nat)) (.const (.bool false)), none⟩,
  ⟨(some 63), .move (.tmp (62 : Nat)), none⟩,
  ⟨(some 64), .move (.tmp (8 : Nat)), (some (63, true))⟩,
  ⟨(some 65), .binOp .eql 24 (.tmp (64 : Nat)) (.const (.int .i64 0)) 24, (some (63, true))⟩,
  ⟨(some 66), .pick (.tmp (63 : Nat)) (.tmp (65 : Nat)) (.const (.bool false)), none⟩,
  ⟨(some 67), .move (.tmp (66 : Nat)), none⟩,
  ⟨(some 68), .move (.tmp (7 : Nat)), (some (67, true))⟩,
  ⟨(some 69), .binOp .eql 3 (.tmp (68 : Nat)) (.const (.int .i64 500)) 3, (some (67, true))⟩,
  ⟨(some 70), .pick (.tmp (67 : Nat)) (.tmp (69 : Nat)) (.const (.bool false)), none⟩,
  ⟨(some 71), .move (.tmp (70 : Nat)), none⟩,
  ⟨(some 72), .move (.tmp (10 : Nat)), (some (71, true))⟩,
  ⟨(some 73), .binOp .eql 24 (.tmp (72 : Nat)) (.const (.int .i64 0)) 24, (some (71, true))⟩,
  ⟨(some 74), .pick (.tmp (71 : Nat)) (.tmp (73 : Nat)) (.const (.bool false)), none⟩,
  ⟨(some 75), .move (.tmp (74 : Nat)), none⟩,
  ⟨(some 76), .load 35 (.tmp (9 : Nat)), (some (75, true))⟩,
  ⟨(some 77), .build 35 #[(0, (.const (.int .i64 5000))), (1, (.const (.int .i64 (-2)))), (2, (.const (.int .i64 3)))], (some (75, true))⟩,
  ⟨(some 78), .binOp .eql 35 (.tmp (76 : Nat)) (.tmp (77 : Nat)) 35, (some (75, true))⟩,
  ⟨(some 79), .pick (.tmp (75 : Nat)) (.tmp (78 : Nat)) (.const (.bool false)), none⟩,
  ⟨(some 0), .assign (.tmp (79 : Nat)), none⟩]
def K2_refspaceWorks_a6 : List (List Nat) := [[], [0], [1], [2], [2], [3, 4, 2], [2, 5], [6, 2], [7], [8, 7], [7, 9], [10, 7], [11], [11, 11], [12, 13, 11], [11, 14], [15, 13], [16], [17, 16], [16, 18], [19, 16], [20], [21, 20], [20, 22], [23, 20], [24], [25, 24], [24, 26], [27, 24], [28], [29, 28], [28, 30], [31, 28], [32], [33, 32], [32, 34], [35, 32], [36], [36], [37, 38, 36], [36, 39], [40, 36, 0, 1, 2, 3, 4, 5, 6, 7, 8, 9, 10, 11, 12, 13, 14, 15, 16, 17, 18, 19, 20, 21, 22, 23, 24, 25, 26, 27, 28, 29, 30, 31, 32, 33, 34, 35, 36, 37, 38, 39, 40]]
def K2_refspaceWorks_c : SF := ⟨80, (.seq (.reg K2_refspaceWorks_r0)
  (.seq (.reg K2_refspaceWorks_r1)
  (.seq (.reg K2_refspaceWorks_r2)
  (.seq (.reg K2_refspaceWorks_r3)
  (.seq (.reg K2_refspaceWorks_r4)
  (.seq (.reg K2_refspaceWorks_r5)
  (.seq (.regd K2_refspaceWorks_r6 K2_refspaceWorks_a6)
  .ret))))))), [.tmp 0]⟩
theorem K2_refspaceWorks_s : slimF Try.prog 21 = some K2_refspaceWorks_c := by kernel_rfl
abbrev K2_refspaceWorks_f : Nat := 21
/-- printworks/printworkskeep2.inklimitWorks -/
def K2_inklimitWorks_r0 : List SO := [⟨(some 0), .assign (.const (.bool false)), none⟩]
def K2_inklimitWorks_r1 : List SO := [⟨(some 9), .buildSlice 22 4 #[(0, (.const (.int .i64 200))), (1, (.const (.int .i64 200))), (2, (.const (.int .i64 200))), (3, (.const (.int .i64 100)))], none⟩,
  ⟨(some 10), .call ⟨(.value (.func (28 : Nat))), #[(.tmp (9 : Nat)), (.const (.int .i64 3)), (.const (.int .i64 400))], #[22, 3, 3]⟩, none⟩,
  ⟨(some 8), .move (.tmp (10 : Nat)), none⟩,
  ⟨(some 11), .extract (.tmp (8 : Nat)) 0, none⟩,
  ⟨(some 12), .extract (.tmp (8 : Nat)) 1, none⟩,
  ⟨(some 1), .assign (.tmp (11 : Nat)), none⟩,
  ⟨(some 2), .assign (.tmp (12 : Nat)), none⟩]
def K2_inklimitWorks_r2 : List SO := [⟨(some 14), .buildSlice 22 4 #[(0, (.const (.int .i64 100))), (1, (.const (.int .i64 150))), (2, (.const (.int .i64 120))), (3, (.const (.int .i64 20)))], none⟩,
  ⟨(some 15), .call ⟨(.value (.func (61 : Nat))), #[], #[]⟩, none⟩,
  ⟨(some 16), .call ⟨(.value (.func (30 : Nat))), #[(.tmp (14 : Nat)), (.tmp (15 : Nat))], #[22, 52]⟩, none⟩,
  ⟨(some 13), .move (.tmp (16 : Nat)), none⟩,
  ⟨(some 17), .extract (.tmp (13 : Nat)) 0, none⟩,
  ⟨(some 18), .extract (.tmp (13 : Nat)) 1, none⟩,
  ⟨(some 19), .extract (.tmp (13 : Nat)) 2, none⟩,
  ⟨(some 3), .assign (.tmp (17 : Nat)), none⟩,
  ⟨(some 4), .assign (.tmp (18 : Nat)), none⟩,
  ⟨(some 5), .assign (.tmp (19 : Nat)), none⟩]
def K2_inklimitWorks_r3 : List SO := [⟨(some 21), .buildSlice 22 4 #[(0, (.const (.int .i64 100))), (1, (.const (.int .i64 150))), (2, (.const (.int .i64 120))), (3, (.const (.int .i64 20)))], none⟩,
  ⟨(some 22), .call ⟨(.value (.func (61 : Nat))), #[], #[]⟩, none⟩,
  ⟨(some 23), .call ⟨(.value (.func (62 : Nat))), #[(.tmp (21 : Nat)), (.tmp (22 : Nat)), (.const (.int .i64 150))], #[22, 52, 3]⟩, none⟩,
  ⟨(some 20), .move (.tmp (23 : Nat)), none⟩,
  ⟨(some 24), .extract (.tmp (20 : Nat)) 0, none⟩,
  ⟨(some 25), .extract (.tmp (20 : Nat)) 1, none⟩,
  ⟨(some 6), .assign (.tmp (24 : Nat)), none⟩,
  ⟨(some 7), .assign (.tmp (25 : Nat)), none⟩]
def K2_inklimitWorks_r4 : List SO := [⟨(some 26), .move (.tmp (2 : Nat)), none⟩,
  ⟨(some 27), .binOp .eql 24 (.tmp (26 : Nat)) (.const (.int .i64 0)) 24, none⟩,
  ⟨(some 28), .move (.tmp (27 : Nat)), none⟩,
  ⟨(some 29), .move (.tmp (1 : Nat)), (some (28, true))⟩,
  ⟨(some 30), .buildSlice 22 4 #[(0, (.const (.int .i64 100))), (1, (.const (.int .i64 100))), (2, (.const (.int .i64 100))), (3, (.const (.int .i64 100)))], (some (28, true))⟩,
  ⟨(some 31), .call ⟨(.value (.func (20 : Nat))), #[(.tmp (29 : Nat)), (.tmp (30 : Nat))], #[22, 22]⟩, (some (28, true))⟩,
  ⟨(some 32), .pick (.tmp (28 : Nat)) (.tmp (31 : Nat)) (.const (.bool false)), none⟩,
  ⟨(some 33), .move (.tmp (32 : Nat)), none⟩,
  ⟨(some 34), .move (.tmp (5 : Nat)), (some (33, true))⟩,
  ⟨(some 35), .binOp .eql 24 (.tmp (34 : Nat)) (.const (.int .i64 0)) 24, (some (33, true))⟩,
  ⟨(some 36), .pick (.tmp (33 : Nat)) (.tmp (35 : Nat)) (.const (.bool false)), none⟩,
  ⟨(some 37), .move (.tmp (36 : Nat)), none⟩,
  ⟨(some 38), .move (.tmp (4 : Nat)), (some (37, true))⟩,
  ⟨(some 39), .binOp .eql 3 (.tmp (38 : Nat)) (.const (.int .i64 100)) 3, (some (37, true))⟩,
  ⟨(some 40), .pick (.tmp (37 : Nat)) (.tmp (39 : Nat)) (.const (.bool false)), none⟩,
  ⟨(some 41), .move (.tmp (40 : Nat)), none⟩,
  ⟨(some 42), .move (.tmp (3 : Nat)), (some (41, true))⟩,
  ⟨(some 43), .buildSlice 22 4 #[(0, (.const (.int .i64 0))), (1, (.const (.int .i64 50))), (2, (.const (.int .i64 20))), (3, (.const (.int .i64 120)))], (some (41, true))⟩,
  ⟨(some 44), .call ⟨(.value (.func (20 : Nat))), #[(.tmp (42 : Nat)), (.tmp (43 : Nat))], #[22, 22]⟩, (some (41, true))⟩,
  ⟨(some 45), .pick (.tmp (41 : Nat)) (.tmp (44 : Nat)) (.const (.bool false)), none⟩,
  ⟨(some 46), .move (.tmp (45 : Nat)), none⟩,
  ⟨(some 47), .move (.tmp (7 : Nat)), (some (46, true))⟩,
  ⟨(some 48), .binOp .eql 24 (.tmp (47 : Nat)) (.const (.int .i64 0)) 24, (some (46, true))⟩,
  ⟨(some 49), .pick (.tmp (46 : Nat)) (.tmp (48 : Nat)) (.const (.bool false)), none⟩,
  ⟨(some 50), .move (.tmp (49 : Nat)), none⟩,
  ⟨(some 51), .move (.tmp (6 : Nat)), (some (50, true))⟩,
  ⟨(some 52), .buildSlice 22 4 #[(0, (.const (.int .i64 0))), (1, (.const (.int .i64 21))), (2, (.const (.int .i64 8))), (3, (.const (.int .i64 120)))], (some (50, true))⟩,
  ⟨(some 53), .call ⟨(.value (.func (20 : Nat))), #[(.tmp (51 : Nat)), (.tmp (52 : Nat))], #[22, 22]⟩, (some (50, true))⟩,
  ⟨(some 54), .pick (.tmp (50 : Nat)) (.tmp (53 : Nat)) (.const (.bool false)), none⟩,
  ⟨(some 0), .assign (.tmp (54 : Nat)), none⟩]
def K2_inklimitWorks_c : SF := ⟨55, (.seq (.reg K2_inklimitWorks_r0)
  (.seq (.reg K2_inklimitWorks_r1)
  (.seq (.reg K2_inklimitWorks_r2)
  (.seq (.reg K2_inklimitWorks_r3)
  (.seq (.reg K2_inklimitWorks_r4)
  .ret))))), [.tmp 0]⟩
theorem K2_inklimitWorks_s : slimF Try.prog 27 = some K2_inklimitWorks_c := by kernel_rfl
abbrev K2_inklimitWorks_f : Nat := 27
/-- printworks/printworkskeep2.curveWorks -/
def K2_curveWorks_r0 : List SO := [⟨(some 0), .assign (.const (.bool false)), none⟩]
def K2_curveWorks_r1 : List SO := [⟨(some 10), .call ⟨(.value (.func (67 : Nat))), #[], #[]⟩, none⟩,
  ⟨(some 11), .call ⟨(.value (.func (35 : Nat))), #[(.tmp (10 : Nat)), (.const (.int .i64 48960))], #[52, 3]⟩, none⟩,
  ⟨(some 9), .move (.tmp (11 : Nat)), none⟩,
  ⟨(some 12), .extract (.tmp (9 : Nat)) 0, none⟩,
  ⟨(some 13), .extract (.tmp (9 : Nat)) 1, none⟩,
  ⟨(some 1), .assign (.tmp (12 : Nat)), none⟩,
  ⟨(some 2), .assign (.tmp (13 : Nat)), none⟩]
def K2_curveWorks_r2 : List SO := [⟨(some 15), .call ⟨(.value (.func (67 : Nat))), #[], #[]⟩, none⟩,
  ⟨(some 16), .call ⟨(.value (.func (68 : Nat))), #[(.tmp (15 : Nat)), (.const (.int .i64 16321))], #[52, 3]⟩, none⟩,
  ⟨(some 14), .move (.tmp (16 : Nat)), none⟩,
  ⟨(some 17), .extract (.tmp (14 : Nat)) 0, none⟩,
  ⟨(some 18), .extract (.tmp (14 : Nat)) 1, none⟩,
  ⟨(some 3), .assign (.tmp (17 : Nat)), none⟩,
  ⟨(some 4), .assign (.tmp (18 : Nat)), none⟩]
def K2_curveWorks_r3 : List SO := [⟨(some 20), .call ⟨(.value (.func (67 : Nat))), #[], #[]⟩, none⟩,
  ⟨(some 21), .call ⟨(.value (.func (69 : Nat))), #[(.tmp (20 : Nat))], #[52]⟩, none⟩,
  ⟨(some 19), .move (.tmp (21 : Nat)), none⟩,
  ⟨(some 22), .extract (.tmp (19 : Nat)) 0, none⟩,
  ⟨(some 23), .extract (.tmp (19 : Nat)) 1, none⟩,
  ⟨(some 5), .assign (.tmp (22 : Nat)), none⟩,
  ⟨(some 6), .assign (.tmp (23 : Nat)), none⟩]
def K2_curveWorks_r4 : List SO := [⟨(some 25), .build 64 #[(1, (.const (.int .i64 10)))], none⟩,
  ⟨(some 26), .build 64 #[(0, (.const (.int .i64 100))), (1, (.const (.int .i64 4)))], none⟩,
  ⟨(some 27), .build 64 #[(0, (.const (.int .i64 200))), (1, (.const (.int .i64 20)))], none⟩,
  ⟨(some 28), .buildSlice 50 3 #[(0, (.tmp (25 : Nat))), (1, (.tmp (26 : Nat))), (2, (.tmp (27 : Nat)))], none⟩,
  ⟨(some 29), .call ⟨(.value (.func (70 : Nat))), #[(.tmp (28 : Nat))], #[50]⟩, none⟩,
  ⟨(some 24), .move (.tmp (29 : Nat)), none⟩,
  ⟨(some 30), .extract (.tmp (24 : Nat)) 0, none⟩,
  ⟨(some 31), .extract (.tmp (24 : Nat)) 1, none⟩,
  ⟨(some 7), .alloc 52, none⟩,
  ⟨none, .store 52 (.tmp (7 : Nat)) (.tmp (30 : Nat)), none⟩,
  ⟨(some 8), .assign (.tmp (31 : Nat)), none⟩]
def K2_curveWorks_r5 : List SO := [⟨(some 32), .move (.tmp (2 : Nat)), none⟩,
  ⟨(some 33), .binOp .eql 24 (.tmp (32 : Nat)) (.const (.int .i64 0)) 24, none⟩,
  ⟨(some 34), .move (.tmp (33 : Nat)), none⟩,
  ⟨(some 35), .move (.tmp (1 : Nat)), (some (34, true))⟩,
  ⟨(some 36), .binOp .eql 3 (.tmp (35 : Nat)) (.const (.int .i64 40800)) 3, (some (34, true))⟩,
  ⟨(some 37), .pick (.tmp (34 : Nat)) (.tmp (36 : Nat)) (.const (.bool false)), none⟩,
  ⟨(some 38), .move (.tmp (37 : Nat)), none⟩,
  ⟨(some 39), .move (.tmp (4 : Nat)), (some (38, true))⟩,
  ⟨(some 40), .binOp .eql 24 (.tmp (39 : Nat)) (.const (.int .i64 0)) 24, (some (38, true))⟩,
  ⟨(some 41), .pick (.tmp (38 : Nat)) (.tmp (40 : Nat)) (.const (.bool false)), none⟩,
  ⟨(some 42), .move (.tmp (41 : Nat)), none⟩,
  ⟨(some 43), .move (.tmp (3 : Nat)), (some (42, true))⟩,
  ⟨(some 44), .binOp .eql 3 (.tmp (43 : Nat)) (.const (.int .i64 32641)) 3, (some (42, true))⟩,
  ⟨(some 45), .pick (.tmp (42 : Nat)) (.tmp (44 : Nat)) (.const (.bool false)), none⟩,
  ⟨(some 46), .move (.tmp (45 : Nat)), none⟩,
  ⟨(some 47), .move (.tmp (6 : Nat)), (some (46, true))⟩,
  ⟨(some 48), .binOp .eql 24 (.tmp (47 : Nat)) (.const (.int .i64 0)) 24, (some (46, true))⟩,
  ⟨(some 49), .pick (.tmp (46 : Nat)) (.tmp (48 : Nat)) (.const (.bool false)), none⟩,
  ⟨(some 50), .move (.tmp (49 : Nat)), none⟩,
  ⟨(some 51), .move (.tmp (5 : Nat)), (some (50, true))⟩,
  ⟨(some 52), .call ⟨(.builtin .len), #[(.tmp (51 : Nat))], #[22]⟩, (some (50, true))⟩,
  ⟨(some 53), .binOp .eql 3 (.tmp (52 : Nat)) (.const (.int .i64 256)) 3, (some (50, true))⟩,
  ⟨(some 54), .pick (.tmp (50 : Nat)) (.tmp (53 : Nat)) (.const (.bool false)), none⟩,
  ⟨(some 55), .move (.tmp (54 : Nat)), none⟩,
  ⟨(some 56), .move (.tmp (5 : Nat)), (some (55, true))⟩,
  ⟨(some 57), .indexAddr 22 (.tmp (56 : Nat)) (.const (.int .i64 128)), (some (55, true))⟩,
  ⟨(some 58), .load 3 (.tmp (57 : Nat)), (some (55, true))⟩,
  ⟨(some 59), .binOp .eql 3 (.tmp (58 : Nat)) (.const (.int .i64 65)) 3, (some (55, true))⟩,
  ⟨(some 60), .pick (.tmp (55 : Nat)) (.tmp (59 : Nat)) (.const (.bool false)), none⟩,
  ⟨(some 61), .move (.tmp (60 : Nat)), none⟩,
  ⟨(some 62), .move (.tmp (8 : Nat)), (some (61, true))⟩,
  ⟨(some 63), .binOp .eql 24 (.tmp (62 : Nat)) (.const (.int .i64 0)) 24, (some (61, true))⟩,
  ⟨(some 64), .pick (.tmp (61 : Nat)) (.tmp (63 : Nat)) (.const (.bool false)), none⟩,
  ⟨(some 65), .move (.tmp (64 : Nat)), none⟩,
  ⟨(some 66), .fieldAddr 52 (.tmp (7 : Nat)) 0, (some (65, true))⟩,
  ⟨(some 67), .load 50 (.tmp (66 : Nat)), (some (65, true))⟩,
  ⟨(some 68), .call ⟨(.builtin .len), #[(.tmp (67 : Nat))], #[50]⟩, (some (65, true))⟩,
  ⟨(some 69), .binOp .eql 3 (.tmp (68 : Nat)) (.const (.int .i64 4)) 3, (some (65, true))⟩,
  ⟨(some 70), .pick (.tmp (65 : Nat)) (.tmp (69 : Nat)) (.const (.bool false)), none⟩,
  ⟨(some 71), .move (.tmp (70 : Nat)), none⟩,
  ⟨(some 72), .fieldAddr 52 (.tmp (7 : Nat)) 0, (some (71, true))⟩,
  ⟨(some 73), .load 50 (.tmp (72 : Nat)), (some (71, true))⟩,
  ⟨(some 74), .indexAddr 50 (.tmp (73 : Nat)) (.const (.int .i64 1)), (some (71, true))⟩,
  ⟨(some 75), .load 64 (.tmp (74 : Nat)), (some (71, true))⟩,
  ⟨(some 76), .build 64 #[(0, (.const (.int .i64 100))), (1, (.const (.int .i64 7)))], (some (71, true))⟩,
  ⟨(some 77), .binOp .eql 64 (.tmp (75 : Nat)) (.tmp (76 : Nat)) 64, (some (71, true))⟩,
  ⟨(some 78), .pick (.tmp (71 : Nat)) (.tmp (77 : Nat)) (.const (.bool false)), none⟩,
  ⟨(some 0), .assign (.tmp (78 : Nat)), none⟩]
def K2_curveWorks_c : SF := ⟨79, (.seq (.reg K2_curveWorks_r0)
  (.seq (.reg K2_curveWorks_r1)
  (.seq (.reg K2_curveWorks_r2)
  (.seq (.reg K2_curveWorks_r3)
  (.seq (.reg K2_curveWorks_r4)
  (.seq (.reg K2_curveWorks_r5)
  .ret)))))), [.tmp 0]⟩
theorem K2_curveWorks_s : slimF Try.prog 31 = some K2_curveWorks_c := by kernel_rfl
abbrev K2_curveWorks_f : Nat := 31
/-- printworks/printworkskeep2.spotWorks -/
def K2_spotWorks_r0 : List SO := [⟨(some 0), .assign (.const (.bool false)), none⟩]
def K2_spotWorks_r1 : List SO := [⟨(some 8), .call ⟨(.value (.func (75 : Nat))), #[], #[]⟩, none⟩,
  ⟨(some 9), .call ⟨(.value (.func (41 : Nat))), #[(.tmp (8 : Nat)), (.const (.int .i64 51))], #[77, 3]⟩, none⟩,
  ⟨(some 7), .move (.tmp (9 : Nat)), none⟩,
  ⟨(some 10), .extract (.tmp (7 : Nat)) 0, none⟩,
  ⟨(some 11), .extract (.tmp (7 : Nat)) 1, none⟩,
  ⟨(some 1), .alloc 35, none⟩,
  ⟨none, .store 35 (.tmp (1 : Nat)) (.tmp (10 : Nat)), none⟩,
  ⟨(some 2), .assign (.tmp (11 : Nat)), none⟩]
def K2_spotWorks_r2 : List SO := [⟨(some 13), .call ⟨(.value (.func (75 : Nat))), #[], #[]⟩, none⟩,
  ⟨(some 14), .call ⟨(.value (.func (76 : Nat))), #[(.tmp (13 : Nat)), (.const (.int .i64 51))], #[77, 3]⟩, none⟩,
  ⟨(some 12), .move (.tmp (14 : Nat)), none⟩,
  ⟨(some 15), .extract (.tmp (12 : Nat)) 0, none⟩,
  ⟨(some 16), .extract (.tmp (12 : Nat)) 1, none⟩,
  ⟨(some 3), .assign (.tmp (15 : Nat)), none⟩,
  ⟨(some 4), .assign (.tmp (16 : Nat)), none⟩]
def K2_spotWorks_r3 : List SO := [⟨(some 18), .call ⟨(.value (.func (75 : Nat))), #[], #[]⟩, none⟩,
  ⟨(some 19), .buildSlice 72 1 #[(0, (.tmp (18 : Nat)))], none⟩,
  ⟨(some 20), .buildSlice 22 4 #[(0, (.const (.int .i64 10))), (1, (.const (.int .i64 220))), (2, (.const (.int .i64 0))), (3, (.const (.int .i64 0)))], none⟩,
  ⟨(some 21), .buildSlice 73 1 #[(0, (.const (.string ⟨([108, 101, 97, 102] : List UInt8).toArray⟩)))], none⟩,
  ⟨(some 22), .buildSlice 22 1 #[(0, (.const (.int .i64 51)))], none⟩,
  ⟨(some 23), .call ⟨(.value (.func (40 : Nat))), #[(.tmp (19 : Nat)), (.tmp (20 : Nat)), (.tmp (21 : Nat)), (.tmp (22 : Nat))], #[72, 22, 73, 22]⟩, none⟩,
  ⟨(some 17), .move (.tmp (23 : Nat)), none⟩,
  ⟨(some 24), .extract (.tmp (17 : Nat)) 0, none⟩,
  ⟨(some 25), .extract (.tmp (17 : Nat)) 1, none⟩,
  ⟨(some 5), .assign (.tmp (24 : Nat)), none⟩,
  ⟨(some 6), .assign (.tmp (25 : Nat)), none⟩]
def K2_spotWorks_r4 : List SO := [⟨(some 26), .move (.tmp (2 : Nat)), none⟩,
  ⟨(some 27), .binOp .eql 24 (.tmp (26 : Nat)) (.const (.int .i64 0)) 24, none⟩,
  ⟨(some 28), .move (.tmp (27 : Nat)), none⟩,
  ⟨(some 29), .load 35 (.tmp (1 : Nat)), (some (28, true))⟩,
  ⟨(some 30), .build 35 #[(0, (.const (.int .i64 8200))), (1, (.const (.int .i64 400))), (2, (.const (.int .i64 (-200))))], (some (28, true))⟩,
  ⟨(some 31), .binOp .eql 35 (.tmp (29 : Nat)) (.tmp (30 : Nat)) 35, (some (28, true))⟩,
  ⟨(some 32), .pick (.tmp (28 : Nat)) (.tmp (31 : Nat)) (.const (.bool false)), none⟩,
  ⟨(some 33), .move (.tmp (32 : Nat)), none⟩,
  ⟨(some 34), .move (.tmp (4 : Nat)), (some (33, true))⟩,
  ⟨(some 35), .binOp .eql 24 (.tmp (34 : Nat)) (.const (.int .i64 0)) 24, (some (33, true))⟩,
  ⟨(some 36), .pick (.tmp (33 : Nat)) (.tmp (35 : Nat)) (.const (.bool false)), none⟩,
  ⟨(some 37), .move (.tmp (36 : Nat)), none⟩,
  ⟨(some 38), .move (.tmp (3 : Nat)), (some (37, true))⟩,
  ⟨(some 39), .buildSlice 22 4 #[(0, (.const (.int .i64 0))), (1, (.const (.int .i64 51))), (2, (.const (.int .i64 20))), (3, (.const (.int .i64 2)))], (some (37, true))⟩,
  ⟨(some 40), .call ⟨(.value (.func (20 : Nat))), #[(.tmp (38 : Nat)), (.tmp (39 : Nat))], #[22, 22]⟩, (some (37, true))⟩,
  ⟨(some 41), .pick (.tmp (37 : Nat)) (.tmp (40 : Nat)) (.const (.bool false)), none⟩,
  ⟨(some 42), .move (.tmp (41 : Nat)), none⟩,
  ⟨(some 43), .move (.tmp (6 : Nat)), (some (42, true))⟩,
  ⟨(some 44), .binOp .eql 24 (.tmp (43 : Nat)) (.const (.int .i64 0)) 24, (some (42, true))⟩,
  ⟨(some 45), .pick (.tmp (42 : Nat)) (.tmp (44 : Nat)) (.const (.bool false)), none⟩,
  ⟨(some 46), .move (.tmp (45 : Nat)), none⟩,
  ⟨(some 47), .move (.tmp (5 : Nat)), (some (46, true))⟩,
  ⟨(some 48), .buildSlice 22 4 #[(0, (.const (.int .i64 10))), (1, (.const (.int .i64 255))), (2, (.const (.int .i64 20))), (3, (.const (.int .i64 2)))], (some (46, true))⟩,
  ⟨(some 49), .call ⟨(.value (.func (20 : Nat))), #[(.tmp (47 : Nat)), (.tmp (48 : Nat))], #[22, 22]⟩, (some (46, true))⟩,
  ⟨(some 50), .pick (.tmp (46 : Nat)) (.tmp (49 : Nat)) (.const (.bool false)), none⟩,
  ⟨(some 0), .assign (.tmp (50 : Nat)), none⟩]
def K2_spotWorks_c : SF := ⟨51, (.seq (.reg K2_spotWorks_r0)
  (.seq (.reg K2_spotWorks_r1)
  (.seq (.reg K2_spotWorks_r2)
  (.seq (.reg K2_spotWorks_r3)
  (.seq (.reg K2_spotWorks_r4)
  .ret))))), [.tmp 0]⟩
theorem K2_spotWorks_s : slimF Try.prog 39 = some K2_spotWorks_c := by kernel_rfl
abbrev K2_spotWorks_f : Nat := 39
/-- printworks/printworkskeep2.paper -/
def K2_paper_r0 : List SO := [⟨(some 0), .alloc 33, none⟩]
def K2_paper_r1 : List SO := [⟨(some 1), .build 33 #[(0, (.const (.int .i64 96420))), (1, (.const (.int .i64 100000))), (2, (.const (.int .i64 82490)))], none⟩,
  ⟨none, .store 33 (.tmp (0 : Nat)) (.tmp (1 : Nat)), none⟩]
def K2_paper_c : SF := ⟨2, (.seq (.reg K2_paper_r0)
  (.seq (.reg K2_paper_r1)
  .ret)), [.cell 0 33]⟩
theorem K2_paper_s : slimF Try.prog 51 = some K2_paper_c := by kernel_rfl
abbrev K2_paper_f : Nat := 51
/-- printworks/printworkskeep2.line -/
def K2_line_r0 : List SO := [⟨(some 0), .alloc 52, none⟩]
def K2_line_r1 : List SO := [⟨(some 1), .build 64 #[], none⟩,
  ⟨(some 2), .build 64 #[(0, (.const (.int .i64 65280))), (1, (.const (.int .i64 65280)))], none⟩,
  ⟨(some 3), .buildSlice 50 2 #[(0, (.tmp (1 : Nat))), (1, (.tmp (2 : Nat)))], none⟩,
  ⟨(some 4), .build 52 #[(0, (.tmp (3 : Nat)))], none⟩,
  ⟨none, .store 52 (.tmp (0 : Nat)) (.tmp (4 : Nat)), none⟩]
def K2_line_c : SF := ⟨5, (.seq (.reg K2_line_r0)
  (.seq (.reg K2_line_r1)
  .ret)), [.cell 0 52]⟩
theorem K2_line_s : slimF Try.prog 61 = some K2_line_c := by kernel_rfl
abbrev K2_line_f : Nat := 61
/-- printworks/printworkskeep2.bent -/
def K2_bent_r0 : List SO := [⟨(some 0), .alloc 52, none⟩]
def K2_bent_r1 : List SO := [⟨(some 1), .build 64 #[], none⟩,
  ⟨(some 2), .build 64 #[(0, (.const (.int .i64 32640))), (1, (.const (.int .i64 16320)))], none⟩,
  ⟨(some 3), .build 64 #[(0, (.const (.int .i64 65280))), (1, (.const (.int .i64 65280)))], none⟩,
  ⟨(some 4), .buildSlice 50 3 #[(0, (.tmp (1 : Nat))), (1, (.tmp (2 : Nat))), (2, (.tmp (3 : Nat)))], none⟩,
  ⟨(some 5), .build 52 #[(0, (.tmp (4 : Nat)))], none⟩,
  ⟨none, .store 52 (.tmp (0 : Nat)) (.tmp (5 : Nat)), none⟩]
def K2_bent_c : SF := ⟨6, (.seq (.reg K2_bent_r0)
  (.seq (.reg K2_bent_r1)
  .ret)), [.cell 0 52]⟩
theorem K2_bent_s : slimF Try.prog 67 = some K2_bent_c := by kernel_rfl
abbrev K2_bent_f : Nat := 67
/-- printworks/printworkskeep2.leaf -/
def K2_leaf_r0 : List SO := [⟨(some 0), .alloc 77, none⟩]
def K2_leaf_r1 : List SO := [⟨(some 1), .build 35 #[(0, (.const (.int .i64 9000)))], none⟩,
  ⟨(some 2), .build 35 #[(0, (.const (.int .i64 5000))), (1, (.const (.int .i64 2000))), (2, (.const (.int .i64 (-1000))))], none⟩,
  ⟨(some 3), .call ⟨(.value (.func (61 : Nat))), #[], #[]⟩, none⟩,
  ⟨(some 4), .buildSlice 22 4 #[(0, (.const (.int .i64 0))), (1, (.const (.int .i64 255))), (2, (.const (.int .i64 100))), (3, (.const (.int .i64 10)))], none⟩,
  ⟨(some 5), .build 77 #[(0, (.const (.string ⟨([108, 101, 97, 102] : List UInt8).toArray⟩))), (1, (.tmp (1 : Nat))), (2, (.tmp (2 : Nat))), (3, (.tmp (3 : Nat))), (4, (.tmp (4 : Nat)))], none⟩,
  ⟨none, .store 77 (.tmp (0 : Nat)) (.tmp (5 : Nat)), none⟩]
def K2_leaf_c : SF := ⟨6, (.seq (.reg K2_leaf_r0)
  (.seq (.reg K2_leaf_r1)
  .ret)), [.cell 0 77]⟩
theorem K2_leaf_s : slimF Try.prog 75 = some K2_leaf_c := by kernel_rfl
abbrev K2_leaf_f : Nat := 75

def tbl_K2 : List (Nat × SF) := [(15, K2_overprintWorks_c), (21, K2_refspaceWorks_c), (27, K2_inklimitWorks_c), (31, K2_curveWorks_c), (39, K2_spotWorks_c), (51, K2_paper_c), (61, K2_line_c), (67, K2_bent_c), (75, K2_leaf_c)]
theorem tbl_K2_ok : okT Try.prog tbl_K2 := ⟨K2_overprintWorks_s, K2_refspaceWorks_s, K2_inklimitWorks_s, K2_curveWorks_s, K2_spotWorks_s, K2_paper_s, K2_line_s, K2_bent_s, K2_leaf_s, trivial⟩

end Go.Proofs.Ytfgaefpdccdfiaa
namespace Go.Proofs.Ytfgaefpdccdfiaa
open Go Go.Lite
set_option linter.unusedVariables false

/-- printworks/printworkskeep2.OverprintSolids -/
def K2_OverprintSolids_r0 : List SO := [⟨(some 10), .assign (.const (.bool false)), none⟩]
def K2_OverprintSolids_r1 : List SO := [⟨(some 19), .call ⟨(.value (.func (15 : Nat))), #[], #[]⟩, none⟩,
  ⟨(some 20), .unOp .not 4 (.tmp (19 : Nat)), none⟩]
def K2_OverprintSolids_r2 : List SO := [⟨(some 10), .assign (.const (.bool false)), none⟩]
def K2_OverprintSolids_r3 : List SO := [⟨(some 21), .move (.tmp (1 : Nat)), none⟩,
  ⟨(some 22), .call ⟨(.value (.func (17 : Nat))), #[(.tmp (21 : Nat)), (.const (.int .i64 3))], #[3, 3]⟩, none⟩,
  ⟨(some 23), .binOp .add 3 (.const (.int .i64 1)) (.tmp (22 : Nat)) 3, none⟩,
  ⟨(some 24), .move (.tmp (3 : Nat)), none⟩,
  ⟨(some 25), .call ⟨(.value (.func (17 : Nat))), #[(.tmp (24 : Nat)), (.const (.int .i64 9))], #[3, 3]⟩, none⟩,
  ⟨(some 26), .binOp .add 3 (.const (.int .i64 1)) (.tmp (25 : Nat)) 3, none⟩,
  ⟨(some 27), .move (.tmp (4 : Nat)), none⟩,
  ⟨(some 28), .call ⟨(.value (.func (17 : Nat))), #[(.tmp (27 : Nat)), (.const (.int .i64 9))], #[3, 3]⟩, none⟩,
  ⟨(some 29), .binOp .add 3 (.const (.int .i64 1)) (.tmp (28 : Nat)) 3, none⟩,
  ⟨(some 1), .assign (.tmp (23 : Nat)), none⟩,
  ⟨(some 3), .assign (.tmp (26 : Nat)), none⟩,
  ⟨(some 4), .assign (.tmp (29 : Nat)), none⟩]
def K2_OverprintSolids_r4 : List SO := [⟨(some 30), .move (.tmp (2 : Nat)), none⟩,
  ⟨(some 31), .move (.tmp (1 : Nat)), none⟩,
  ⟨(some 32), .binOp .shl 3 (.const (.int .i64 1)) (.tmp (31 : Nat)) 3, none⟩,
  ⟨(some 33), .call ⟨(.value (.func (17 : Nat))), #[(.tmp (30 : Nat)), (.tmp (32 : Nat))], #[3, 3]⟩, none⟩,
  ⟨(some 2), .assign (.tmp (33 : Nat)), none⟩]
def K2_OverprintSolids_r5 : List SO := [⟨(some 34), .move (.tmp (0 : Nat)), none⟩,
  ⟨(some 35), .call ⟨(.builtin .len), #[(.tmp (34 : Nat))], #[65]⟩, none⟩,
  ⟨(some 36), .move (.tmp (1 : Nat)), none⟩,
  ⟨(some 37), .binOp .shl 3 (.const (.int .i64 1)) (.tmp (36 : Nat)) 3, none⟩,
  ⟨(some 38), .binOp .lss 3 (.tmp (35 : Nat)) (.tmp (37 : Nat)) 3, none⟩]
def K2_OverprintSolids_r6 : List SO := [⟨(some 10), .assign (.const (.bool true)), none⟩]
def K2_OverprintSolids_r7 : List SO := [⟨(some 39), .move (.tmp (0 : Nat)), none⟩,
  ⟨(some 40), .move (.tmp (1 : Nat)), none⟩,
  ⟨(some 41), .binOp .shl 3 (.const (.int .i64 1)) (.tmp (40 : Nat)) 3, none⟩,
  ⟨(some 42), .slice 65 (.tmp (39 : Nat)) none (some (.tmp (41 : Nat))) none, none⟩,
  ⟨(some 0), .assign (.tmp (42 : Nat)), none⟩]
def K2_OverprintSolids_r8 : List SO := [⟨(some 43), .move (.tmp (1 : Nat)), none⟩,
  ⟨(some 44), .makeSlice 22 (.tmp (43 : Nat)) (.tmp (43 : Nat)), none⟩,
  ⟨(some 11), .assign (.tmp (44 : Nat)), none⟩]
def K2_OverprintSolids_r9 : List SO := [⟨(some 45), .move (.tmp (11 : Nat)), none⟩,
  ⟨(some 46), .call ⟨(.builtin .len), #[(.tmp (45 : Nat))], #[22]⟩, none⟩,
  ⟨(some 47), .move (.const (.int .i64 0)), none⟩]
def K2_OverprintSolids_r10 : List SO := [⟨(some 48), .binOp .lss 3 (.tmp (47 : Nat)) (.tmp (46 : Nat)) 3, none⟩]
def K2_OverprintSolids_r11 : List SO := [⟨(some 49), .move (.tmp (47 : Nat)), none⟩,
  ⟨(some 12), .assign (.tmp (49 : Nat)), none⟩]
def K2_OverprintSolids_r12 : List SO := [⟨(some 50), .move (.tmp (11 : Nat)), none⟩,
  ⟨(some 51), .move (.tmp (12 : Nat)), none⟩,
  ⟨(some 52), .move (.tmp (2 : Nat)), none⟩,
  ⟨(some 53), .move (.tmp (12 : Nat)), none⟩,
  ⟨(some 54), .binOp .shr 3 (.tmp (52 : Nat)) (.tmp (53 : Nat)) 3, none⟩,
  ⟨(some 55), .binOp .and 3 (.tmp (54 : Nat)) (.const (.int .i64 1)) 3, none⟩,
  ⟨(some 56), .binOp .mul 3 (.const (.int .i64 255)) (.tmp (55 : Nat)) 3, none⟩,
  ⟨(some 57), .indexAddr 22 (.tmp (50 : Nat)) (.tmp (51 : Nat)), none⟩,
  ⟨none, .store 3 (.tmp (57 : Nat)) (.tmp (56 : Nat)), none⟩]
def K2_OverprintSolids_r13 : List SO := [⟨(some 58), .binOp .add 3 (.tmp (47 : Nat)) (.const (.int .i64 1)) 3, none⟩,
  ⟨(some 47), .move (.tmp (58 : Nat)), none⟩]
def K2_OverprintSolids_r14 : List SO := [⟨(some 59), .move (.tmp (3 : Nat)), none⟩,
  ⟨(some 60), .move (.tmp (4 : Nat)), none⟩,
  ⟨(some 61), .move (.tmp (3 : Nat)), none⟩,
  ⟨(some 62), .move (.tmp (4 : Nat)), none⟩,
  ⟨(some 63), .binOp .mul 3 (.tmp (61 : Nat)) (.tmp (62 : Nat)) 3, none⟩,
  ⟨(some 64), .makeSlice 66 (.tmp (63 : Nat)) (.tmp (63 : Nat)), none⟩,
  ⟨(some 65), .build 68 #[(0, (.tmp (59 : Nat))), (1, (.tmp (60 : Nat))), (2, (.tmp (64 : Nat)))], none⟩,
  ⟨(some 13), .alloc 68, none⟩,
  ⟨none, .store 68 (.tmp (13 : Nat)) (.tmp (65 : Nat)), none⟩]
def K2_OverprintSolids_r15 : List SO := [⟨(some 66), .fieldAddr 68 (.tmp (13 : Nat)) 2, none⟩,
  ⟨(some 67), .load 66 (.tmp (66 : Nat)), none⟩,
  ⟨(some 68), .call ⟨(.builtin .len), #[(.tmp (67 : Nat))], #[66]⟩, none⟩,
  ⟨(some 69), .move (.const (.int .i64 0)), none⟩]
def K2_OverprintSolids_r16 : List SO := [⟨(some 70), .binOp .lss 3 (.tmp (69 : Nat)) (.tmp (68 : Nat)) 3, none⟩]
def K2_OverprintSolids_r17 : List SO := [⟨(some 71), .move (.tmp (69 : Nat)), none⟩,
  ⟨(some 14), .assign (.tmp (71 : Nat)), none⟩]
def K2_OverprintSolids_r18 : List SO := [⟨(some 72), .fieldAddr 68 (.tmp (13 : Nat)) 2, none⟩,
  ⟨(some 73), .load 66 (.tmp (72 : Nat)), none⟩,
  ⟨(some 74), .move (.tmp (14 : Nat)), none⟩,
  ⟨(some 75), .move (.tmp (2 : Nat)), none⟩,
  ⟨(some 76), .convert 3 5 (.tmp (75 : Nat)), none⟩,
  ⟨(some 77), .indexAddr 66 (.tmp (73 : Nat)) (.tmp (74 : Nat)), none⟩,
  ⟨none, .store 5 (.tmp (77 : Nat)) (.tmp (76 : Nat)), none⟩]
def K2_OverprintSolids_r19 : List SO := [⟨(some 78), .binOp .add 3 (.tmp (69 : Nat)) (.const (.int .i64 1)) 3, none⟩,
  ⟨(some 69), .move (.tmp (78 : Nat)), none⟩]
def K2_OverprintSolids_r20 : List SO := [⟨(some 80), .move (.tmp (0 : Nat)), none⟩,
  ⟨(some 81), .move (.tmp (11 : Nat)), none⟩,
  ⟨(some 82), .call ⟨(.value (.func (37 : Nat))), #[(.tmp (80 : Nat)), (.tmp (81 : Nat))], #[65, 22]⟩, none⟩,
  ⟨(some 79), .move (.tmp (82 : Nat)), none⟩,
  ⟨(some 83), .extract (.tmp (79 : Nat)) 0, none⟩,
  ⟨(some 84), .extract (.tmp (79 : Nat)) 1, none⟩,
  ⟨(some 15), .alloc 35, none⟩,
  ⟨none, .store 35 (.tmp (15 : Nat)) (.tmp (83 : Nat)), none⟩,
  ⟨(some 16), .assign (.tmp (84 : Nat)), none⟩]
def K2_OverprintSolids_r21 : List SO := [⟨(some 86), .load 68 (.tmp (13 : Nat)), none⟩,
  ⟨(some 87), .move (.tmp (0 : Nat)), none⟩,
  ⟨(some 88), .call ⟨(.value (.func (38 : Nat))), #[(.tmp (86 : Nat)), (.tmp (87 : Nat))], #[68, 65]⟩, none⟩,
  ⟨(some 85), .move (.tmp (88 : Nat)), none⟩,
  ⟨(some 89), .extract (.tmp (85 : Nat)) 0, none⟩,
  ⟨(some 90), .extract (.tmp (85 : Nat)) 1, none⟩,
  ⟨(some 17), .alloc 35, none⟩,
  ⟨none, .store 35 (.tmp (17 : Nat)) (.tmp (89 : Nat)), none⟩,
  ⟨(some 18), .assign (.tmp (90 : Nat)), none⟩]
def K2_OverprintSolids_r22 : List SO := [⟨(some 91), .move (.tmp (16 : Nat)), none⟩,
  ⟨(some 92), .binOp .neq 24 (.tmp (91 : Nat)) (.const (.int .i64 0)) 24, none⟩,
  ⟨(some 93), .move (.tmp (92 : Nat)), none⟩,
  ⟨(some 94), .move (.tmp (18 : Nat)), (some (93, false))⟩,
  ⟨(some 95), .binOp .neq 24 (.tmp (94 : Nat)) (.const (.int .i64 0)) 24, (some (93, false))⟩,
  ⟨(some 96), .pick (.tmp (93 : Nat)) (.const (.bool true)) (.tmp (95 : Nat)), none⟩]
def K2_OverprintSolids_r23 : List SO := [⟨(some 97), .move (.tmp (16 : Nat)), none⟩,
  ⟨(some 98), .move (.tmp (18 : Nat)), none⟩,
  ⟨(some 99), .binOp .eql 24 (.tmp (97 : Nat)) (.tmp (98 : Nat)) 24, none⟩,
  ⟨(some 100), .move (.tmp (99 : Nat)), none⟩,
  ⟨(some 101), .load 35 (.tmp (15 : Nat)), (some (100, true))⟩,
  ⟨(some 102), .build 35 #[], (some (100, true))⟩,
  ⟨(some 103), .binOp .eql 35 (.tmp (101 : Nat)) (.tmp (102 : Nat)) 35, (some (100, true))⟩,
  ⟨(some 104), .pick (.tmp (100 : Nat)) (.tmp (103 : Nat)) (.const (.bool false)), none⟩,
  ⟨(some 105), .move (.tmp (104 : Nat)), none⟩,
  ⟨(some 106), .load 35 (.tmp (17 : Nat)), (some (105, true))⟩,
  ⟨(some 107), .build 35 #[], (some (105, true))⟩,
  ⟨(some 108), .binOp .eql 35 (.tmp (106 : Nat)) (.tmp (107 : Nat)) 35, (some (105, true))⟩,
  ⟨(some 109), .pick (.tmp (105 : Nat)) (.tmp (108 : Nat)) (.const (.bool false)), none⟩,
  ⟨(some 10), .assign (.tmp (109 : Nat)), none⟩]
def K2_OverprintSolids_r24 : List SO := [⟨(some 110), .load 35 (.tmp (15 : Nat)), none⟩,
  ⟨(some 111), .move (.tmp (0 : Nat)), none⟩,
  ⟨(some 112), .move (.tmp (2 : Nat)), none⟩,
  ⟨(some 113), .indexAddr 65 (.tmp (111 : Nat)) (.tmp (112 : Nat)), none⟩,
  ⟨(some 114), .load 35 (.tmp (113 : Nat)), none⟩,
  ⟨(some 115), .binOp .eql 35 (.tmp (110 : Nat)) (.tmp (114 : Nat)) 35, none⟩,
  ⟨(some 116), .move (.tmp (115 : Nat)), none⟩,
  ⟨(some 117), .load 35 (.tmp (17 : Nat)), (some (116, true))⟩,
  ⟨(some 118), .move (.tmp (0 : Nat)), (some (116, true))⟩,
  ⟨(some 119), .move (.tmp (2 : Nat)), (some (116, true))⟩,
  ⟨(some 120), .indexAddr 65 (.tmp (118 : Nat)) (.tmp (119 : Nat)), (some (116, true))⟩,
  ⟨(some 121), .load 35 (.tmp (120 : Nat)), (some (116, true))⟩,
  ⟨(some 122), .binOp .eql 35 (.tmp (117 : Nat)) (.tmp (121 : Nat)) 35, (some (116, true))⟩,
  ⟨(some 123), .pick (.tmp (116 : Nat)) (.tmp (122 : Nat)) (.const (.bool false)), none⟩,
  ⟨(some 10), .assign (.tmp (123 : Nat)), none⟩]
def K2_OverprintSolids_a24 : List (List Nat) := [[], [], [], [1, 2], [3], [0, 4], [5], [6], [6], [6], [8, 9, 6], [10, 6], [7, 11, 6], [6, 12], [13, 6, 0, 1, 2, 3, 4, 5, 6, 7, 8, 9, 10, 11, 12, 13]]
def K2_OverprintSolids_c : SF := ⟨124, (.seq (.reg K2_OverprintSolids_r0)
  (.seq (.seq (.reg K2_OverprintSolids_r1)
  (.cond (.tmp (20 : Nat)) (.seq (.reg K2_OverprintSolids_r2)
  .ret) .skip))
  (.seq (.reg K2_OverprintSolids_r3)
  (.seq (.reg K2_OverprintSolids_r4)
  (.seq (.seq (.reg K2_OverprintSolids_r5)
  (.cond (.tmp (38 : Nat)) (.seq (.reg K2_OverprintSolids_r6)
  .ret) .skip))
  (.seq (.reg K2_OverprintSolids_r7)
  (.seq (.reg K2_OverprintSolids_r8)
  (.seq (.seq (.reg K2_OverprintSolids_r9)
  (.block 0 (.loop (.seq (.reg K2_OverprintSolids_r10)
  (.seq (.cond (.tmp (48 : Nat)) .skip (.exit 0))
  (.seq (.block 1 (.seq (.reg K2_OverprintSolids_r11)
  (.reg K2_OverprintSolids_r12)))
  (.reg K2_OverprintSolids_r13)))))))
  (.seq (.reg K2_OverprintSolids_r14)
  (.seq (.seq (.reg K2_OverprintSolids_r15)
  (.block 2 (.loop (.seq (.reg K2_OverprintSolids_r16)
  (.seq (.cond (.tmp (70 : Nat)) .skip (.exit 2))
  (.seq (.block 3 (.seq (.reg K2_OverprintSolids_r17)
  (.reg K2_OverprintSolids_r18)))
  (.reg K2_OverprintSolids_r19)))))))
  (.seq (.reg K2_OverprintSolids_r20)
  (.seq (.reg K2_OverprintSolids_r21)
  (.seq (.seq (.reg K2_OverprintSolids_r22)
  (.cond (.tmp (96 : Nat)) (.seq (.reg K2_OverprintSolids_r23)
  .ret) .skip))
  (.seq (.regd K2_OverprintSolids_r24 K2_OverprintSolids_a24)
  .ret)))))))))))))), [.tmp 10]⟩
theorem K2_OverprintSolids_s : slimF Try.prog 11 = some K2_OverprintSolids_c := by kernel_rfl
abbrev K2_OverprintSolids_f : Nat := 11

def tbl_OverprintSolids : List (Nat × SF) := [(11, K2_OverprintSolids_c)]
theorem tbl_OverprintSolids_ok : okT Try.prog tbl_OverprintSolids := ⟨K2_OverprintSolids_s, trivial⟩

end Go.Proofs.Ytfgaefpdccdfiaa
